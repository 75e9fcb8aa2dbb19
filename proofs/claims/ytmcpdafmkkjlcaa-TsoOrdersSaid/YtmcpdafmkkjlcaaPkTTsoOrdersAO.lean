/- TsoOrdersSaid: what its proof is made of. No condition. -/
import Derived.Test.YtmcpdafmkkjlcaaPkTTsoOrdersAN
set_option linter.unusedSimpArgs false
set_option linter.unusedVariables false
namespace Go.Proofs.Ytmcpdafmkkjlcaa.Z
open Go Go.RowKit
def ir91:IR:=(.seq (.ops [⟨(some 4),(.mv (.k (.c (.v (.bool false))))),none⟩]) (.kill [2,3,4,5,6,7,8,9,10,11] (.seq (.seq (.ops [⟨(some 6),(.mv (.t 0)),none⟩,⟨(some 7),(.len (.t 6)),none⟩,⟨(some 8),(.mv (.t 1)),none⟩,⟨(some 9),(.len (.t 8)),none⟩,⟨(some 10),(.bin .neq (.t 7) (.t 9)),none⟩]) (.kill [6,7,8,9] (.cond (.t 10) (.seq (.ops [⟨(some 4),(.mv (.k (.c (.v (.bool false))))),none⟩]) (.kill [0,1,10] .ret)) .skip))) (.kill [4,10] (.seq (.seq (.ops [⟨(some 11),(.mv (.t 0)),none⟩,⟨(some 12),(.len (.t 11)),none⟩,⟨(some 13),(.mv (.k (.c (.v (.int .i64 0))))),none⟩]) (.kill [11] (.blk 0 (.loop (.seq (.ops [⟨(some 14),(.bin .lss (.t 13) (.t 12)),none⟩]) (.kill [4,5,15,16,17,18,19,20,21,22,23,24,25] (.seq (.cond (.t 14) .skip (.exit 0)) (.kill [14] (.seq (.blk 1 (.seq (.ops [⟨(some 15),(.mv (.t 13)),none⟩,⟨(some 5),(.mv (.t 15)),none⟩]) (.kill [15] (.seq (.draw [(⟨(some 16),(.mv (.t 0)),none⟩,([],[17,20,21,22,23])),(⟨(some 17),(.mv (.t 5)),none⟩,([0],[16,20,21,22,23])),(⟨(some 18),(.ia 1 (.t 16) (.t 17)),none⟩,([],[20,21,22,23])),(⟨(some 19),(.ld false 1 (.t 18)),none⟩,([],[20,21,22,23])),(⟨(some 20),(.mv (.t 1)),none⟩,([0,1,2,3],[16,17,18,19,21])),(⟨(some 21),(.mv (.t 5)),none⟩,([0,1,2,3,4],[16,17,18,19,20])),(⟨(some 22),(.ia 1 (.t 20) (.t 21)),none⟩,([0,1,2,3],[16,17,18,19])),(⟨(some 23),(.ld false 1 (.t 22)),none⟩,([0,1,2,3],[16,17,18,19])),(⟨(some 24),(.bin .neq (.t 19) (.t 23)),none⟩,([],[]))]) (.kill [5,16,17,18,19,20,21,22,23] (.cond (.t 24) (.seq (.ops [⟨(some 4),(.mv (.k (.c (.v (.bool false))))),none⟩]) (.kill [0,1,12,13,24] .ret)) .skip)))))) (.kill [4,5,15,16,17,18,19,20,21,22,23,24] (.ops [⟨(some 25),(.bin .add (.t 13) (.k (.c (.v (.int .i64 1))))),none⟩,⟨(some 13),(.mv (.t 25)),none⟩]))))))))))) (.kill [0,1,4,5,12,13,14,15,16,17,18,19,20,21,22,23,24,25] (.seq (.ops [⟨(some 4),(.mv (.k (.c (.v (.bool true))))),none⟩]) .ret)))))))
def rs91:List RS:=[(.t 4)]
def nt91:Nat:=26
def ir92:IR:=(.seq (.ops [⟨(some 4),(.mv (.k (.c (.v (.bool false))))),none⟩]) (.kill [2,3,4,5,6,7,8,9,10,11] (.seq (.seq (.ops [⟨(some 6),(.mv (.t 0)),none⟩,⟨(some 7),(.len (.t 6)),none⟩,⟨(some 8),(.mv (.t 1)),none⟩,⟨(some 9),(.len (.t 8)),none⟩,⟨(some 10),(.bin .neq (.t 7) (.t 9)),none⟩]) (.kill [6,7,8,9] (.cond (.t 10) (.seq (.ops [⟨(some 4),(.mv (.k (.c (.v (.bool false))))),none⟩]) (.kill [0,1,10] .ret)) .skip))) (.kill [4,10] (.seq (.seq (.ops [⟨(some 11),(.mv (.t 0)),none⟩,⟨(some 12),(.len (.t 11)),none⟩,⟨(some 13),(.mv (.k (.c (.v (.int .i64 0))))),none⟩]) (.kill [11] (.blk 0 (.loop (.seq (.ops [⟨(some 14),(.bin .lss (.t 13) (.t 12)),none⟩]) (.kill [4,5,15,16,17,18,19,20,21,22,23,24,25] (.seq (.cond (.t 14) .skip (.exit 0)) (.kill [14] (.seq (.blk 1 (.seq (.ops [⟨(some 15),(.mv (.t 13)),none⟩,⟨(some 5),(.mv (.t 15)),none⟩]) (.kill [15] (.seq (.draw [(⟨(some 16),(.mv (.t 0)),none⟩,([],[17,20,21,22,23])),(⟨(some 17),(.mv (.t 5)),none⟩,([0],[16,20,21,22,23])),(⟨(some 18),(.ia 4 (.t 16) (.t 17)),none⟩,([],[20,21,22,23])),(⟨(some 19),(.ld true 4 (.t 18)),none⟩,([],[20,21,22,23])),(⟨(some 20),(.mv (.t 1)),none⟩,([0,1,2,3],[16,17,18,19,21])),(⟨(some 21),(.mv (.t 5)),none⟩,([0,1,2,3,4],[16,17,18,19,20])),(⟨(some 22),(.ia 4 (.t 20) (.t 21)),none⟩,([0,1,2,3],[16,17,18,19])),(⟨(some 23),(.ld true 4 (.t 22)),none⟩,([0,1,2,3],[16,17,18,19])),(⟨(some 24),(.eqa true [true,true,true,true] (.t 19) (.t 23)),none⟩,([],[]))]) (.kill [5,16,17,18,19,20,21,22,23] (.cond (.t 24) (.seq (.ops [⟨(some 4),(.mv (.k (.c (.v (.bool false))))),none⟩]) (.kill [0,1,12,13,24] .ret)) .skip)))))) (.kill [4,5,15,16,17,18,19,20,21,22,23,24] (.ops [⟨(some 25),(.bin .add (.t 13) (.k (.c (.v (.int .i64 1))))),none⟩,⟨(some 13),(.mv (.t 25)),none⟩]))))))))))) (.kill [0,1,4,5,12,13,14,15,16,17,18,19,20,21,22,23,24,25] (.seq (.ops [⟨(some 4),(.mv (.k (.c (.v (.bool true))))),none⟩]) .ret)))))))
def rs92:List RS:=[(.t 4)]
def nt92:Nat:=26
def ir93:IR:=(.seq (.ops [⟨(some 4),(.mv (.t 0)),none⟩,⟨(some 5),(.len (.t 4)),none⟩,⟨(some 6),(.bin .sub (.t 5) (.k (.c (.v (.int .i64 1))))),none⟩,⟨(some 2),(.mv (.k (.c (.v (.int .i64 0))))),none⟩,⟨(some 3),(.mv (.t 6)),none⟩]) (.kill [1,4,5,6,7,8,9,10,11] (.blk 0 (.loop (.seq (.seq (.ops [⟨(some 7),(.mv (.t 2)),none⟩,⟨(some 8),(.mv (.t 3)),none⟩,⟨(some 9),(.bin .lss (.t 7) (.t 8)),none⟩]) (.kill [7,8,10,11,12,13,14,15,16,17,18,19,20,21,22,23,24,25,26,27] (.cond (.t 9) .skip (.exit 0)))) (.kill [9] (.seq (.blk 1 (.draw [(⟨(some 14),(.mv (.t 0)),none⟩,([],[15,16,17,18,19,20,21,22,23,24,25])),(⟨(some 15),(.mv (.t 2)),none⟩,([0],[14,16,17,18,19,20,21,22,23,24,25])),(⟨(some 16),(.mv (.t 0)),none⟩,([0,1],[14,15,17,18,19,20,21,22,23,24,25,26])),(⟨(some 17),(.mv (.t 3)),none⟩,([0,1,2],[14,15,16,18,19,20,21,22,23,24,25,26])),(⟨(some 18),(.mv (.t 0)),none⟩,([0,1,2,3],[14,15,16,17,19,22,23,24,25])),(⟨(some 19),(.mv (.t 3)),none⟩,([0,1,2,3,4],[14,15,16,17,18,22,23,24,25])),(⟨(some 20),(.ia 3 (.t 18) (.t 19)),none⟩,([0,1,2,3],[14,15,16,17,22,23,24,25])),(⟨(some 21),(.ld true 3 (.t 20)),none⟩,([0,1,2,3],[14,15,16,17,22,23,24,25])),(⟨(some 22),(.mv (.t 0)),none⟩,([0,1,2,3,4,5,6,7],[14,15,16,17,18,19,20,21,23])),(⟨(some 23),(.mv (.t 2)),none⟩,([0,1,2,3,4,5,6,7,8],[14,15,16,17,18,19,20,21,22])),(⟨(some 24),(.ia 3 (.t 22) (.t 23)),none⟩,([0,1,2,3,4,5,6,7],[14,15,16,17,18,19,20,21])),(⟨(some 25),(.ld true 3 (.t 24)),none⟩,([0,1,2,3,4,5,6,7],[14,15,16,17,18,19,20,21])),(⟨(some 26),(.ia 3 (.t 14) (.t 15)),none⟩,([2,3],[16,17])),(⟨none,(.st 3 (.t 26) (.t 21)),none⟩,([2,3],[16,17])),(⟨(some 27),(.ia 3 (.t 16) (.t 17)),none⟩,([],[])),(⟨none,(.st 3 (.t 27) (.t 25)),none⟩,([],[]))])) (.kill [14,15,16,17,18,19,20,21,22,23,24,25,26,27] (.ops [⟨(some 10),(.mv (.t 2)),none⟩,⟨(some 11),(.bin .add (.t 10) (.k (.c (.v (.int .i64 1))))),none⟩,⟨(some 12),(.mv (.t 3)),none⟩,⟨(some 13),(.bin .sub (.t 12) (.k (.c (.v (.int .i64 1))))),none⟩,⟨(some 2),(.mv (.t 11)),none⟩,⟨(some 3),(.mv (.t 13)),none⟩])))))))))
def rs93:List RS:=[]
def nt93:Nat:=28
set_option maxRecDepth 100000 in
set_option maxHeartbeats 400000 in
theorem eqI_calls (w:World) (v v' : Value) (xs ys:List Int) (h:Arr w eI 1 v xs) (h' : Arr w eI 1 v' ys):Calls Try.prog 91 #[v,v'] w (RetV w (.bool (decide (xs=ys)))):=by
  refine enter2 (A:=[]) (c:=ir91) (rs:=rs91) (nt:=nt91) 0 eI_ok h 0 eI_ok h' [.c (.xv (0,0,0)),.c (.xv (1,0,0))] _ Try.func91 rfl (by kernel_rfl) (by kernel_rfl) rfl (fun E' h0 h1=>by simp [SV.den,SC.den,h0,h1]) (of_decide_eq_true rfl) ?_
  have hml:=Z.Arr.lenM h
  simp only [maxLen] at hml
  simp (maxSteps:=2000000) only [ir91,nt91,rs91,go_sem,↓reduceIte,Nat.reduceLT,Nat.reduceLeDiff,Nat.reduceAdd,Nat.reduceSub,Nat.reduceMul,Nat.reduceEqDiff,reduceCtorEq,Int.reduceToNat,Int.reduceEq,Int.reduceBEq,Int.reduceBNe,Int.reduceLT,Int.reduceLE,Int.reduceNeg,Int.reduceAdd,Int.reduceSub,Int.reduceMul,Int.reduceGE,Int.reduceGT,endO]
  refine both (fun hne=>?_) (fun heq=>?_)
  · have hne:xs≠ys:=fun q=>by subst q;simp at hne
    exact retV fun E=>by simp [SV.den,SC.den,hne]
  have hle : xs.length = ys.length := by have q:(xs.length:Int)=ys.length:=by simpa using heq
                                         omega
  refine loopI (ι:={ i:Nat // i≤xs.length∧xs.take i=ys.take i }) (fun i=>⟨26,[(0,.c (.xv (0,0,0))),(1,.c (.xv (1,0,0))),(12,.c (.v (.int .i64 xs.length))),(13,.c (.v (.int .i64 (i.1:Nat))))],[],[(0,.one (arrOf eI 1 xs 0)),(1,.one (arrOf eI 1 ys 0))],[],2⟩)
    (fun i=>xs.length - i.1) ⟨0,by omega,by simp⟩ (le_ren id rfl rfl (by simp [TmpsLe,look,SV.ren,SC.ren,SC.renL,ren1L,ren1,idσ,SV.okN,SC.okN,SC.okL,ok1L]) trivial (by simp [ArrsLe,ArrLeO,atN,look,Fm.get,idσ,arrLe_of,arrLe_0]) rfl) ?_
  rintro ⟨i,hi,htk⟩
  simp (maxSteps:=2000000) only [go_sem,↓reduceIte,Nat.reduceLT,Nat.reduceLeDiff,Nat.reduceAdd,Nat.reduceSub,Nat.reduceMul,Nat.reduceEqDiff,reduceCtorEq,Int.reduceToNat,Int.reduceEq,Int.reduceBEq,Int.reduceBNe,Int.reduceLT,Int.reduceLE,Int.reduceNeg,Int.reduceAdd,Int.reduceSub,Int.reduceMul,Int.reduceGE,Int.reduceGT,endO]
  refine both (fun hlt=>?_) (fun hge=>?_)
  · rw [decide_eq_true_eq] at hlt
    have hlt:i<xs.length:=by omega
    have hlt2:i<ys.length:=by omega
    refine draw_vc (by kernel_rfl) (mkTab_ok _ _) (of_decide_eq_true rfl) (of_decide_eq_true rfl) ?_
    repeat (first | simp (maxSteps:=2000000) only [go_sem,↓reduceIte,Nat.reduceLT,Nat.reduceLeDiff,Nat.reduceAdd,Nat.reduceSub,Nat.reduceMul,Nat.reduceEqDiff,reduceCtorEq,Int.reduceToNat,Int.reduceEq,Int.reduceBEq,Int.reduceBNe,Int.reduceLT,Int.reduceLE,Int.reduceNeg,Int.reduceAdd,Int.reduceSub,Int.reduceMul,Int.reduceGE,Int.reduceGT,endO,eI] | rw [dr_cons])
    refine And.intro hlt (And.intro hlt (And.intro hlt2 (And.intro hlt2 (both (fun hne=>?_) (fun heq=>?_)))))
    · have hne:xs≠ys:=ne_at (d:=0) (i:=i) (by simpa using hne)
      exact retV fun E=>by simp [SV.den,SC.den,hne]
    · rw [wr_succ (by omega)]
      exact backI ⟨i+1,by omega,take_eqS (d:=0) hlt hlt2 htk (by simpa using heq)⟩ (by simp only;omega) (le_ren id rfl rfl (by simp [TmpsLe,look,SV.ren,SC.ren,SC.renL,ren1L,ren1,idσ,SV.okN,SC.okN,SC.okL,ok1L]) trivial (by simp [ArrsLe,ArrLeO,atN,look,Fm.get,idσ,arrLe_of,arrLe_0]) rfl)
  · rw [decide_eq_false_iff_not] at hge
    have hin:i=xs.length:=by omega
    subst hin
    have he:xs=ys:=by rw [List.take_length,hle,List.take_length] at htk;exact htk
    exact retV fun E=>by simp [SV.den,SC.den,he]
set_option maxRecDepth 100000 in
set_option maxHeartbeats 400000 in
theorem eqR_calls (w:World) (v v' : Value) (xs ys:List R4) (h:Arr w R4.enc 4 v xs) (h' : Arr w R4.enc 4 v' ys):Calls Try.prog 92 #[v,v'] w (RetV w (.bool (decide (xs=ys)))):=by
  refine enter2 (A:=[]) (c:=ir92) (rs:=rs92) (nt:=nt92) r40 r4_ok h r40 r4_ok h' [.c (.xv (0,0,0)),.c (.xv (1,0,0))] _ Try.func92 rfl (by kernel_rfl) (by kernel_rfl) rfl (fun E' h0 h1=>by simp [SV.den,SC.den,h0,h1]) (of_decide_eq_true rfl) ?_
  have hml:=Z.Arr.lenM h
  simp only [maxLen] at hml
  simp (maxSteps:=2000000) only [ir92,nt92,rs92,go_sem,↓reduceIte,Nat.reduceLT,Nat.reduceLeDiff,Nat.reduceAdd,Nat.reduceSub,Nat.reduceMul,Nat.reduceEqDiff,reduceCtorEq,Int.reduceToNat,Int.reduceEq,Int.reduceBEq,Int.reduceBNe,Int.reduceLT,Int.reduceLE,Int.reduceNeg,Int.reduceAdd,Int.reduceSub,Int.reduceMul,Int.reduceGE,Int.reduceGT,endO]
  refine both (fun hne=>?_) (fun heq=>?_)
  · have hne:xs≠ys:=fun q=>by subst q;simp at hne
    exact retV fun E=>by simp [SV.den,SC.den,hne]
  have hle : xs.length = ys.length := by have q:(xs.length:Int)=ys.length:=by simpa using heq
                                         omega
  refine loopI (ι:={ i:Nat // i≤xs.length∧xs.take i=ys.take i }) (fun i=>⟨26,[(0,.c (.xv (0,0,0))),(1,.c (.xv (1,0,0))),(12,.c (.v (.int .i64 xs.length))),(13,.c (.v (.int .i64 (i.1:Nat))))],[],[(0,.one (arrOf R4.enc 4 xs r40)),(1,.one (arrOf R4.enc 4 ys r40))],[],2⟩)
    (fun i=>xs.length - i.1) ⟨0,by omega,by simp⟩ (le_ren id rfl rfl (by simp [TmpsLe,look,SV.ren,SC.ren,SC.renL,ren1L,ren1,idσ,SV.okN,SC.okN,SC.okL,ok1L]) trivial (by simp [ArrsLe,ArrLeO,atN,look,Fm.get,idσ,arrLe_of,arrLe_0]) rfl) ?_
  rintro ⟨i,hi,htk⟩
  simp (maxSteps:=2000000) only [go_sem,↓reduceIte,Nat.reduceLT,Nat.reduceLeDiff,Nat.reduceAdd,Nat.reduceSub,Nat.reduceMul,Nat.reduceEqDiff,reduceCtorEq,Int.reduceToNat,Int.reduceEq,Int.reduceBEq,Int.reduceBNe,Int.reduceLT,Int.reduceLE,Int.reduceNeg,Int.reduceAdd,Int.reduceSub,Int.reduceMul,Int.reduceGE,Int.reduceGT,endO]
  refine both (fun hlt=>?_) (fun hge=>?_)
  · rw [decide_eq_true_eq] at hlt
    have hlt:i<xs.length:=by omega
    have hlt2:i<ys.length:=by omega
    refine draw_vc (by kernel_rfl) (mkTab_ok _ _) (of_decide_eq_true rfl) (of_decide_eq_true rfl) ?_
    repeat (first | simp (maxSteps:=2000000) only [go_sem,↓reduceIte,Nat.reduceLT,Nat.reduceLeDiff,Nat.reduceAdd,Nat.reduceSub,Nat.reduceMul,Nat.reduceEqDiff,reduceCtorEq,Int.reduceToNat,Int.reduceEq,Int.reduceBEq,Int.reduceBNe,Int.reduceLT,Int.reduceLE,Int.reduceNeg,Int.reduceAdd,Int.reduceSub,Int.reduceMul,Int.reduceGE,Int.reduceGT,endO,R4.enc] | rw [dr_cons])
    refine And.intro hlt (And.intro hlt (And.intro hlt2 (And.intro hlt2 (both (fun hne=>?_) (fun heq=>?_)))))
    · have hne:xs≠ys:=fun q=>by subst q;simp at hne
      exact retV fun E=>by simp [SV.den,SC.den,hne]
    · rw [wr_succ (by omega)]
      refine backI ⟨i+1,by omega,take_eqS (d:=r40) hlt hlt2 htk (r4_eq_iff.2 ?_)⟩ (by simp only;omega) (le_ren id rfl rfl (by simp [TmpsLe,look,SV.ren,SC.ren,SC.renL,ren1L,ren1,idσ,SV.okN,SC.okN,SC.okL,ok1L]) trivial (by simp [ArrsLe,ArrLeO,atN,look,Fm.get,idσ,arrLe_of,arrLe_0]) rfl)
      simpa only [Bool.not_eq_false',Bool.and_eq_true,beq_iff_eq] using heq
  · rw [decide_eq_false_iff_not] at hge
    have hin:i=xs.length:=by omega
    subst hin
    have he:xs=ys:=by rw [List.take_length,hle,List.take_length] at htk;exact htk
    exact retV fun E=>by simp [SV.den,SC.den,he]
def rvO (l:List Tn):Own:=[(0,.one (.ar l.length 3 (ats Tn.enc l tn0) 44))]
def rvI (n i e:Nat):Nat:=if e<i∨n<e+i+1 then n - 1 - e else e
def rvS (l:List Tn) (i:Nat):Own:=[(0,.one (.ar l.length 3 (fun e=>ats Tn.enc l tn0 (rvI l.length i e)) 44))]
theorem rvLe {p:Nat→Prop} {σ:Nm→Nm} {m n ty:Nat} {at_:Nat→List SC} {l:List Tn} (f:Nat→Nat) (hn:n≤m) (h:∀ e,e<n→at_ e=ats Tn.enc l tn0 (f e)):BlkLe p σ (.ar m 3 at_ ty) (.ar n 3 (fun e=>ats Tn.enc l tn0 (f e)) ty) :=
 ⟨hn,rfl,rfl,fun e he=>by rw [h e he];exact ⟨(renL_v _ _).symm,okL_v _ _⟩⟩
theorem rv_swap {l:List Tn} {i e:Nat} (hi:2 * i+1<l.length) (he:e<l.length):setAt (l.length - 1 - i) (setAt i (fun e=>ats Tn.enc l tn0 (rvI l.length i e)) (ats Tn.enc l tn0 (rvI l.length i (l.length - 1 - i))))
  (ats Tn.enc l tn0 (rvI l.length i i)++drop' 3 (setAt i (fun e=>ats Tn.enc l tn0 (rvI l.length i e)) (ats Tn.enc l tn0 (rvI l.length i (l.length - 1 - i))) (l.length - 1 - i))) e=ats Tn.enc l tn0 (rvI l.length (i+1) e):=by
 have hd:drop' 3 (setAt i (fun e=>ats Tn.enc l tn0 (rvI l.length i e)) (ats Tn.enc l tn0 (rvI l.length i (l.length - 1 - i))) (l.length - 1 - i))=[]:=by
  unfold setAt;rw [if_neg (by omega)];rfl
 rw [hd,List.append_nil]
 unfold setAt
 by_cases h1:e=l.length - 1 - i
 ·rw [if_pos h1]
  congr 1
  subst h1
  unfold rvI
  rw [if_neg (by omega),if_pos (by omega)]
  omega
 ·rw [if_neg h1]
  by_cases h2:e=i
  ·rw [if_pos h2]
   congr 1
   subst h2
   unfold rvI
   rw [if_neg (by omega),if_pos (by omega)]
  ·rw [if_neg h2]
   simp only
   congr 1
   unfold rvI
   split <;> split <;> omega
theorem rv_end {l:List Tn} {i e:Nat} (hi:(l.length:Int) - 1 - i≤i) (he:e<l.length):ats Tn.enc l tn0 (rvI l.length i e)=ats Tn.enc l.reverse tn0 e:=by
 unfold ats
 rw [List.getD_eq_getElem?_getD (l:=l.reverse),List.getElem?_reverse he,List.getD_eq_getElem?_getD]
 have:rvI l.length i e=l.length - 1 - e:=by
  unfold rvI
  split <;> omega
 rw [this]
set_option maxRecDepth 100000 in
set_option maxHeartbeats 400000 in
theorem rev_own (w:World) (E:Env) (l:List Tn) (hl:l.length≤1000000) (h:Handed w E 1 (rvO l) []) :
  Calls Try.prog 93 (([.c (.sl (0,0,0) 3 0 l.length none)]:List SV).map (SV.den E)).toArray w (EffR w E 1 (takesO E (rvO l)) (.tup []) 0 fun b=>rvO l.reverse):=by
 refine enterO (c:=ir93) (rs:=rs93) (nt:=nt93) h _ Try.func93 rfl (by kernel_rfl) (by kernel_rfl) rfl (by simp [okVs,SV.okN,SC.okL,SC.okN]) (of_decide_eq_true rfl) ?_
 generalize hR:EffR w E 1 (takesO E (rvO l)) (.tup []) 0 (fun b=>rvO l.reverse)=R
 generalize hW:takesO E (rvO l)=W
 simp (maxSteps:=2000000) only [ir93,nt93,rs93,go_sem,↓reduceIte,Nat.reduceLT,Nat.reduceLeDiff,Nat.reduceAdd,Nat.reduceSub,Nat.reduceMul,Nat.reduceEqDiff,reduceCtorEq,Int.reduceToNat,Int.reduceEq,Int.reduceBEq,Int.reduceBNe,Int.reduceLT,Int.reduceLE,Int.reduceNeg,Int.reduceAdd,Int.reduceSub,Int.reduceMul,Int.reduceGE,Int.reduceGT,endO,rvO,mkO_rs]
 refine loopI (ι:={ i:Nat // 2 * i≤l.length+1 }) (fun i=>⟨28,[(0,.c (.sl (0,0,0) 3 0 l.length none)),(2,.c (.v (.int .i64 (i.1:Nat)))),(3,.c (.v (.int .i64 ((l.length:Int) - 1 - (i.1:Nat)))))],rvS l i.1,[],[AgF 1 E],1⟩) (fun i=>l.length - i.1) ⟨0,by omega⟩ ?_ ?_
 ·have e0:IntKind.i64.wrap ((l.length:Int) - 1)=(l.length:Int) - 1 - ((0:Nat):Int):=by rw [wr64 (by omega) (by omega)];omega
  rw [e0]
  exact le_renF id rfl (facts_id List.mem_cons_self (Nat.le_refl _) fun _ _=>rfl) (by simp [TmpsLe,look,SV.ren,SC.ren,idσ,SV.okN,SC.okN]) ⟨⟨show 0<1 by decide,rvLe (rvI l.length 0) (Nat.le_refl _) fun e he=>by
   have:rvI l.length 0 e=e:=by unfold rvI;rw [if_neg (by omega)]
   rw [this]⟩,trivial⟩ trivial (of_decide_eq_true rfl)
 rintro ⟨i,hi⟩
 simp (maxSteps:=2000000) only [go_sem,↓reduceIte,Nat.reduceLT,Nat.reduceLeDiff,Nat.reduceAdd,Nat.reduceSub,Nat.reduceMul,Nat.reduceEqDiff,reduceCtorEq,Int.reduceToNat,Int.reduceEq,Int.reduceBEq,Int.reduceBNe,Int.reduceLT,Int.reduceLE,Int.reduceNeg,Int.reduceAdd,Int.reduceSub,Int.reduceMul,Int.reduceGE,Int.reduceGT,endO,rvS,mkO_rs]
 refine both (fun hlt=>?_) (fun hge=>?_)
 ·have hlt:(i:Int)<(l.length:Int) - 1 - i:=of_decide_eq_true hlt
  refine draw_vc (by kernel_rfl) (mkTab_ok _ _) (of_decide_eq_true rfl) (of_decide_eq_true rfl) ?_
  repeat (first | simp (maxSteps:=2000000) only [go_sem,↓reduceIte,Nat.reduceLT,Nat.reduceLeDiff,Nat.reduceAdd,Nat.reduceSub,Nat.reduceMul,Nat.reduceEqDiff,reduceCtorEq,Int.reduceToNat,Int.reduceEq,Int.reduceBEq,Int.reduceBNe,Int.reduceLT,Int.reduceLE,Int.reduceNeg,Int.reduceAdd,Int.reduceSub,Int.reduceMul,Int.reduceGE,Int.reduceGT,endO,mkO_rs,Tn.enc,ats] | rw [dr_cons])
  have hj:((l.length:Int) - 1 - (i:Int)).toNat=l.length - 1 - i:=by omega
  have e3:IntKind.i64.wrap ((l.length:Int) - 1 - (i:Int) - 1)=(l.length:Int) - 1 - ((i+1:Nat):Int):=by rw [wr64 (by omega) (by omega)];omega
  rw [hj,e3,wr_succ (by omega)]
  refine And.intro ⟨by omega,by omega,Nat.le_refl _⟩ (And.intro (by omega) (And.intro ⟨by omega,Nat.le_refl _⟩ (And.intro (by omega) (And.intro ⟨by omega,Nat.le_refl _⟩ (And.intro (by omega) (And.intro (Or.inr trivial) (And.intro ⟨by omega,by omega,Nat.le_refl _⟩ (And.intro (by omega) (And.intro (Or.inr trivial) ?_)))))))))
  refine backI ⟨i+1,by omega⟩ (by simp only;omega) (le_renF id rfl (facts_id List.mem_cons_self (Nat.le_refl _) fun _ _=>rfl) (by simp [TmpsLe,look,SV.ren,SC.ren,idσ,SV.okN,SC.okN]) ⟨⟨show 0<1 by decide,rvLe (l:=l) (rvI l.length (i+1)) (Nat.le_refl _) fun e he=>?_⟩,trivial⟩ trivial (of_decide_eq_true rfl))
  exact rv_swap (by omega) he
 ·have hge:(l.length:Int) - 1 - i≤i:=by
   have:=of_decide_eq_false hge
   omega
  rw [← hR,← hW]
  refine retEff (fun _=>idσ id) [] (fun _=>rvO l.reverse) List.mem_cons_self (fun E E'=>rfl) (fun _ _ _ _=>rfl) (fun b _=>?_) (fun b _=>?_)
  ·refine ⟨⟨Or.inl (show 0<1 by decide),?_⟩,trivial⟩
   simp only [idσ,id,atN,look,Fm.get,and_self,if_true,List.length_reverse]
   exact arLe_of (Nat.le_refl _) fun e he=>rv_end hge he
  ·intro x y b c hx hy e
   exact e
end Go.Proofs.Ytmcpdafmkkjlcaa.Z
namespace Go.Proofs.Ytmcpdafmkkjlcaa.Z
open Go Go.RowKit
inductive Rch (L:Lt) (o:Int):LS→Prop
 | beg:Rch L o (beginS L)
 | step {s:LS} (t:Tn):Rch L o s→t∈turnsL L o→(turnS L o s t).2=true→Rch L o (turnS L o s t).1
theorem getD_pre {α:Type} {l l' : List α} {d:α} (h:l <+: l') {i:Nat} (hi:i<l.length):l'.getD i d=l.getD i d:=by
 obtain ⟨r,rfl⟩:=h
 rw [List.getD_eq_getElem?_getD,List.getElem?_append_left hi,List.getD_eq_getElem?_getD]
theorem bfsI_spec {L:Lt} {o:Int} {i:Nat}:∀ {ts:List Tn} {l l' : List Sp},i<l.length→bfsI L o i ts l=some l'→l <+: l'∧(∀ t∈ts,(turnS L o (l.getD i sp0).s t).2=true→(turnS L o (l.getD i sp0).s t).1∈l'.map (·.s))∧∀ x∈l',x∈l∨∃ t∈ts,(turnS L o (l.getD i sp0).s t).2=true∧x.s=(turnS L o (l.getD i sp0).s t).1
 | [],l,l',hi,e=>by
  simp only [bfsI,Option.some.injEq] at e
  subst e
  exact ⟨List.prefix_rfl,fun t ht=>(by cases ht),fun x hx=>Or.inl hx⟩
 | t :: ts,l,l',hi,e=>by
  simp only [bfsI] at e
  split at e
  ·next hc =>
   split at e
   ·cases e
   ·have hp:l <+: l++[(⟨(turnS L o (l.getD i sp0).s t).1,i,t⟩:Sp)]:=List.prefix_append _ _
    obtain ⟨h1,h2,h3⟩:=bfsI_spec (by simp;omega) e
    rw [getD_pre hp hi] at h2 h3
    refine ⟨hp.trans h1,fun t' ht' hd=>?_,fun x hx=>?_⟩
    ·rcases List.mem_cons.1 ht' with rfl | ht'
     ·rw [List.mem_map]
      exact ⟨⟨(turnS L o (l.getD i sp0).s t').1,i,t'⟩,h1.subset (by simp),rfl⟩
     ·exact h2 t' ht' hd
    ·rcases h3 x hx with h | ⟨t',ht',h⟩
     ·rcases List.mem_append.1 h with h | h
      ·exact Or.inl h
      ·rw [List.mem_singleton] at h
       subst h
       exact Or.inr ⟨t,List.mem_cons_self,hc.1,rfl⟩
     ·exact Or.inr ⟨t',List.mem_cons_of_mem _ ht',h⟩
  ·next hc =>
   obtain ⟨h1,h2,h3⟩:=bfsI_spec hi e
   refine ⟨h1,fun t' ht' hd=>?_,fun x hx=>?_⟩
   ·rcases List.mem_cons.1 ht' with rfl | ht'
    ·have hm:(turnS L o (l.getD i sp0).s t').1∈l.map (·.s):=Decidable.of_not_not fun q=>hc ⟨hd,q⟩
     rw [List.mem_map] at hm ⊢
     obtain ⟨x,hx,ex⟩:=hm
     exact ⟨x,h1.subset hx,ex⟩
    ·exact h2 t' ht' hd
   ·rcases h3 x hx with h | ⟨t',ht',h⟩
    ·exact Or.inl h
    ·exact Or.inr ⟨t',List.mem_cons_of_mem _ ht',h⟩
def ClosedT (L:Lt) (o:Int) (l:List Sp) (i:Nat):Prop:=∀ j,j<i→∀ t∈turnsL L o,(turnS L o (l.getD j sp0).s t).2=true→(turnS L o (l.getD j sp0).s t).1∈l.map (·.s)
theorem bfsO_spec {L:Lt} {o:Int} (hL:checkB L=true):∀ {n i:Nat} {l l' : List Sp},WkNd L o l→30001≤n+i→i≤l.length→ClosedT L o l i→(∀ x∈l,Rch L o x.s)→bfsO L o n i l=some l'→l <+: l'∧ClosedT L o l' l'.length∧∀ x∈l',Rch L o x.s
 | 0,i,l,l',hw,hn,hi,hc,hr,e=>by
  have:=hw.toWkOk.len
  omega
 | n + 1,i,l,l',hw,hn,hi,hc,hr,e=>by
  simp only [bfsO] at e
  split at e
  ·next hlt =>
   cases hb:bfsI L o i (turnsL L o) l with
   | none=>rw [hb] at e;cases e
   | some l2 =>
    rw [hb] at e
    simp only [Option.bind_some] at e
    obtain ⟨h1,h2,h3⟩:=bfsI_spec hlt hb
    have hlen:l.length≤l2.length:=h1.length_le
    have hcl:ClosedT L o l2 (i+1):=by
     intro j hj t ht hd
     have e1:l2.getD j sp0=l.getD j sp0:=getD_pre h1 (by omega)
     rw [e1] at hd ⊢
     rcases Nat.lt_or_ge j i with hji | hji
     ·have:=hc j hji t ht hd
      rw [List.mem_map] at this ⊢
      obtain ⟨x,hx,ex⟩:=this
      exact ⟨x,h1.subset hx,ex⟩
     ·have:j=i:=by omega
      subst this
      exact h2 t ht hd
    have hrr:∀ x∈l2,Rch L o x.s:=by
     intro x hx
     rcases h3 x hx with h | ⟨t,ht,hd,ex⟩
     ·exact hr x h
     ·rw [ex]
      refine Rch.step t (hr _ ?_) ht hd
      rw [List.getD_eq_getElem?_getD,List.getElem?_eq_getElem hlt]
      exact List.getElem_mem hlt
    obtain ⟨g1,g2,g3⟩:=bfsO_spec hL (bfsI_ok hL hw hlt hb).1 (by omega) (by omega) hcl hrr e
    exact ⟨h1.trans g1,g2,g3⟩
  ·next hlt =>
   simp only [Option.some.injEq] at e
   subst e
   have:i=l.length:=by omega
   subst this
   exact ⟨List.prefix_rfl,hc,hr⟩
theorem bfs_mem {L:Lt} {o:Int} (hL:checkB L=true) {l:List Sp} (h:bfs L o=some l) {s:LS}:s∈l.map (·.s)↔Rch L o s:=by
 obtain ⟨h1,h2,h3⟩:=bfsO_spec hL (n:=30001) (i:=0) ⟨wkOk_begin,by simp⟩ (by omega) (by simp) (fun j hj=>absurd hj (Nat.not_lt_zero _)) (fun x hx=>by rw [List.mem_singleton] at hx;subst hx;exact Rch.beg) h
 constructor
 ·intro hs
  rw [List.mem_map] at hs
  obtain ⟨x,hx,rfl⟩:=hs
  exact h3 x hx
 ·intro hs
  induction hs with
  | beg=>rw [List.mem_map];exact ⟨sp1 L,h1.subset (by simp),rfl⟩
  | step t _ ht hd ih =>
   rw [List.mem_map] at ih
   obtain ⟨x,hx,rfl⟩:=ih
   obtain ⟨j,hj,rfl⟩:=List.getElem_of_mem hx
   have:=h2 j hj t ht
   rw [List.getD_eq_getElem?_getD,List.getElem?_eq_getElem hj] at this
   exact this hd
theorem fins_mem {L:Lt} {o:Int} (hL:checkB L=true) {l:List Sp} (h:bfs L o=some l) {f:Fn}:f∈finsL L (l.map (·.s))↔∃ s,Rch L o s∧finB L s=true∧endF s=f:=by
 have hnd:=bfs_ok hL h
 have hw:∀ s∈l.map (·.s),WfT L o s:=fun s hs=>by
  rw [List.mem_map] at hs
  obtain ⟨x,hx,rfl⟩:=hs
  exact hnd.wf x hx
 rw [(finsL_ok hw hnd.nd).1.mem_iff,List.mem_map]
 constructor
 ·rintro ⟨s,hs,rfl⟩
  rw [List.mem_filter] at hs
  exact ⟨s,(bfs_mem hL h).1 hs.1,hs.2,rfl⟩
 ·rintro ⟨s,hs,hf,rfl⟩
  exact ⟨s,List.mem_filter.2 ⟨(bfs_mem hL h).2 hs,hf⟩,rfl⟩
theorem fins_eq {L L' : Lt} {o o' : Int} (hL:checkB L=true) (hL' : checkB L' = true) {l l' : List Sp} (h:bfs L o=some l) (h' : bfs L' o' = some l') (hm:∀ f,(∃ s,Rch L o s∧finB L s=true∧endF s=f)↔∃ s,Rch L' o' s∧finB L' s=true∧endF s=f):finsL L (l.map (·.s))=finsL L' (l'.map (·.s)):=by
 have hnd:=bfs_ok hL h
 have hnd':=bfs_ok hL' h'
 have hw:∀ s∈l.map (·.s),WfT L o s:=fun s hs=>by
  rw [List.mem_map] at hs
  obtain ⟨x,hx,rfl⟩:=hs
  exact hnd.wf x hx
 have hw' : ∀ s∈l'.map (·.s),WfT L' o' s:=fun s hs=>by
  rw [List.mem_map] at hs
  obtain ⟨x,hx,rfl⟩:=hs
  exact hnd'.wf x hx
 obtain ⟨h1,h2⟩:=finsL_ok hw hnd.nd
 obtain ⟨h1',h2'⟩:=finsL_ok hw' hnd'.nd
 have nd:∀ {m:List Fn},SrtF m→m.Nodup:=fun {m} hs=>by
  rw [List.nodup_iff_pairwise_ne]
  exact List.Pairwise.imp (fun {a b} hab q=>by rw [q,less_irr] at hab;cases hab) hs
 refine srt_unique ?_ h2 h2'
 refine (List.perm_ext_iff_of_nodup (nd h2) (nd h2')).2 fun f=>?_
 rw [fins_mem hL h,fins_mem hL' h']
 exact hm f
end Go.Proofs.Ytmcpdafmkkjlcaa.Z
namespace Go.Proofs.Ytmcpdafmkkjlcaa.Z
open Go Go.RowKit
def stN:List Ins→Nat
 | []=>0
 | c :: r=>(if c.kind=2 then 1 else 0)+stN r
theorem drop_cons {l:List Ins} {p:Nat} {c:Ins} {r:List Ins} (h:l.drop p=c :: r):p<l.length∧l.getD p in0=c∧l.drop (p+1)=r:=by
 have hp:p<l.length:=by
  rcases Nat.lt_or_ge p l.length with h1 | h1
  ·exact h1
  ·rw [List.drop_eq_nil_of_le h1] at h;cases h
 rw [List.drop_eq_getElem_cons hp] at h
 simp only [List.cons.injEq] at h
 refine ⟨hp,?_,h.2⟩
 rw [List.getD_eq_getElem?_getD,List.getElem?_eq_getElem hp]
 exact h.1
def plc (len:Nat) (p f:Int):Int:=if (len:Int)<p+f then (len:Int) else p+f
theorem turn_run {L:Lt} {o:Int} {s:LS} {t:Tn} {p:Nat} (h0:0≤t.thr∧t.thr<L.thr.length) (ho:t.out=false) (hp:s.places.getD t.thr.toNat 0=p) {c:Ins} {r:List Ins} (hd:(L.thr.getD t.thr.toNat []).drop p=c :: r) :
  turnS L o s t=match stepS o s t.thr.toNat c with
   | none=>(s,false)
   | some (s',f)=>({ s' with places:=s.places.set t.thr.toNat (plc (L.thr.getD t.thr.toNat []).length p f) },true):=by
 obtain ⟨h1,h2,h3⟩:=drop_cons hd
 unfold turnS
 rw [if_pos h0,if_neg (by simp [ho]),if_neg (by rw [hp];omega),hp,Int.toNat_natCast,h2]
 cases e:stepS o s t.thr.toNat c with
 | none=>rfl
 | some x =>
  obtain ⟨s',f⟩:=x
  have hpl:=places_set e
  simp only [hpl,hp]
  rfl
theorem turn_end {L:Lt} {o:Int} {s:LS} {t:Tn} {p:Nat} (ho:t.out=false) (hp:s.places.getD t.thr.toNat 0=p) (hle:p≤(L.thr.getD t.thr.toNat []).length) (hd:(L.thr.getD t.thr.toNat []).drop p=[]):turnS L o s t=(s,false):=by
 have:p=(L.thr.getD t.thr.toNat []).length:=by
  have:=congrArg List.length hd
  rw [List.length_drop,List.length_nil] at this
  omega
 unfold turnS
 split
 ·rw [if_neg (by simp [ho]),if_pos (by rw [hp,this])]
 ·rfl
def valI (c:Ins) (r:R4):Int:=if c.frm≥0 then r.get c.frm else c.val
theorem rch_wf {L:Lt} {o:Int} (hL:checkB L=true) {s:LS} (h:Rch L o s):WfT L o s:=by
 induction h with
 | beg=>exact begin_wfT o
 | step t _ _ _ ih=>exact turn_wfT hL ih t
theorem pl_set {ps:List Int} {k t:Nat} {v:Int} (hk:k<ps.length):(ps.set k v).getD t 0=if t=k then v else ps.getD t 0:=by
 rw [getD_setE]
 by_cases e:t=k
 ·subst e;simp [hk]
 ·rw [if_neg (by omega),if_neg e]
theorem bf_set {bs:List (List Pd)} {k t:Nat} {v:List Pd} (hk:k<bs.length):(bs.set k v).getD t []=if t=k then v else bs.getD t []:=by
 rw [getD_setE]
 by_cases e:t=k
 ·subst e;simp [hk]
 ·rw [if_neg (by omega),if_neg e]
theorem plain_buf {L:Lt} {s:LS} (h:WfT L 1 s) (t:Nat):s.bufs.getD t []=[]:=by
 rcases Nat.lt_or_ge t L.thr.length with h1 | h1
 ·exact (h.wf.thr t h1).sc rfl
 ·rw [List.getD_eq_getElem?_getD,List.getElem?_eq_none (by rw [h.wf.b];exact h1)];rfl
theorem mem_turnsT {L:Lt} {o:Int} {x:Tn}:∀ {n k:Nat},k<n→x∈thrL L o k→x∈turnsT L o n
 | n+1,k,hk,hx=>by
  rw [turnsT]
  rcases Nat.lt_or_ge k n with h | h
  ·exact List.mem_append_left _ (mem_turnsT h hx)
  ·have:k=n:=by omega
   subst this
   exact List.mem_append_right _ hx
theorem mem_run {L:Lt} {o:Int} {k:Nat} (hk:k<L.thr.length):(⟨k,false,0⟩:Tn)∈turnsL L o:=mem_turnsT hk (by simp [thrL])
theorem mem_outs {t:Nat}:∀ {n a:Nat},a<n→(⟨t,true,a⟩:Tn)∈outsL t n
 | n+1,a,h=>by
  rw [outsL]
  rcases Nat.lt_or_ge a n with h1 | h1
  ·exact List.mem_append_left _ (mem_outs h1)
  ·have:a=n:=by omega
   subst this
   exact List.mem_append_right _ (by simp)
theorem fits_cnt {L:Lt} (hL:checkB L=true) {k:Nat} (hk:k<L.thr.length) {p:Nat} {c:Ins} {r:List Ins} (h:(L.thr.getD k []).drop p=c :: r):fitsB c L.words.length=true :=
 (fits_at hL hk).2 c (List.mem_of_mem_drop (by rw [h];exact List.mem_cons_self))
theorem plain_store {L:Lt} {s:LS} {k p:Nat} (hk:k<L.thr.length) (hp:s.places.getD k 0=p) {c:Ins} {r:List Ins} (hd:(L.thr.getD k []).drop p=c :: r) (hc:c.kind=2) :
  turnS L 1 s ⟨k,false,0⟩=({ s with words:=s.words.set c.addr.toNat (valI c (s.regs.getD k r40)),places:=s.places.set k ((p+1:Nat):Int) },true):=by
 have hr:=turn_run (L:=L) (o:=1) (s:=s) (t:=⟨k,false,0⟩) (p:=p) ⟨by simp,by simp;exact hk⟩ rfl (by simpa using hp) (by simpa using hd)
 have hlt:=(drop_cons hd).1
 rw [hr]
 have h2:¬ c.kind=1:=by omega
 simp only [stepS,if_neg h2,if_pos hc,if_true,Int.toNat_natCast,valI]
 have:plc (L.thr.getD k []).length p 1=((p+1:Nat):Int):=by unfold plc;rw [if_neg (by omega)];omega
 rw [this]
theorem rep_getD {α:Type} {n t:Nat} {x d:α} (h:t<n):(List.replicate n x).getD t d=x:=by
 rw [List.getD_eq_getElem?_getD,List.getElem?_replicate,if_pos h];rfl
theorem turnsL_1 {L:Lt} {t:Tn} (h:t∈turnsL L 1):∃ k:Nat,k<L.thr.length∧t=⟨k,false,0⟩:=by
 have key:∀ n,t∈turnsT L 1 n→∃ k:Nat,k<n∧t=⟨k,false,0⟩:=by
  intro n
  induction n with
  | zero=>intro h;simp [turnsT] at h
  | succ n ih =>
   intro h
   rw [turnsT] at h
   rcases List.mem_append.1 h with h | h
   ·obtain ⟨k,h1,h2⟩:=ih h
    exact ⟨k,by omega,h2⟩
   ·simp [thrL] at h
    exact ⟨n,by omega,h⟩
 exact key _ h
end Go.Proofs.Ytmcpdafmkkjlcaa.Z
namespace Go.Proofs.Ytmcpdafmkkjlcaa.Z
open Go Go.RowKit
theorem turnsT_mem {L:Lt} {o:Int} {t:Tn}:∀ {n:Nat},t∈turnsT L o n→∃ k,k<n∧t∈thrL L o k
 | 0,h=>by cases h
 | n+1,h=>by
  rw [turnsT] at h
  rcases List.mem_append.1 h with h | h
  ·obtain ⟨k,hk,h⟩:=turnsT_mem h
   exact ⟨k,by omega,h⟩
  ·exact ⟨n,by omega,h⟩
theorem outsL_mem {k:Nat} {t:Tn}:∀ {n:Nat},t∈outsL k n→∃ a:Nat,a<n∧t=⟨k,true,a⟩
 | 0,h=>by cases h
 | n+1,h=>by
  rw [outsL] at h
  rcases List.mem_append.1 h with h | h
  ·obtain ⟨a,ha,h⟩:=outsL_mem h
   exact ⟨a,by omega,h⟩
  ·exact ⟨n,by omega,by simpa using h⟩
theorem turnsL_mem {L:Lt} {o:Int} {t:Tn} (h:t∈turnsL L o):∃ k:Nat,k<L.thr.length∧(t=⟨k,false,0⟩∨o≠1∧∃ a:Nat,t=⟨k,true,a⟩∧(o=2→a=0)):=by
 obtain ⟨k,hk,h⟩:=turnsT_mem h
 refine ⟨k,hk,?_⟩
 unfold thrL at h
 rcases List.mem_append.1 h with h | h
 ·exact Or.inl (by simpa using h)
 ·right
  split at h
  ·next h2=>exact ⟨by omega,0,by simpa using h,fun _=>rfl⟩
  ·split at h
   ·next h2 h3 =>
    obtain ⟨a,_,e⟩:=outsL_mem h
    exact ⟨by omega,a,e,fun q=>absurd q h2⟩
   ·cases h
theorem mem_out2 {L:Lt} {k:Nat} (hk:k<L.thr.length):(⟨k,true,0⟩:Tn)∈turnsL L 2:=mem_turnsT hk (by simp [thrL])
theorem mem_out3 {L:Lt} {k a:Nat} (hk:k<L.thr.length) (ha:a<L.words.length):(⟨k,true,a⟩:Tn)∈turnsL L 3:=mem_turnsT hk (by
 simp only [thrL,show ¬ ((3:Int)=2) by decide,if_false,if_true]
 exact List.mem_append_right _ (mem_outs ha))
theorem stepS_o {o o' : Int} {s:LS} {k:Nat} {c:Ins} (h:c.kind≠2∨(o≠1∧o'≠1)):stepS o s k c=stepS o' s k c:=by
 unfold stepS
 rcases h with h | ⟨h,h'⟩
 ·simp only [if_neg h]
 ·simp only [if_neg h,if_neg h']
theorem turn_out {L:Lt} {o:Int} {s:LS} {k:Nat} {a:Int} (hk:k<L.thr.length):turnS L o s ⟨k,true,a⟩=outS o s k a:=by
 unfold turnS
 rw [if_pos ⟨by simp,by simp only;omega⟩,if_pos rfl,Int.toNat_natCast]
theorem at_place {L:Lt} {o:Int} {s:LS} (h:WfT L o s) {k:Nat} (hk:k<L.thr.length):∃ p:Nat,s.places.getD k 0=p∧p≤(L.thr.getD k []).length:=by
 have h0:=(h.wf.thr k hk).p0
 have h1:=(h.wf.thr k hk).p1
 exact ⟨(s.places.getD k 0).toNat,by omega,by omega⟩
theorem run_o {L:Lt} {o o' : Int} {s:LS} {k p:Nat} (hk:k<L.thr.length) (hp:s.places.getD k 0=p) (hle:p≤(L.thr.getD k []).length) (h:∀ c r,(L.thr.getD k []).drop p=c :: r→c.kind≠2∨(o≠1∧o'≠1)):turnS L o s ⟨k,false,0⟩=turnS L o' s ⟨k,false,0⟩:=by
 cases hd:(L.thr.getD k []).drop p with
 | nil=>rw [turn_end (o:=o) (t:=⟨k,false,0⟩) (p:=p) rfl (by simpa using hp) (by simpa using hle) (by simpa using hd),turn_end (o:=o') (t:=⟨k,false,0⟩) (p:=p) rfl (by simpa using hp) (by simpa using hle) (by simpa using hd)]
 | cons c r =>
  rw [turn_run (o:=o) (t:=⟨k,false,0⟩) (p:=p) ⟨by simp,by simpa using hk⟩ rfl (by simpa using hp) (by simpa using hd),turn_run (o:=o') (t:=⟨k,false,0⟩) (p:=p) ⟨by simp,by simpa using hk⟩ rfl (by simpa using hp) (by simpa using hd)]
  rw [stepS_o (o:=o) (o':=o') (h c r hd)]
theorem set_same {α:Type} {l:List α} {k:Nat} {d x:α} (h:l.getD k d=x) (hk:k<l.length):l.set k x=l:=by
 subst h
 rw [List.getD_eq_getElem?_getD,List.getElem?_eq_getElem hk]
 simp
theorem rch_12 {L:Lt} (hL:checkB L=true) {s:LS} (h:Rch L 1 s):Rch L 2 s:=by
 induction h with
 | beg=>exact Rch.beg
 | @step s t hr ht hd ih =>
  obtain ⟨k,hk,rfl⟩:=turnsL_1 ht
  have hw:=rch_wf hL hr
  obtain ⟨p,hp,hle⟩:=at_place hw hk
  have hbk:=plain_buf hw k
  cases hdr:(L.thr.getD k []).drop p with
  | nil =>
   rw [turn_end (t:=⟨k,false,0⟩) (p:=p) rfl (by simpa using hp) (by simpa using hle) (by simpa using hdr)] at hd
   cases hd
  | cons c r =>
   by_cases hc:c.kind=2
   ·have hlt:=(drop_cons hdr).1
    have hpl:plc (L.thr.getD k []).length p 1=((p+1:Nat):Int):=by unfold plc;rw [if_neg (by omega)];omega
    have h2:=turn_run (L:=L) (o:=2) (s:=s) (t:=⟨k,false,0⟩) (p:=p) ⟨by simp,by simpa using hk⟩ rfl (by simpa using hp) (by simpa using hdr)
    have h21:¬ c.kind=1:=by omega
    simp only [stepS,if_neg h21,if_pos hc,show ¬ ((2:Int)=1) by decide,if_false,Int.toNat_natCast,hpl,hbk,List.nil_append] at h2
    have r1:=Rch.step (⟨k,false,0⟩:Tn) ih (mem_run hk) (by rw [h2])
    rw [h2] at r1
    simp only at r1
    have hbl:k<s.bufs.length:=by rw [hw.wf.b];exact hk
    have h3:=turn_out (L:=L) (o:=2) (s:={ s with bufs:=s.bufs.set k [⟨c.addr,if c.frm≥0 then (s.regs.getD k r40).get c.frm else c.val⟩],places:=s.places.set k ((p+1:Nat):Int) }) (k:=k) (a:=0) hk
    simp only [outS,show ¬ ((2:Int)=1) by decide,if_false,bf_set hbl,if_true,List.findIdx?_cons,hitB,show ((2:Int) != 3)=true by decide,Bool.true_or,List.getD_cons_zero,List.eraseIdx_cons_zero,List.set_set,set_same hbk hbl] at h3
    have r2:=Rch.step (⟨k,true,0⟩:Tn) r1 (mem_out2 hk) (by rw [h3])
    rw [h3] at r2
    rw [plain_store hk hp hdr hc]
    exact r2
   ·have e:=run_o (L:=L) (o:=1) (o':=2) (s:=s) hk hp hle (fun c' r' h'=>by
     rw [hdr] at h'
     injection h' with h1 h2
     subst h1
     exact Or.inl hc)
    rw [e] at hd ⊢
    exact Rch.step _ ih (mem_run hk) hd
theorem rch_23 {L:Lt} (hL:checkB L=true) {s:LS} (h:Rch L 2 s):Rch L 3 s:=by
 induction h with
 | beg=>exact Rch.beg
 | @step s t hr ht hd ih =>
  have hw:=rch_wf hL hr
  obtain ⟨k,hk,rfl | ⟨_,a,rfl,ha⟩⟩:=turnsL_mem ht
  ·obtain ⟨p,hp,hle⟩:=at_place hw hk
   have e:=run_o (L:=L) (o:=2) (o':=3) (s:=s) hk hp hle (fun c' r' h'=>Or.inr ⟨by decide,by decide⟩)
   rw [e] at hd ⊢
   exact Rch.step _ ih (mem_run hk) hd
  ·obtain rfl:=ha rfl
   rw [turn_out hk] at hd ⊢
   have hpd:=(hw.wf.thr k hk).pend
   cases hb:s.bufs.getD k [] with
   | nil =>
    unfold outS at hd
    rw [if_neg (by decide),hb] at hd
    simp at hd
   | cons q l =>
    have hq:=hpd q (by rw [hb];exact List.mem_cons_self)
    have e:outS 2 s k ((0:Nat):Int)=outS 3 s k ((q.addr.toNat:Nat):Int):=by
     have hqa:((q.addr.toNat:Nat):Int)=q.addr:=by omega
     rw [hqa]
     unfold outS
     rw [if_neg (by decide),if_neg (by decide),hb]
     simp [List.findIdx?_cons,hitB]
    rw [e,← turn_out hk] at hd ⊢
    exact Rch.step _ ih (mem_out3 hk (by omega)) hd
def noSt (L:Lt):Prop:=∀ code∈L.thr,∀ c∈code,c.kind≠2
theorem drop_mem {L:Lt} {k p:Nat} {c:Ins} {r:List Ins} (hk:k<L.thr.length) (h:(L.thr.getD k []).drop p=c :: r):∃ code∈L.thr,c∈code :=
 ⟨L.thr.getD k [],by rw [List.getD_eq_getElem?_getD,List.getElem?_eq_getElem hk];exact List.getElem_mem hk,List.mem_of_mem_drop (by rw [h];exact List.mem_cons_self)⟩
theorem rch_no {L:Lt} {o:Int} (hL:checkB L=true) (hn:noSt L) {s:LS} (h:Rch L o s):Rch L 1 s:=by
 induction h with
 | beg=>exact Rch.beg
 | @step s t hr ht hd ih =>
  have hw:=rch_wf hL ih
  obtain ⟨k,hk,rfl | ⟨_,a,rfl,ha⟩⟩:=turnsL_mem ht
  ·obtain ⟨p,hp,hle⟩:=at_place hw hk
   have e:=run_o (L:=L) (o:=o) (o':=1) (s:=s) hk hp hle (fun c' r' h'=>by
    obtain ⟨code,h1,h2⟩:=drop_mem hk h'
    exact Or.inl (hn code h1 c' h2))
   rw [e] at hd ⊢
   exact Rch.step _ ih (mem_run hk) hd
  ·rw [turn_out hk] at hd
   have hb:=plain_buf hw k
   unfold outS at hd
   split at hd
   ·cases hd
   ·rw [hb] at hd
    simp at hd
def drn (w:List Int):List Pd→List Int
 | []=>w
 | p :: l=>drn (w.set p.addr.toNat p.val) l
theorem drn_app:∀ (l:List Pd) (w:List Int) (p:Pd),drn w (l++[p])=(drn w l).set p.addr.toNat p.val
 | [],w,p=>rfl
 | q :: l,w,p=>drn_app l _ p
theorem drn_see {n:Nat} {a:Int} (ha:0≤a∧a<n):∀ (l:List Pd) (w:List Int),w.length=n→(∀ p∈l,0≤p.addr∧p.addr<n)→(drn w l).getD a.toNat 0=seeL (w.getD a.toNat 0) a l
 | [],w,hw,hp=>rfl
 | p :: l,w,hw,hp=>by
  have hpa:=hp p List.mem_cons_self
  rw [drn,drn_see ha l _ (by rw [List.length_set,hw]) (fun q hq=>hp q (List.mem_cons_of_mem _ hq)),seeL,getD_setE]
  by_cases e:p.addr=a
  ·rw [if_pos ⟨by rw [e],by omega⟩,if_pos e]
  ·rw [if_neg (by omega),if_neg e]
theorem drn_erase:∀ (l:List Pd) (w:List Int) (i:Nat) (q:Pd),l[i]? = some q→(∀ j p,j<i→l[j]? = some p→p.addr.toNat≠q.addr.toNat)→drn (w.set q.addr.toNat q.val) (l.eraseIdx i)=drn w l
 | [],w,i,q,h,_=>by simp at h
 | p :: l,w,0,q,h,_=>by
  simp only [List.getElem?_cons_zero,Option.some.injEq] at h
  subst h;rfl
 | p :: l,w,i+1,q,h,hn=>by
  have hne:=hn 0 p (by omega) rfl
  rw [List.eraseIdx_cons_succ,drn,drn,List.set_comm _ _ (Ne.symm hne)]
  exact drn_erase l _ i q (by simpa using h) (fun j p' hj hp'=>hn (j+1) p' (by omega) (by simpa using hp'))
def drS (s:LS):LS:={ s with words:=drn s.words (s.bufs.getD 0 []),bufs:=[[]] }
theorem one_out {o a:Int} {s s' : LS} (hp:∀ p∈s.bufs.getD 0 [],0≤p.addr) (hb:s.bufs.length=1) (ho:o=2∨o=3) (h:outS o s 0 a=(s',true)):drS s' = drS s:=by
 unfold outS at h
 rw [if_neg (by omega)] at h
 split at h
 ·cases h
 ·next i hi =>
  rw [List.findIdx?_eq_some_iff_getElem] at hi
  obtain ⟨hlt,h1,h2⟩:=hi
  injection h with h _
  subst h
  simp only [drS]
  have e:(s.bufs.getD 0 []).getD i pd0=(s.bufs.getD 0 [])[i]:=by rw [List.getD_eq_getElem?_getD,List.getElem?_eq_getElem hlt];rfl
  rw [e,bf_set (by omega),if_pos rfl]
  congr 1
  refine drn_erase _ _ i _ (List.getElem?_eq_getElem hlt) (fun j p hj hpj=>?_)
  have hjl:j<(s.bufs.getD 0 []).length:=by omega
  have h3:=h2 j hj
  rw [List.getElem?_eq_getElem hjl,Option.some.injEq] at hpj
  rw [hpj] at h3
  have hpi:=hp _ (List.getElem_mem hlt)
  have hpp:=hp p (hpj ▸ List.getElem_mem hjl)
  rcases ho with rfl | rfl
  ·simp [hitB] at h3
  ·simp only [hitB,show ((3:Int) != 3)=false by decide,Bool.false_or,decide_eq_true_eq] at h1 h3
   omega
theorem one_step {o f:Int} {s s' : LS} {c:Ins} {n:Nat} (hw:s.words.length=n) (hp:∀ p∈s.bufs.getD 0 [],0≤p.addr∧p.addr<n) (hb:s.bufs.length=1) (hfit:fitsB c n=true) (ho:o=2∨o=3) (h:stepS o s 0 c=some (s',f)):stepS 1 (drS s) 0 c=some (drS s',f):=by
 simp only [fitsB,decide_eq_true_eq] at hfit
 have hb0:(drS s).bufs.getD 0 []=[]:=rfl
 have ho1:¬ o=1:=by omega
 unfold stepS at h ⊢
 simp only [if_neg ho1] at h
 simp only [if_true,hb0,List.length_nil,Nat.lt_irrefl,if_false,gt_iff_lt]
 by_cases h1:c.kind=1
 ·simp only [if_pos h1,Option.some.injEq,Prod.mk.injEq] at h ⊢
  obtain ⟨rfl,rfl⟩:=h
  have ha:=hfit.2.2.2.1 (by omega)
  have:seeS (drS s) 0 c.addr=seeS s 0 c.addr:=by
   unfold seeS
   rw [hb0]
   exact drn_see ha _ _ hw hp
  rw [this]
  exact ⟨rfl,rfl⟩
 simp only [if_neg h1] at h ⊢
 by_cases h2:c.kind=2
 ·simp only [if_pos h2,Option.some.injEq,Prod.mk.injEq] at h ⊢
  obtain ⟨rfl,rfl⟩:=h
  refine ⟨?_,rfl⟩
  simp only [drS]
  rw [bf_set (by omega),if_pos rfl,drn_app]
 simp only [if_neg h2] at h ⊢
 by_cases h3:c.kind=3
 ·simp only [if_pos h3] at h ⊢
  split at h
  ·cases h
  ·next hl =>
   have hbe:s.bufs.getD 0 []=[]:=List.eq_nil_of_length_eq_zero (by omega)
   have hdw:(drS s).words=s.words:=by simp only [drS,hbe,drn]
   rw [hdw]
   split at h
   ·next hold =>
    rw [if_pos hold]
    simp only [Option.some.injEq,Prod.mk.injEq] at h ⊢
    obtain ⟨rfl,rfl⟩:=h
    exact ⟨by simp only [drS,hbe,drn],rfl⟩
   ·next hold =>
    rw [if_neg hold]
    simp only [Option.some.injEq,Prod.mk.injEq] at h ⊢
    obtain ⟨rfl,rfl⟩:=h
    exact ⟨by simp only [drS,hbe,drn],rfl⟩
 simp only [if_neg h3] at h ⊢
 by_cases h4:c.kind=4
 ·simp only [if_pos h4] at h ⊢
  split at h
  ·cases h
  ·simp only [Option.some.injEq,Prod.mk.injEq] at h ⊢
   obtain ⟨rfl,rfl⟩:=h
   exact ⟨rfl,rfl⟩
 simp only [if_neg h4] at h ⊢
 by_cases h5:c.kind=5
 ·simp only [if_pos h5,Option.some.injEq,Prod.mk.injEq] at h ⊢
  obtain ⟨rfl,rfl⟩:=h
  exact ⟨rfl,rfl⟩
 simp only [if_neg h5] at h ⊢
 by_cases h6:c.kind=6
 ·simp only [if_pos h6,Option.some.injEq,Prod.mk.injEq] at h ⊢
  obtain ⟨rfl,rfl⟩:=h
  exact ⟨rfl,rfl⟩
 simp only [if_neg h6] at h ⊢
 split at h
 ·next hk =>
  rw [if_pos (show ((drS s).regs.getD 0 r40).get c.reg=c.val from hk)]
  simp only [Option.some.injEq,Prod.mk.injEq] at h ⊢
  obtain ⟨rfl,rfl⟩:=h
  exact ⟨rfl,rfl⟩
 ·next hk =>
  rw [if_neg (show ¬ ((drS s).regs.getD 0 r40).get c.reg=c.val from hk)]
  simp only [Option.some.injEq,Prod.mk.injEq] at h ⊢
  obtain ⟨rfl,rfl⟩:=h
  exact ⟨rfl,rfl⟩
theorem rch_one {L:Lt} {o:Int} (hL:checkB L=true) (h1:L.thr.length=1) (ho:o=2∨o=3) {s:LS} (h:Rch L o s):Rch L 1 (drS s):=by
 induction h with
 | beg =>
  have e:drS (beginS L)=beginS L:=by simp [drS,beginS,h1,drn,List.replicate]
  rw [e];exact Rch.beg
 | @step s t hr ht hd ih =>
  have hw:=rch_wf hL hr
  obtain ⟨k,hk,rfl | ⟨_,a,rfl,ha⟩⟩:=turnsL_mem ht
  ·obtain rfl:k=0:=by omega
   obtain ⟨p,hp,hle⟩:=at_place hw hk
   cases hdr:(L.thr.getD 0 []).drop p with
   | nil =>
    rw [turn_end (t:=⟨((0:Nat):Int),false,0⟩) (p:=p) rfl (by simpa using hp) (by simpa using hle) (by simpa using hdr)] at hd
    cases hd
   | cons c r =>
    have e1:=turn_run (L:=L) (o:=o) (s:=s) (t:=⟨((0:Nat):Int),false,0⟩) (p:=p) ⟨by simp,by simpa using hk⟩ rfl (by simpa using hp) (by simpa using hdr)
    have e2:=turn_run (L:=L) (o:=1) (s:=drS s) (t:=⟨((0:Nat):Int),false,0⟩) (p:=p) ⟨by simp,by simpa using hk⟩ rfl (by simpa [drS] using hp) (by simpa using hdr)
    cases hs:stepS o s 0 c with
    | none =>
     rw [e1,Int.toNat_natCast,hs] at hd
     cases hd
    | some x =>
     obtain ⟨s',f⟩:=x
     have h3:=one_step hw.wf.w (hw.wf.thr 0 hk).pend (by rw [hw.wf.b,h1]) (fits_cnt hL hk hdr) ho hs
     rw [Int.toNat_natCast,hs] at e1
     rw [Int.toNat_natCast,h3] at e2
     have:=Rch.step _ ih (mem_run hk) (by rw [e2])
     rw [e2] at this
     rw [e1]
     exact this
  ·obtain rfl:k=0:=by omega
   rw [turn_out hk] at hd ⊢
   have:=one_out (o:=o) (a:=a) (s:=s) (s':=(outS o s 0 a).1) (fun p hp=>((hw.wf.thr 0 hk).pend p hp).1) (by rw [hw.wf.b,h1]) ho (by rw [← hd])
   rw [this]
   exact ih
end Go.Proofs.Ytmcpdafmkkjlcaa.Z
namespace Go.Proofs.Ytmcpdafmkkjlcaa.Z
open Go Go.RowKit
def tmu (L:Lt) (s:LS) (t:Nat):Nat:=2 * ((L.thr.getD t []).length - (s.places.getD t 0).toNat)+(s.bufs.getD t []).length
def muN (L:Lt) (s:LS):Nat→Nat
 | 0=>0
 | n+1=>muN L s n+tmu L s n
theorem muN_le {L:Lt} {s s' : LS}:∀ {n:Nat},(∀ t,t<n→tmu L s' t≤tmu L s t)→muN L s' n≤muN L s n
 | 0,_=>Nat.le_refl _
 | n+1,h=>by
  have:=muN_le (L:=L) (s:=s) (s':=s') (n:=n) (fun t ht=>h t (by omega))
  have:=h n (by omega)
  simp only [muN]
  omega
theorem muN_lt {L:Lt} {s s' : LS} {k:Nat}:∀ {n:Nat},k<n→tmu L s' k<tmu L s k→(∀ t,t≠k→tmu L s' t≤tmu L s t)→muN L s' n<muN L s n
 | 0,h,_,_=>by omega
 | n+1,hk,h1,h2=>by
  simp only [muN]
  by_cases e:k=n
  ·subst e
   have:=muN_le (L:=L) (s:=s) (s':=s') (n:=k) (fun t ht=>h2 t (by omega))
   omega
  ·have:=muN_lt (n:=n) (by omega) h1 h2
   have:=h2 n (Ne.symm e)
   omega
theorem mu_begin {L:Lt} (hL:checkB L=true):∀ {n:Nat},n≤L.thr.length→muN L (beginS L) n≤20 * n
 | 0,_=>Nat.le_refl _
 | n+1,h=>by
  have:=mu_begin hL (n:=n) (by omega)
  have h1:=(fits_at hL (t:=n) (by omega)).1
  have h2:(beginS L).bufs.getD n []=[]:=rep_getD (by omega)
  simp only [muN,tmu,h2,List.length_nil]
  omega
theorem step_buf {o f:Int} {s s' : LS} {k t:Nat} {c:Ins} (hs:stepS o s k c=some (s',f)):(s'.bufs.getD t []).length≤(s.bufs.getD t []).length+(if t=k then 1 else 0):=by
  unfold stepS at hs
  repeat' split at hs
  all_goals first
    | (cases hs;exact Nat.le_add_right _ _)
    | (cases hs;simp only;rw [getD_setE];by_cases e:t=k
       · rw [if_pos e];split
         · next e2=>rw [e2.1,List.length_append];simp
         · omega
       · rw [if_neg (fun q=>e q.1.symm)];omega)
    | cases hs
theorem turn_mu {L:Lt} {o:Int} {s:LS} (hL:checkB L=true) (hw:WfT L o s) {t:Tn} (ht:t∈turnsL L o) (hd:(turnS L o s t).2=true):muN L (turnS L o s t).1 L.thr.length<muN L s L.thr.length:=by
 obtain ⟨k,hk,rfl | ⟨ho1,a,rfl,ha⟩⟩:=turnsL_mem ht
 ·obtain ⟨p,hp,hle⟩:=at_place hw hk
  cases hdr:(L.thr.getD k []).drop p with
  | nil =>
   rw [turn_end (t:=⟨k,false,0⟩) (p:=p) rfl (by simpa using hp) (by simpa using hle) (by simpa using hdr)] at hd
   cases hd
  | cons c r =>
   have e1:=turn_run (L:=L) (o:=o) (s:=s) (t:=⟨k,false,0⟩) (p:=p) ⟨by simp,by simpa using hk⟩ rfl (by simpa using hp) (by simpa using hdr)
   rw [Int.toNat_natCast] at e1
   cases hs:stepS o s k c with
   | none =>
    rw [e1,hs] at hd
    cases hd
   | some x =>
    obtain ⟨s',f⟩:=x
    rw [hs] at e1
    rw [e1]
    obtain ⟨_,f1,_,_⟩:=step_wf hw.wf hk (fits_cnt hL hk hdr) hs
    have hlt:=(drop_cons hdr).1
    have hpl:k<s.places.length:=by rw [hw.wf.p];exact hk
    refine muN_lt hk ?_ (fun t ht=>?_)
    ·have hb:=step_buf (t:=k) hs
     rw [if_pos rfl] at hb
     simp only [tmu]
     rw [pl_set hpl,if_pos rfl,hp]
     unfold plc
     split <;> omega
    ·have hb:=step_buf (t:=t) hs
     rw [if_neg ht] at hb
     simp only [tmu]
     rw [pl_set hpl,if_neg ht]
     omega
 ·rw [turn_out hk] at hd ⊢
  unfold outS at hd ⊢
  rw [if_neg ho1] at hd ⊢
  split at hd
  ·cases hd
  ·next i hi =>
   rw [List.findIdx?_eq_some_iff_getElem] at hi
   obtain ⟨hlt,_,_⟩:=hi
   have hbl:k<s.bufs.length:=by rw [hw.wf.b];exact hk
   have hle:=List.length_eraseIdx_of_lt hlt
   refine muN_lt hk ?_ (fun t ht=>?_)
   ·simp only [tmu]
    rw [bf_set hbl,if_pos rfl]
    omega
   ·simp only [tmu]
    rw [bf_set hbl,if_neg ht]
    exact Nat.le_refl _
theorem step_some {o:Int} {s:LS} {k:Nat} {c:Ins} (hb:s.bufs.getD k []=[]):∃ x,stepS o s k c=some x:=by
 unfold stepS
 simp only [hb,List.length_nil,Nat.lt_irrefl,if_false,gt_iff_lt]
 repeat' split
 all_goals exact ⟨_,rfl⟩
theorem some_turn {L:Lt} {o:Int} {s:LS} (hw:WfT L o s) (ho:1≤o∧o≤3) (hf:¬ finB L s=true):∃ t∈turnsL L o,(turnS L o s t).2=true:=by
 rw [finB_iff] at hf
 have:∃ k,k<L.thr.length∧¬ (s.places.getD k 0=(L.thr.getD k []).length∧(s.bufs.getD k []).length=0):=Decidable.of_not_not fun q=>hf fun t ht=>Decidable.of_not_not fun q'=>q ⟨t,ht,q'⟩
 obtain ⟨k,hk,hne⟩:=this
 cases hb:s.bufs.getD k [] with
 | nil =>
  obtain ⟨p,hp,hle⟩:=at_place hw hk
  have hlt:p<(L.thr.getD k []).length:=by
   rw [hb,hp] at hne
   rcases Nat.lt_or_ge p (L.thr.getD k []).length with h | h
   ·exact h
   ·exact absurd ⟨by omega,rfl⟩ hne
  refine ⟨⟨k,false,0⟩,mem_run hk,?_⟩
  have hdr:=List.drop_eq_getElem_cons hlt
  have e1:=turn_run (L:=L) (o:=o) (s:=s) (t:=⟨k,false,0⟩) (p:=p) ⟨by simp,by simpa using hk⟩ rfl (by simpa using hp) hdr
  rw [Int.toNat_natCast] at e1
  obtain ⟨⟨s',f⟩,hs⟩:=step_some (o:=o) (c:=(L.thr.getD k [])[p]) hb
  rw [hs] at e1
  rw [e1]
 | cons q l =>
  have hq:=(hw.wf.thr k hk).pend q (by rw [hb];exact List.mem_cons_self)
  have ho1:¬ o=1:=fun e=>by
   have:=(hw.wf.thr k hk).sc e
   rw [hb] at this
   cases this
  by_cases h2:o=2
  ·subst h2
   refine ⟨⟨k,true,0⟩,mem_out2 hk,?_⟩
   have:=turn_out (L:=L) (o:=2) (s:=s) (a:=0) hk
   rw [this]
   unfold outS
   rw [if_neg (by decide),hb]
   simp [List.findIdx?_cons,hitB]
  ·obtain rfl:o=3:=by omega
   refine ⟨⟨k,true,(q.addr.toNat:Nat)⟩,mem_out3 hk (by omega),?_⟩
   rw [turn_out hk]
   unfold outS
   rw [if_neg (by decide),hb,show ((q.addr.toNat:Nat):Int)=q.addr by omega]
   simp [List.findIdx?_cons,hitB]
theorem end_ex {L:Lt} {o:Int} (hL:checkB L=true) (ho:1≤o∧o≤3):∀ (m:Nat) (s:LS),Rch L o s→muN L s L.thr.length≤m→∃ s',Rch L o s'∧finB L s' = true:=by
 intro m
 induction m with
 | zero =>
  intro s h hm
  by_cases hf:finB L s=true
  ·exact ⟨s,h,hf⟩
  ·obtain ⟨t,ht,hd⟩:=some_turn (rch_wf hL h) ho hf
   have:=turn_mu hL (rch_wf hL h) ht hd
   omega
 | succ m ih =>
  intro s h hm
  by_cases hf:finB L s=true
  ·exact ⟨s,h,hf⟩
  ·obtain ⟨t,ht,hd⟩:=some_turn (rch_wf hL h) ho hf
   have:=turn_mu hL (rch_wf hL h) ht hd
   exact ih _ (Rch.step t h ht hd) (by omega)
theorem fins_ne {L:Lt} {o:Int} (hL:checkB L=true) (ho:1≤o∧o≤3) {l:List Sp} (h:bfs L o=some l):finsL L (l.map (·.s))≠[]:=by
 obtain ⟨s,hs,hf⟩:=end_ex hL ho _ _ Rch.beg (Nat.le_refl _)
 have:=(fins_mem hL h (f:=endF s)).2 ⟨s,hs,hf,rfl⟩
 intro e
 rw [e] at this
 cases this
def nxS (L:Lt) (s:LS):LS:=(turnS L 1 s ⟨((0:Nat):Int),false,0⟩).1
def itN {α:Type} (f:α→α):Nat→α→α
 | 0,x=>x
 | n+1,x=>f (itN f n x)
theorem itN_add {α:Type} (f:α→α) (n:Nat) (x:α):∀ m,itN f (m+n) x=itN f m (itN f n x)
 | 0=>by rw [Nat.zero_add];rfl
 | m+1=>by rw [Nat.add_right_comm];simp only [itN];rw [itN_add f n x m]
theorem itN_fix {α:Type} {f:α→α} {x:α} (h:f x=x):∀ m,itN f m x=x
 | 0=>rfl
 | m+1=>by rw [itN,itN_fix h m,h]
theorem rch_it {L:Lt} (h1:L.thr.length=1) {s:LS} (h:Rch L 1 s):∃ n,s=itN (nxS L) n (beginS L):=by
 induction h with
 | beg=>exact ⟨0,rfl⟩
 | @step s t hr ht hd ih =>
  obtain ⟨n,rfl⟩:=ih
  obtain ⟨k,hk,rfl⟩:=turnsL_1 ht
  obtain rfl:k=0:=by omega
  exact ⟨n+1,rfl⟩
theorem fin_fix {L:Lt} (h1:L.thr.length=1) {s:LS} (hf:finB L s=true):nxS L s=s:=by
 have:=(finB_iff.1 hf 0 (by omega)).1
 unfold nxS turnS
 simp only [Int.toNat_natCast,this,if_true]
 split <;> simp
theorem one_fin {L:Lt} (h1:L.thr.length=1) {s s' : LS} (h:Rch L 1 s) (h' : Rch L 1 s') (hf:finB L s=true) (hf' : finB L s' = true):s=s':=by
 obtain ⟨n,rfl⟩:=rch_it h1 h
 obtain ⟨m,rfl⟩:=rch_it h1 h'
 rcases Nat.le_total n m with hnm | hnm
 ·obtain ⟨d,rfl⟩:=Nat.exists_eq_add_of_le hnm
  rw [Nat.add_comm,itN_add,itN_fix (fin_fix h1 hf)]
 ·obtain ⟨d,rfl⟩:=Nat.exists_eq_add_of_le hnm
  rw [Nat.add_comm,itN_add,itN_fix (fin_fix h1 hf')]
end Go.Proofs.Ytmcpdafmkkjlcaa.Z
namespace Go.Proofs.Ytmcpdafmkkjlcaa.Z
open Go Go.RowKit
def ChainT (L:Lt) (o:Int) (l:List Sp):Prop:=(l.getD 0 sp0).s=beginS L∧∀ i,0<i→i<l.length→∃ f:Nat,f<i∧(l.getD i sp0).frm=f∧(l.getD i sp0).tn∈turnsL L o∧turnS L o (l.getD f sp0).s (l.getD i sp0).tn=((l.getD i sp0).s,true)
theorem gdA1 {α:Type} {l:List α} {x d:α} {i:Nat} (h:i<l.length):(l++[x]).getD i d=l.getD i d:=by
 rw [List.getD_eq_getElem?_getD,List.getElem?_append_left h,List.getD_eq_getElem?_getD]
theorem gdA2 {α:Type} {l:List α} {x d:α}:(l++[x]).getD l.length d=x:=by
 rw [List.getD_eq_getElem?_getD,List.getElem?_append_right (Nat.le_refl _)];simp
theorem chain_push {L:Lt} {o:Int} {l:List Sp} {i:Nat} {t:Tn} (h:ChainT L o l) (hi:i<l.length) (ht:t∈turnsL L o) (hd:(turnS L o (l.getD i sp0).s t).2=true):ChainT L o (l++[⟨(turnS L o (l.getD i sp0).s t).1,i,t⟩]):=by
 refine ⟨by rw [gdA1 (by omega)];exact h.1,fun j hj hl=>?_⟩
 rw [List.length_append,List.length_singleton] at hl
 rcases Nat.lt_or_ge j l.length with hlt | hge
 ·obtain ⟨f,h1,h2,h3,h4⟩:=h.2 j hj hlt
  rw [gdA1 hlt]
  exact ⟨f,h1,h2,h3,by rw [gdA1 (by omega)];exact h4⟩
 ·obtain rfl:j=l.length:=by omega
  rw [gdA2]
  exact ⟨i,hi,rfl,ht,by rw [gdA1 hi,← hd]⟩
theorem bfsI_chain {L:Lt} {o:Int} {i:Nat}:∀ {ts:List Tn} {l l' : List Sp},(∀ t∈ts,t∈turnsL L o)→ChainT L o l→i<l.length→bfsI L o i ts l=some l'→ChainT L o l'
 | [],l,l',hts,h,hi,e=>by
  simp only [bfsI,Option.some.injEq] at e
  subst e;exact h
 | t :: ts,l,l',hts,h,hi,e=>by
  simp only [bfsI] at e
  split at e
  ·next hc =>
   split at e
   ·cases e
   ·exact bfsI_chain (fun t ht=>hts t (List.mem_cons_of_mem _ ht)) (chain_push h hi (hts t List.mem_cons_self) hc.1) (by simp;omega) e
  ·exact bfsI_chain (fun t ht=>hts t (List.mem_cons_of_mem _ ht)) h hi e
theorem bfsO_chain {L:Lt} {o:Int}:∀ {n i:Nat} {l l' : List Sp},ChainT L o l→bfsO L o n i l=some l'→ChainT L o l'
 | 0,i,l,l',h,e=>by
  simp only [bfsO,Option.some.injEq] at e
  subst e;exact h
 | n+1,i,l,l',h,e=>by
  simp only [bfsO] at e
  split at e
  ·next hi =>
   cases hb:bfsI L o i (turnsL L o) l with
   | none=>rw [hb] at e;cases e
   | some l2 =>
    rw [hb] at e
    exact bfsO_chain (bfsI_chain (fun _ h=>h) h hi hb) e
  ·simp only [Option.some.injEq] at e
   subst e;exact h
theorem bfs_chain {L:Lt} {o:Int} {l:List Sp} (h:bfs L o=some l):ChainT L o l :=
 bfsO_chain ⟨rfl,fun i h0 h1=>by simp at h1;omega⟩ h
def wayB (l:List Sp):Nat→Nat→List Tn
 | 0,_=>[]
 | n+1,i=>if i=0 then [] else (l.getD i sp0).tn :: wayB l n (l.getD i sp0).frm.toNat
theorem wayB_zero (l:List Sp):∀ n,wayB l n 0=[]
 | 0=>rfl
 | n+1=>by simp [wayB]
theorem wayB_fuel {L:Lt} {o:Int} {l:List Sp} (h:ChainT L o l):∀ {n i:Nat},i≤n→i<l.length→wayB l n i=wayB l i i
 | 0,i,hi,hl=>by
  obtain rfl:i=0:=by omega
  rfl
 | n+1,0,hi,hl=>by rw [wayB_zero,wayB_zero]
 | n+1,i+1,hi,hl=>by
  obtain ⟨f,h1,h2,_,_⟩:=h.2 (i+1) (by omega) hl
  rw [wayB,wayB,if_neg (by omega),if_neg (by omega),h2,Int.toNat_natCast,wayB_fuel h (n:=n) (by omega) (by omega),wayB_fuel h (n:=i) (by omega) (by omega)]
def wayI (l:List Sp) (i:Nat):List Tn:=wayB l i i
theorem wayI_zero (l:List Sp):wayI l 0=[]:=rfl
theorem wayI_step {L:Lt} {o:Int} {l:List Sp} (h:ChainT L o l) {i:Nat} (hi:0<i) (hl:i<l.length):∃ f:Nat,f<i∧(l.getD i sp0).frm=f∧wayI l i=(l.getD i sp0).tn :: wayI l f:=by
 obtain ⟨f,h1,h2,_,_⟩:=h.2 i hi hl
 refine ⟨f,h1,h2,?_⟩
 obtain ⟨j,rfl⟩:=Nat.exists_eq_add_of_le' hi
 unfold wayI
 rw [wayB,if_neg (by omega),h2,Int.toNat_natCast,wayB_fuel h (n:=j) (by omega) (by omega)]
theorem runS_snoc {L:Lt} {o:Int}:∀ (ts:List Tn) (s:LS) (n:Nat) (t:Tn),runS L o s n (ts++[t])=((turnS L o (runS L o s n ts).1 t).1,if (turnS L o (runS L o s n ts).1 t).2=true then (runS L o s n ts).2+1 else (runS L o s n ts).2)
 | [],s,n,t=>rfl
 | x :: ts,s,n,t=>by simp only [List.cons_append,runS];exact runS_snoc ts _ _ t
theorem way_run {L:Lt} {o:Int} {l:List Sp} (h:ChainT L o l):∀ (m i:Nat),i≤m→i<l.length→runS L o (beginS L) 0 (wayI l i).reverse=((l.getD i sp0).s,(wayI l i).length)
 | m,0,_,_=>by rw [h.1];rfl
 | 0,i+1,hm,_=>by omega
 | m+1,i+1,hm,hl=>by
  obtain ⟨f,h1,h2,_,h4⟩:=h.2 (i+1) (by omega) hl
  obtain ⟨f',h1',h2',h3'⟩:=wayI_step h (i:=i+1) (by omega) hl
  obtain rfl:f=f':=by omega
  rw [h3',List.reverse_cons,runS_snoc,way_run h m f (by omega) (by omega)]
  simp only [h4,if_true,List.length_cons]
theorem way_len {L:Lt} {o:Int} {l:List Sp} (hL:checkB L=true) (h:ChainT L o l) (hw:∀ x∈l,WfT L o x.s):∀ (m i:Nat),i≤m→i<l.length→muN L (l.getD i sp0).s L.thr.length+(wayI l i).length≤muN L (beginS L) L.thr.length
 | m,0,_,_=>by rw [h.1];exact Nat.le_refl _
 | 0,i+1,hm,_=>by omega
 | m+1,i+1,hm,hl=>by
  obtain ⟨f,h1,h2,h3,h4⟩:=h.2 (i+1) (by omega) hl
  obtain ⟨f',h1',h2',h3'⟩:=wayI_step h (i:=i+1) (by omega) hl
  obtain rfl:f=f':=by omega
  have ih:=way_len hL h hw m f (by omega) (by omega)
  have hfw:WfT L o (l.getD f sp0).s:=hw _ (by rw [List.getD_eq_getElem?_getD,List.getElem?_eq_getElem (by omega)];exact List.getElem_mem _)
  have:=turn_mu hL hfw h3 (by rw [h4])
  rw [h4] at this
  rw [h3',List.length_cons]
  simp only at this
  omega
theorem way_80 {L:Lt} {o:Int} {l:List Sp} (hL:checkB L=true) (h:bfs L o=some l) {i:Nat} (hl:i<l.length):(wayI l i).length≤80:=by
 have h1:=way_len hL (bfs_chain h) (bfs_ok hL h).wf i i (Nat.le_refl _) hl
 have h2:=mu_begin hL (n:=L.thr.length) (Nat.le_refl _)
 have h3:=(sz_at hL).2.1
 omega
theorem bfs_sub {L:Lt} {o o' : Int} (hL:checkB L=true) {l l' : List Sp} (h:bfs L o=some l) (h' : bfs L o' = some l') (hs:∀ s,Rch L o s→Rch L o' s):∀ f∈finsL L (l.map (·.s)),f∈finsL L (l'.map (·.s)):=fun f hf=>by
 obtain ⟨s,h1,h2,h3⟩:=(fins_mem hL h).1 hf
 exact (fins_mem hL h').2 ⟨s,hs s h1,h2,h3⟩
theorem fins_no {L:Lt} {o o' : Int} (hL:checkB L=true) (hn:noSt L) {l l' : List Sp} (h:bfs L 1=some l) (h' : bfs L o' = some l') (hs:∀ s,Rch L 1 s→Rch L o' s):finsL L (l.map (·.s))=finsL L (l'.map (·.s)) :=
 fins_eq hL hL h h' fun f=>⟨fun ⟨s,h1,h2,h3⟩=>⟨s,hs s h1,h2,h3⟩,fun ⟨s,h1,h2,h3⟩=>⟨s,rch_no hL hn h1,h2,h3⟩⟩
theorem fin_drS {L:Lt} (h1:L.thr.length=1) {s:LS} (hb:s.bufs.length=1) (hf:finB L s=true):drS s=s:=by
 have h2:=(finB_iff.1 hf 0 (by omega)).2
 have h3:s.bufs.getD 0 []=[]:=List.eq_nil_of_length_eq_zero h2
 obtain ⟨w,r,p,b⟩:=s
 simp only at hb h3
 simp only [drS,h3,drn,LS.mk.injEq,true_and]
 match b,hb,h3 with
 | [x],_,h3=>simp at h3;rw [h3]
theorem fins_one {L:Lt} {o' : Int} (hL:checkB L=true) (h1:L.thr.length=1) (ho:o' = 2∨o' = 3) {l l' : List Sp} (h:bfs L 1=some l) (h' : bfs L o' = some l') (hs:∀ s,Rch L 1 s→Rch L o' s):finsL L (l.map (·.s))=finsL L (l'.map (·.s)) :=
 fins_eq hL hL h h' fun f=>⟨fun ⟨s,h1,h2,h3⟩=>⟨s,hs s h1,h2,h3⟩,fun ⟨s,g1,g2,g3⟩=>by
  have:=rch_one hL h1 ho g1
  rw [fin_drS h1 (by rw [(rch_wf hL g1).wf.b,h1]) g2] at this
  exact ⟨s,this,g2,g3⟩⟩
theorem fins_one1 {L:Lt} (hL:checkB L=true) (h1:L.thr.length=1) {l:List Sp} (h:bfs L 1=some l):(finsL L (l.map (·.s))).length=1:=by
 have hk:=bfs_ok hL h
 have hw:∀ s∈l.map (·.s),WfT L 1 s:=fun s hs=>by
  rw [List.mem_map] at hs
  obtain ⟨x,hx,rfl⟩:=hs
  exact hk.wf x hx
 have hp:=(finsL_ok hw hk.nd).1
 have hne:=fins_ne hL ⟨by decide,by decide⟩ h
 rw [hp.length_eq,List.length_map]
 have hnd:((l.map (·.s)).filter (finB L)).Nodup:=hk.nd.filter _
 have hm:∀ s,s∈(l.map (·.s)).filter (finB L)→Rch L 1 s∧finB L s=true:=fun s hs=>by
  rw [List.mem_filter] at hs
  exact ⟨(bfs_mem hL h).1 hs.1,hs.2⟩
 cases e:(l.map (·.s)).filter (finB L) with
 | nil =>
  rw [e] at hp
  exact absurd (List.perm_nil.1 hp) hne
 | cons x r =>
  cases r with
  | nil=>rfl
  | cons y r =>
   rw [e] at hnd hm
   have:=one_fin h1 (hm x (by simp)).1 (hm y (by simp)).1 (hm x (by simp)).2 (hm y (by simp)).2
   subst this
   simp at hnd
end Go.Proofs.Ytmcpdafmkkjlcaa.Z
namespace Go.Proofs.Ytmcpdafmkkjlcaa.Z
open Go Go.RowKit
def fnA (i:Nat) (f:Fn):List (Nat×Fm ArrF):=[(i,.one (arrOf eI 1 f.words 0)),(i+1,.one (arrOf R4.enc 4 f.regs r40))]
def fnX (i:Nat):List SC:=[.xv (i,0,0),.xv (i+1,0,0)]
theorem enterLtF {P:Program} {A:List Nat} {f nt:Nat} {fn:Func} {x:Code} {c:IR} {w:World} {rs:List RS} {R:Ending→World→Prop} {v v' : Value} {L:Lt} {g:Fn} (h:LtR w v L) (h' : FnR w v' g) (sc:List SV) (args:Array Value)
  (hf:P.funcs[f]? = some fn) (hb:fn.body=some x) (hc:compC (mkTab P A) x=some c.strip) (hrs:compR (mkTab P A).T fn.results.toList=some rs) (hn:fn.ntmps=nt)
  (hargs:∀ E',(SV.agg (ltS 0)).den E' = v→(SV.agg (fnX 3)).den E' = v'→(sc.map (SV.den E')).toArray=args) (hnt:sc.length≤nt)
  (hex:exec (mkC P A w rs R) 1000 [.code c] ⟨nt,enumT 0 sc,[],ltA 0 L++fnA 3 g,[],5⟩):Calls P f args w R:=by
 obtain ⟨vw,vt,rfl,h1,vs,h2,h3,h4⟩:=h
 obtain ⟨vf,vr,rfl,g1,g2⟩:=h'
 refine enterL [fun _=>vw,fun _=>vt,fun k=>vs.getD k nest0,fun _=>vf,fun _=>vr] ⟨fun _=>arr_one h1,fun _=>arr_one h2,fun k=>?_,fun _=>arr_one g1,fun _=>arr_one g2,trivial⟩ (rd_one 0 0 eI_ok h1 (by simp) rfl (rd_nest 1 2 in0 in_ok h2 h3 h4 (by simp) (by simp) rfl (fun _=>rfl) (rd_one 3 0 eI_ok g1 (by simp) rfl (rd_one 4 r40 r4_ok g2 (by simp) rfl rd_nil)))) sc args hf hb hc hrs hn (fun E' hE'=>hargs E' ?_ ?_) hnt hex
 ·by_cases hk:k<L.thr.length
  ·exact arr_one (h4 k hk)
  ·show (vs.getD k nest0).oneCell' = true
   rw [List.getD_eq_getElem?_getD,List.getElem?_eq_none (by omega)];rfl
 ·have e0:=hE' 0 0 0 (by simp)
  have e1:=hE' 1 0 0 (by simp)
  simp only [ltS,SV.den,List.map_cons,List.map_nil,SC.den,e0,e1]
  rfl
 ·have e0:=hE' 3 0 0 (by simp)
  have e1:=hE' 4 0 0 (by simp)
  simp only [fnX,SV.den,List.map_cons,List.map_nil,SC.den,e0,e1]
  rfl
def reS (l:List Sp):Own:=[(5,.one (.bk [.xv (0,0,0),.xv (1,0,0)] 25)),(6,.one (.bk [.xv (3,0,0),.xv (4,0,0)] 67))]++wlO 7 l
theorem wl7_same {q:Nat→Prop} {τ:Nat→Nat} {own:Own} {l:List Sp} (hq:∀ i,i<13→q i) (hτ:∀ i,i<13→τ i=i) (g4:look own 7=some (.one (.ar l.length 8 (wlC 7 l) 98))) (g5:look own 8=some (.fam l.length (wlW l))) (g6:look own 9=some (.fam l.length (wlR l))) (g7:look own 10=some (.fam l.length (wlP l))) (g8:look own 11=some (.fam l.length (wlB 12 l))) (g9:look own 12=some (.fam2 l.length (wlN l) (wlF l))):OwnLe q (idσ τ) own (wlO 7 l):=by
 have q8:=hq 8 (by decide);have q9:=hq 9 (by decide);have q10:=hq 10 (by decide);have q11:=hq 11 (by decide);have q12:=hq 12 (by decide)
 have t7:=hτ 7 (by decide);have t8:=hτ 8 (by decide);have t9:=hτ 9 (by decide);have t10:=hτ 10 (by decide);have t11:=hτ 11 (by decide);have t12:=hτ 12 (by decide)
 refine ⟨⟨hq 7 (by decide),?_⟩,⟨q8,fun k hk=>?_⟩,⟨q9,fun k hk=>?_⟩,⟨q10,fun k hk=>?_⟩,⟨q11,fun k hk=>?_⟩,⟨q12,fun k e hk he=>?_⟩,trivial⟩
 ·simp only [idσ,t7,atN,g4,Fm.get,and_self,if_true]
  exact ⟨Nat.le_refl _,rfl,rfl,fun e _=>⟨by simp only [wlC,SC.renL,SC.ren,idσ,Nat.reduceAdd,t8,t9,t10,t11],by simp [wlC,SC.okL,SC.okN,q8,q9,q10,q11]⟩⟩
 ·simp only [idσ,Nat.reduceAdd,t8,atN,g5,Fm.get,hk,and_self,if_true];exact arLe_same
 ·simp only [idσ,Nat.reduceAdd,t9,atN,g6,Fm.get,hk,and_self,if_true];exact arLe_same
 ·simp only [idσ,Nat.reduceAdd,t10,atN,g7,Fm.get,hk,and_self,if_true];exact arLe_same
 ·simp only [idσ,Nat.reduceAdd,t11,atN,g8,Fm.get,hk,and_self,if_true]
  exact ⟨Nat.le_refl _,rfl,rfl,fun e _=>⟨by simp only [SC.renL,SC.ren,idσ,t12],by simp [SC.okL,SC.okN,q12]⟩⟩
 ·simp only [idσ,Nat.reduceAdd,t12,atN,g9,Fm.get,hk,he,and_self,if_true];exact arLe_same
theorem re_same {q:Nat→Prop} {own:Own} {l:List Sp} (hq:∀ i,i<13→q i) (h5:look own 5=some (.one (.bk [.xv (0,0,0),.xv (1,0,0)] 25))) (h6:look own 6=some (.one (.bk [.xv (3,0,0),.xv (4,0,0)] 67))) (g4:look own 7=some (.one (.ar l.length 8 (wlC 7 l) 98))) (g5:look own 8=some (.fam l.length (wlW l))) (g6:look own 9=some (.fam l.length (wlR l))) (g7:look own 10=some (.fam l.length (wlP l))) (g8:look own 11=some (.fam l.length (wlB 12 l))) (g9:look own 12=some (.fam2 l.length (wlN l) (wlF l))):OwnLe q (idσ id) own (reS l):=by
 have q0:=hq 0 (by decide);have q1:=hq 1 (by decide);have q3:=hq 3 (by decide);have q4:=hq 4 (by decide)
 refine ⟨⟨hq 5 (by decide),?_⟩,⟨hq 6 (by decide),?_⟩,wl7_same hq (fun _ _=>rfl) g4 g5 g6 g7 g8 g9⟩
 ·simp only [idσ,id,atN,h5,Fm.get,and_self,if_true]
  exact ⟨by simp only [SC.renL,SC.ren,idσ,id],rfl,by simp [SC.okL,SC.okN,q0,q1]⟩
 ·simp only [idσ,id,atN,h6,Fm.get,and_self,if_true]
  exact ⟨by simp only [SC.renL,SC.ren,idσ,id],rfl,by simp [SC.okL,SC.okN,q3,q4]⟩
theorem re_arr {q:Nat→Prop} {arrs:List (Nat×Fm ArrF)} {L:Lt} {f:Fn} (hq:∀ i,i<13→q i) (h0:look arrs 0=some (.one (arrOf eI 1 L.words 0))) (h1:look arrs 1=some (.one (nestF 2 L.thr.length))) (h2:look arrs 2=some (.fam L.thr.length fun k=>arrOf Ins.enc 7 (L.thr.getD k []) in0)) (h3:look arrs 3=some (.one (arrOf eI 1 f.words 0))) (h4:look arrs 4=some (.one (arrOf R4.enc 4 f.regs r40))):ArrsLe q (idσ id) arrs (ltA 0 L++fnA 3 f):=by
 have q0:=hq 0 (by decide);have q1:=hq 1 (by decide);have q2:=hq 2 (by decide);have q3:=hq 3 (by decide);have q4:=hq 4 (by decide)
 simp +contextual [ltA,fnA,ArrsLe,ArrLeO,atN,look,Fm.get,idσ,id,arrLe_of,arrLe_0,arrLe_nest,q0,q1,q2,q3,q4,h0,h1,h2,h3,h4]
def wyO (d:List Tn):Own:=[(13,.one (.ar d.length 3 (ats Tn.enc d tn0) 44))]
theorem wy_le {q:Nat→Prop} {σ:Nm→Nm} {own:Own} {d:List Tn} {m a:Nat} {at_:Nat→List SC} (q13:q 13) (s13:σ (13,0,0)=(a,0,0)) (ha:look own a=some (.one (.ar m 3 at_ 44))) (hm:d.length≤m) (he:∀ e,e<d.length→at_ e=ats Tn.enc d tn0 e):OwnLe q σ own (wyO d):=by
 refine ⟨⟨q13,?_⟩,trivial⟩
 rw [s13];simp only [atN,ha,Fm.get,and_self,if_true]
 exact arLe_of hm he
def ir71:IR:=(.seq (.ops [⟨(some 3),(.box 25 (.t 0)),none⟩,⟨(some 5),(.box 67 (.t 2)),none⟩,⟨(some 6),(.mv (.k (.c (.v (.slice none 0 0))))),none⟩,⟨(some 7),(.mv (.k (.c (.v (.int .i64 0))))),none⟩]) (.kill [0,2,4,6,7,8,9,10,11] (.seq (.ops [⟨(some 14),(.ld true 2 (.t 3)),none⟩,⟨(some 15),(.mv (.t 1)),none⟩,⟨(some 16),(.call 49 [(.t 14),(.t 15)]),none⟩,⟨(some 13),(.mv (.t 16)),none⟩,⟨(some 17),(.ext 0 (.t 13)),none⟩,⟨(some 18),(.ext 1 (.t 13)),none⟩,⟨(some 8),(.mv (.t 17)),none⟩,⟨(some 9),(.mv (.t 18)),none⟩]) (.kill [1,13,14,15,16,17,18] (.seq (.seq (.ops [⟨(some 19),(.mv (.t 9)),none⟩,⟨(some 20),(.bin .neq (.t 19) (.k (.c (.v (.int .i64 0))))),none⟩]) (.kill [19] (.cond (.t 20) (.seq (.ops [⟨(some 21),(.mv (.t 9)),none⟩,⟨(some 6),(.mv (.k (.c (.v (.slice none 0 0))))),none⟩,⟨(some 7),(.mv (.t 21)),none⟩]) (.kill [3,5,8,9,20,21] .ret)) .skip))) (.kill [6,7,9,20] (.seq (.seq (.ops [⟨(some 22),(.mv (.t 8)),none⟩,⟨(some 23),(.len (.t 22)),none⟩,⟨(some 24),(.mv (.k (.c (.v (.int .i64 0))))),none⟩]) (.blk 0 (.loop (.seq (.ops [⟨(some 25),(.bin .lss (.t 24) (.t 23)),none⟩]) (.kill [6,7,10,11,12,26,27,28,29,30,31,32,33,34,35,36,37,38,39,40,41,42,43,44,45,46,47,48,49,50,51,52,53,54,55,56,57,58,59,60,61,62,63,64,65,66,67,68,69,70] (.seq (.cond (.t 25) .skip (.exit 0)) (.kill [25] (.seq (.blk 1 (.seq (.ops [⟨(some 26),(.mv (.t 24)),none⟩,⟨(some 27),(.ia 8 (.t 22) (.t 24)),none⟩,⟨(some 28),(.ld true 8 (.t 27)),none⟩,⟨(some 11),(.new 98 [(.v (.slice none 0 0)),(.v (.slice none 0 0)),(.v (.slice none 0 0)),(.v (.slice none 0 0)),(.v (.int .i64 0)),(.v (.int .i64 0)),(.v (.bool false)),(.v (.int .i64 0))]),none⟩,⟨(some 10),(.mv (.t 26)),none⟩,⟨none,(.st 8 (.t 11) (.t 28)),none⟩]) (.kill [26,27,28] (.seq (.seq (.ops [⟨(some 29),(.ld true 2 (.t 3)),none⟩,⟨(some 30),(.fa 0 (.t 11)),none⟩,⟨(some 31),(.ld true 4 (.t 30)),none⟩,⟨(some 32),(.call 50 [(.t 29),(.t 31)]),none⟩,⟨(some 33),(.un .not (.t 32)),none⟩,⟨(some 34),(.mv (.t 33)),none⟩,⟨(some 35),(.fa 0 (.t 11)),(some (34,false))⟩,⟨(some 36),(.fa 0 (.t 35)),(some (34,false))⟩,⟨(some 37),(.ld false 1 (.t 36)),(some (34,false))⟩,⟨(some 38),(.fa 0 (.t 5)),(some (34,false))⟩,⟨(some 39),(.ld false 1 (.t 38)),(some (34,false))⟩,⟨(some 40),(.call 91 [(.t 37),(.t 39)]),(some (34,false))⟩,⟨(some 41),(.un .not (.t 40)),(some (34,false))⟩,⟨(some 42),(.pick (.t 34) (.k (.c (.v (.bool true)))) (.t 41)),none⟩,⟨(some 43),(.mv (.t 42)),none⟩,⟨(some 44),(.fa 0 (.t 11)),(some (43,false))⟩,⟨(some 45),(.fa 1 (.t 44)),(some (43,false))⟩,⟨(some 46),(.ld false 1 (.t 45)),(some (43,false))⟩,⟨(some 47),(.fa 1 (.t 5)),(some (43,false))⟩,⟨(some 48),(.ld false 1 (.t 47)),(some (43,false))⟩,⟨(some 49),(.call 92 [(.t 46),(.t 48)]),(some (43,false))⟩,⟨(some 50),(.un .not (.t 49)),(some (43,false))⟩,⟨(some 51),(.pick (.t 43) (.k (.c (.v (.bool true)))) (.t 50)),none⟩]) (.kill [11,29,30,31,32,33,34,35,36,37,38,39,40,41,42,43,44,45,46,47,48,49,50] (.cond (.t 51) (.exit 1) .skip))) (.kill [3,5,22,23,24,51] (.seq (.ops [⟨(some 12),(.mv (.k (.c (.v (.slice none 0 0))))),none⟩]) (.seq (.blk 2 (.loop (.seq (.seq (.ops [⟨(some 52),(.mv (.t 10)),none⟩,⟨(some 53),(.bin .gtr (.t 52) (.k (.c (.v (.int .i64 0))))),none⟩]) (.kill [52,54,55,56,57,58,59,60,61,62,63,64,65,66] (.cond (.t 53) .skip (.exit 2)))) (.kill [53] (.blk 3 (.seq (.ops [⟨(some 54),(.mv (.t 12)),none⟩,⟨(some 55),(.mv (.t 8)),none⟩,⟨(some 56),(.mv (.t 10)),none⟩,⟨(some 57),(.ia 8 (.t 55) (.t 56)),none⟩,⟨(some 58),(.fa 5 (.t 57)),none⟩,⟨(some 59),(.ld true 3 (.t 58)),none⟩,⟨(some 60),(.mkSl 44 1 3 [(.v (.int .i64 0)),(.v (.bool false)),(.v (.int .i64 0))] [(0,(3,(.t 59)))]),none⟩,⟨(some 61),(.app 44 3 24 [(.v (.int .i64 0)),(.v (.bool false)),(.v (.int .i64 0))] (.t 54) (.t 60)),none⟩,⟨(some 12),(.mv (.t 61)),none⟩]) (.kill [54,55,56,57,58,59,60,61] (.ops [⟨(some 62),(.mv (.t 8)),none⟩,⟨(some 63),(.mv (.t 10)),none⟩,⟨(some 64),(.ia 8 (.t 62) (.t 63)),none⟩,⟨(some 65),(.fa 4 (.t 64)),none⟩,⟨(some 66),(.ld false 1 (.t 65)),none⟩,⟨(some 10),(.mv (.t 66)),none⟩])))))))) (.kill [8,10,52,53,54,55,56,57,58,59,60,61,62,63,64,65,66] (.seq (.ops [⟨(some 67),(.mv (.t 12)),none⟩,⟨(some 68),(.call 93 [(.t 67)]),none⟩]) (.kill [67,68] (.seq (.ops [⟨(some 69),(.mv (.t 12)),none⟩,⟨(some 6),(.mv (.t 69)),none⟩,⟨(some 7),(.mv (.k (.c (.v (.int .i64 0))))),none⟩]) (.kill [12,69] .ret)))))))))))) (.kill [6,7,10,11,12,26,27,28,29,30,31,32,33,34,35,36,37,38,39,40,41,42,43,44,45,46,47,48,49,50,51,52,53,54,55,56,57,58,59,60,61,62,63,64,65,66,67,68,69] (.ops [⟨(some 70),(.bin .add (.t 24) (.k (.c (.v (.int .i64 1))))),none⟩,⟨(some 24),(.mv (.t 70)),none⟩])))))))))) (.kill [3,5,6,7,8,10,11,12,22,23,24,25,26,27,28,29,30,31,32,33,34,35,36,37,38,39,40,41,42,43,44,45,46,47,48,49,50,51,52,53,54,55,56,57,58,59,60,61,62,63,64,65,66,67,68,69,70] (.seq (.ops [⟨(some 6),(.mv (.k (.c (.v (.slice none 0 0))))),none⟩,⟨(some 7),(.mv (.k (.c (.v (.int .i64 193))))),none⟩]) .ret)))))))))
def rs71:List RS:=[(.t 6),(.t 7)]
def nt71:Nat:=71
set_option maxRecDepth 100000 in
set_option maxHeartbeats 1000000 in
theorem reach_calls (w:World) (v v' : Value) (L:Lt) (o:Int) (f:Fn) (hL:checkB L=true) (ho:1≤o∧o≤3) (hok:LtOk L) (h:LtR w v L) (h' : FnR w v' f) {l:List Sp} (hb:bfs L o=some l) {i0:Nat} (hi0:i0<l.length) (hf0:finB L (l.getD i0 sp0).s=true) (he0:endF (l.getD i0 sp0).s=f) (hmin:∀ j,j<i0→finB L (l.getD j sp0).s=true→endF (l.getD j sp0).s≠f) :
  Calls Try.prog 71 #[v,.int .i64 o,v'] w (RetN w 1 (leT 3 (wayI l i0).length 0) (lsO 44 3 Tn.enc (wayI l i0).reverse tn0)):=by
 refine enterLtF (A:=[]) (c:=ir71) (rs:=rs71) (nt:=nt71) h h' [.agg (ltS 0),.c (.v (.int .i64 o)),.agg (fnX 3)] _ Try.func71 rfl (by kernel_rfl) (by kernel_rfl) rfl (fun E' h0 h1=>by simp only [List.map_cons,List.map_nil,h0,h1];rfl) (of_decide_eq_true rfl) ?_
 have hnd:=bfs_ok hL hb
 have hw:=hnd.toWkOk
 have hln:=hw.len
 have hch:=bfs_chain hb
 simp (maxSteps:=2000000) only [ir71,nt71,rs71,go_sem,↓reduceIte,Nat.reduceLT,Nat.reduceLeDiff,Nat.reduceAdd,Nat.reduceSub,Nat.reduceMul,Nat.reduceEqDiff,reduceCtorEq,Int.reduceToNat,Int.reduceEq,Int.reduceBEq,Int.reduceBNe,Int.reduceLT,Int.reduceLE,Int.reduceNeg,Int.reduceAdd,Int.reduceSub,Int.reduceMul,Int.reduceGE,Int.reduceGT,endO,ltA,ltS,fnA,fnX,List.cons_append,List.nil_append]
 refine callN 6 (wlT l) (fun b=>wlO b l) (fun E a w' hs=>by
  have:=walk_calls w' _ L o hL ho hok (ltL_at hs rfl rfl rfl)
  unfold WalkR at this
  rw [hb] at this
  exact this) ?_
 simp (maxSteps:=2000000) only [go_sem,↓reduceIte,Nat.reduceLT,Nat.reduceLeDiff,Nat.reduceAdd,Nat.reduceSub,Nat.reduceMul,Nat.reduceEqDiff,reduceCtorEq,Int.reduceToNat,Int.reduceEq,Int.reduceBEq,Int.reduceBNe,Int.reduceLT,Int.reduceLE,Int.reduceNeg,Int.reduceAdd,Int.reduceSub,Int.reduceMul,Int.reduceGE,Int.reduceGT,endO,wlT,wlO]
 generalize hR:RetN w 1 (leT 3 (wayI l i0).length 0) (lsO 44 3 Tn.enc (wayI l i0).reverse tn0)=R
 refine loopI (ι:={ i:Nat // i≤i0 }) (fun i=>⟨71,[(3,.c (.ptr (5,0,0) 0)),(5,.c (.ptr (6,0,0) 0)),(8,.c (.sl (7,0,0) 8 0 l.length none)),(22,.c (.sl (7,0,0) 8 0 l.length none)),(23,.c (.v (.int .i64 l.length))),(24,.c (.v (.int .i64 (i.1:Nat))))],reS l,ltA 0 L++fnA 3 f,[],13⟩) (fun i=>l.length - i.1) ⟨0,by omega⟩ ?_ ?_
 ·exact le_ren id rfl rfl (by simp [TmpsLe,look,SV.ren,SC.ren,idσ,SV.okN,SC.okN]) (re_same (fun _ h=>h) rfl rfl rfl rfl rfl rfl rfl rfl) (re_arr (fun _ h=>h) rfl rfl rfl rfl rfl) rfl
 rintro ⟨i,hi⟩
 have hlt:i<l.length:=by omega
 have hwi:=hw.at hlt
 simp (maxSteps:=2000000) only [go_sem,↓reduceIte,Nat.reduceLT,Nat.reduceLeDiff,Nat.reduceAdd,Nat.reduceSub,Nat.reduceMul,Nat.reduceEqDiff,reduceCtorEq,Int.reduceToNat,Int.reduceEq,Int.reduceBEq,Int.reduceBNe,Int.reduceLT,Int.reduceLE,Int.reduceNeg,Int.reduceAdd,Int.reduceSub,Int.reduceMul,Int.reduceGE,Int.reduceGT,endO,reS,wlO,wlC,ltA,fnA,List.cons_append,List.nil_append]
 refine both (fun _=>And.intro ⟨hlt,Nat.le_refl _⟩ (And.intro hlt ?_)) (fun hno=>absurd (of_decide_eq_false hno) (by omega))
 refine callV (.c (.v (.bool (finB L (l.getD i sp0).s)))) _ (fun E=>rfl) (fun E a w' hs=>final_calls w' _ _ L o _ hL hwi (ltL_at hs rfl rfl rfl) (st_ownL hs 7 i hlt rfl rfl rfl rfl rfl)) ?_
 by_cases hfi:finB L (l.getD i sp0).s=true
 ·rw [hfi]
  simp (maxSteps:=2000000) only [go_sem,↓reduceIte,Nat.reduceLT,Nat.reduceLeDiff,Nat.reduceAdd,Nat.reduceSub,Nat.reduceMul,Nat.reduceEqDiff,reduceCtorEq,Int.reduceToNat,Int.reduceEq,Int.reduceBEq,Int.reduceBNe,Int.reduceLT,Int.reduceLE,Int.reduceNeg,Int.reduceAdd,Int.reduceSub,Int.reduceMul,Int.reduceGE,Int.reduceGT,endO]
  have hWd:∀ {E:Env} {a:Act} {w' : World} {S:St},Sat (mkC Try.prog [] w [RS.t 6,RS.t 7] R).B (mkC Try.prog [] w [RS.t 6,RS.t 7] R).W (mkC Try.prog [] w [RS.t 6,RS.t 7] R).w0 E S a w'→look S.own 8=some (.fam l.length (wlW l))→Arr w' eI 1 ((SC.sl (8,i,0) 1 0 (l.getD i sp0).s.words.length none).den E) (l.getD i sp0).s.words:=fun hs g=>arr_ownX (d:=0) hs (8,i,0) _ _ _ (by simp only [atN,g,Fm.get,hlt,and_self,if_true];rfl) rfl (Nat.le_refl _) (fun _ _=>rfl)
  have hRd:∀ {E:Env} {a:Act} {w' : World} {S:St},Sat (mkC Try.prog [] w [RS.t 6,RS.t 7] R).B (mkC Try.prog [] w [RS.t 6,RS.t 7] R).W (mkC Try.prog [] w [RS.t 6,RS.t 7] R).w0 E S a w'→look S.own 9=some (.fam l.length (wlR l))→Arr w' R4.enc 4 ((SC.sl (9,i,0) 4 0 (l.getD i sp0).s.regs.length none).den E) (l.getD i sp0).s.regs:=fun hs g=>arr_ownX (d:=r40) hs (9,i,0) _ _ _ (by simp only [atN,g,Fm.get,hlt,and_self,if_true];rfl) rfl (Nat.le_refl _) (fun _ _=>rfl)
  refine callV (.c (.v (.bool (decide ((l.getD i sp0).s.words=f.words))))) _ (fun E=>rfl) (fun E a w' hs=>eqI_calls w' _ _ _ f.words (hWd hs rfl) (arr_at (d:=0) hs 3 rfl)) ?_
  by_cases hwd:(l.getD i sp0).s.words=f.words
  ·rw [decide_eq_true hwd]
   simp (maxSteps:=2000000) only [go_sem,↓reduceIte,Nat.reduceLT,Nat.reduceLeDiff,Nat.reduceAdd,Nat.reduceSub,Nat.reduceMul,Nat.reduceEqDiff,reduceCtorEq,Int.reduceToNat,Int.reduceEq,Int.reduceBEq,Int.reduceBNe,Int.reduceLT,Int.reduceLE,Int.reduceNeg,Int.reduceAdd,Int.reduceSub,Int.reduceMul,Int.reduceGE,Int.reduceGT,endO]
   refine callV (.c (.v (.bool (decide ((l.getD i sp0).s.regs=f.regs))))) _ (fun E=>rfl) (fun E a w' hs=>eqR_calls w' _ _ _ f.regs (hRd hs rfl) (arr_at (d:=r40) hs 4 rfl)) ?_
   by_cases hrd:(l.getD i sp0).s.regs=f.regs
   ·rw [decide_eq_true hrd]
    have hii:i=i0:=by
     rcases Nat.lt_or_ge i i0 with h | h
     ·exact absurd (show endF (l.getD i sp0).s=f by unfold endF;rw [hwd,hrd]) (hmin i h hfi)
     ·omega
    subst hii
    simp (maxSteps:=2000000) only [go_sem,↓reduceIte,Nat.reduceLT,Nat.reduceLeDiff,Nat.reduceAdd,Nat.reduceSub,Nat.reduceMul,Nat.reduceEqDiff,reduceCtorEq,Int.reduceToNat,Int.reduceEq,Int.reduceBEq,Int.reduceBNe,Int.reduceLT,Int.reduceLE,Int.reduceNeg,Int.reduceAdd,Int.reduceSub,Int.reduceMul,Int.reduceGE,Int.reduceGT,endO]
    refine loopI (ι:={ p:Nat×List Tn // p.1<l.length∧wayI l i=p.2++wayI l p.1 }) (fun p=>⟨71,[(8,.c (.sl (7,0,0) 8 0 l.length none)),(10,.c (.v (.int .i64 (p.1.1:Nat)))),(12,.c (.sl (13,0,0) 3 0 p.1.2.length none))],wlO 7 l++wyO p.1.2,[],[],14⟩) (fun p=>p.1.1) ⟨(i,[]),hlt,rfl⟩ ?_ ?_
    ·refine le_tr (le_nilown (tmps':=[(8,.c (.sl (7,0,0) 8 0 l.length none)),(10,.c (.v (.int .i64 (i:Nat)))),(12,.c (.sl (14,0,0) 3 0 0 none))]) 3 44 (ats Tn.enc [] tn0) (by simp [TmpsNil,look]) rfl) ?_
     exact le_ren (fun i=>if i=13 then 14 else i) rfl rfl (by simp [TmpsLe,look,SV.ren,SC.ren,idσ,SV.okN,SC.okN]) (ownLe_app (wl7_same (fun i h=>Nat.lt_succ_of_lt h) (fun i h=>by rw [if_neg (by omega)]) rfl rfl rfl rfl rfl rfl) (wy_le (q:=(· < 14)) (a:=14) (show 13<14 by decide) rfl rfl (Nat.le_refl _) (fun e he=>by simp at he))) trivial rfl
    rintro ⟨⟨c,d⟩,hc,hwy⟩
    simp only at hc hwy
    simp (maxSteps:=2000000) only [go_sem,↓reduceIte,Nat.reduceLT,Nat.reduceLeDiff,Nat.reduceAdd,Nat.reduceSub,Nat.reduceMul,Nat.reduceEqDiff,reduceCtorEq,Int.reduceToNat,Int.reduceEq,Int.reduceBEq,Int.reduceBNe,Int.reduceLT,Int.reduceLE,Int.reduceNeg,Int.reduceAdd,Int.reduceSub,Int.reduceMul,Int.reduceGE,Int.reduceGT,endO,wlO,wlC,wyO,List.cons_append,List.nil_append]
    refine both (fun hpos=>?_) (fun hz=>?_)
    ·have hpos:0<c:=by
      have:=of_decide_eq_true hpos
      omega
     obtain ⟨f',hf1,hf2,hf3⟩:=wayI_step hch hpos hc
     have h80:=way_80 hL hb hlt
     rw [hwy,List.length_append] at h80
     refine And.intro ⟨hc,Nat.le_refl _⟩ (And.intro hc (And.intro (by decide) (And.intro ⟨Nat.le_refl _,by omega,by simp only [maxLen];omega⟩ (And.intro ⟨hc,Nat.le_refl _⟩ (And.intro hc ?_)))))
     have hlen:(d++[(l.getD c sp0).tn]).length=d.length+1:=by rw [List.length_append];rfl
     rw [hf2]
     exact backI ⟨(f',d++[(l.getD c sp0).tn]),by simp only;omega,by simp only;rw [hwy,hf3];simp⟩ hf1 (le_ren (fun i=>if i=13 then 15 else i) rfl rfl (by simp [TmpsLe,look,SV.ren,SC.ren,idσ,SV.okN,SC.okN,hlen]) (ownLe_app (wl7_same (fun i h=>Nat.lt_succ_of_lt h) (fun i h=>by rw [if_neg (by omega)]) rfl rfl rfl rfl rfl rfl) (wy_le (q:=(· < 14)) (a:=15) (show 13<14 by decide) rfl rfl (by rw [hlen];exact Nat.le_refl _) (fun e he=>ats_push (enc:=Tn.enc) (d:=tn0) (xs:=d) rfl rfl (fun _ _=>rfl) rfl e he))) trivial rfl)
    ·obtain rfl:c=0:=by
      have:=of_decide_eq_false hz
      omega
     rw [wayI_zero,List.append_nil] at hwy
     subst hwy
     have h80:=way_80 hL hb hlt
     have h80':=h80
     generalize wayI l i=d at h80 hR
     refine call_intro (cr_ownT (vs0:=[.c (.sl (0,0,0) 3 0 d.length none)]) (u:=.tup []) (nx:=0) (eff:=fun _=>rvO d.reverse) (eff':=wyO d.reverse) (u':=.tup []) [13] (rvO d) [] rfl rfl (show 1≤14 by decide) (plain_of (by simp [PlainL,rvO,PlainB])) ⟨rfl,by simp [okVs,SV.okN,SC.okN]⟩ ?_ trivial (by simp [keysL,rvO,toN,nth,look,wyO]) ⟨rfl,by simp [SV.okN,ok1L]⟩ ?_ (fun E w h=>rev_own w E d (by omega) h)) (fun i hi=>ltAll_mem (l:=[13]) (n:=14) rfl i hi) ?_
     ·refine ⟨⟨show 0<1 by decide,?_⟩,trivial⟩
      simp only [idσ,toN,nth,atN,look,Nat.reduceEqDiff,reduceIte,Fm.get,and_self]
      exact arLe_same
     ·refine ⟨⟨Or.inl (by simp),?_⟩,trivial⟩
      simp only [idσ,backN,rvO,atN,look,Nat.reduceEqDiff,reduceIte,Fm.get,and_self]
      exact arLe_same
     simp (maxSteps:=2000000) only [go_sem,↓reduceIte,Nat.reduceLT,Nat.reduceLeDiff,Nat.reduceAdd,Nat.reduceSub,Nat.reduceMul,Nat.reduceEqDiff,reduceCtorEq,Int.reduceToNat,Int.reduceEq,Int.reduceBEq,Int.reduceBNe,Int.reduceLT,Int.reduceLE,Int.reduceNeg,Int.reduceAdd,Int.reduceSub,Int.reduceMul,Int.reduceGE,Int.reduceGT,endO,wyO,rvO]
     rw [← hR,show leT 3 d.length 0=leT 3 d.reverse.length 0 by rw [List.length_reverse]]
     exact retLE 13 d.reverse.length _ rfl (List.length_reverse).symm (Nat.le_refl _) (fun _ _=>rfl)
   ·rw [decide_eq_false hrd]
    simp (maxSteps:=2000000) only [go_sem,↓reduceIte,Nat.reduceLT,Nat.reduceLeDiff,Nat.reduceAdd,Nat.reduceSub,Nat.reduceMul,Nat.reduceEqDiff,reduceCtorEq,Int.reduceToNat,Int.reduceEq,Int.reduceBEq,Int.reduceBNe,Int.reduceLT,Int.reduceLE,Int.reduceNeg,Int.reduceAdd,Int.reduceSub,Int.reduceMul,Int.reduceGE,Int.reduceGT,endO]
    have hne:i≠i0:=fun q=>by subst q;exact hrd (by rw [← he0];rfl)
    rw [wr_succ (by omega)]
    exact backI ⟨i+1,by omega⟩ (by simp only;omega) (le_ren id rfl rfl (by simp [TmpsLe,look,SV.ren,SC.ren,idσ,SV.okN,SC.okN]) (re_same (fun _ h=>h) rfl rfl rfl rfl rfl rfl rfl rfl) (re_arr (fun _ h=>h) rfl rfl rfl rfl rfl) rfl)
  ·rw [decide_eq_false hwd]
   simp (maxSteps:=2000000) only [go_sem,↓reduceIte,Nat.reduceLT,Nat.reduceLeDiff,Nat.reduceAdd,Nat.reduceSub,Nat.reduceMul,Nat.reduceEqDiff,reduceCtorEq,Int.reduceToNat,Int.reduceEq,Int.reduceBEq,Int.reduceBNe,Int.reduceLT,Int.reduceLE,Int.reduceNeg,Int.reduceAdd,Int.reduceSub,Int.reduceMul,Int.reduceGE,Int.reduceGT,endO]
   have hne:i≠i0:=fun q=>by subst q;exact hwd (by rw [← he0];rfl)
   rw [wr_succ (by omega)]
   exact backI ⟨i+1,by omega⟩ (by simp only;omega) (le_ren id rfl rfl (by simp [TmpsLe,look,SV.ren,SC.ren,idσ,SV.okN,SC.okN]) (re_same (fun _ h=>h) rfl rfl rfl rfl rfl rfl rfl rfl) (re_arr (fun _ h=>h) rfl rfl rfl rfl rfl) rfl)
 ·have hfi:finB L (l.getD i sp0).s=false:=by simpa using hfi
  rw [hfi]
  simp (maxSteps:=2000000) only [go_sem,↓reduceIte,Nat.reduceLT,Nat.reduceLeDiff,Nat.reduceAdd,Nat.reduceSub,Nat.reduceMul,Nat.reduceEqDiff,reduceCtorEq,Int.reduceToNat,Int.reduceEq,Int.reduceBEq,Int.reduceBNe,Int.reduceLT,Int.reduceLE,Int.reduceNeg,Int.reduceAdd,Int.reduceSub,Int.reduceMul,Int.reduceGE,Int.reduceGT,endO]
  have hne:i≠i0:=fun q=>by subst q;rw [hf0] at hfi;cases hfi
  rw [wr_succ (by omega)]
  exact backI ⟨i+1,by omega⟩ (by simp only;omega) (le_ren id rfl rfl (by simp [TmpsLe,look,SV.ren,SC.ren,idσ,SV.okN,SC.okN]) (re_same (fun _ h=>h) rfl rfl rfl rfl rfl rfl rfl rfl) (re_arr (fun _ h=>h) rfl rfl rfl rfl rfl) rfl)
end Go.Proofs.Ytmcpdafmkkjlcaa.Z
