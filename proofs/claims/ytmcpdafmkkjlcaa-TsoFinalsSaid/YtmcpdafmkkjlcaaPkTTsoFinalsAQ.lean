/- TsoFinalsSaid: what its proof is made of. No condition. -/
import Derived.Test.YtmcpdafmkkjlcaaPkTTsoFinalsAP
set_option linter.unusedSimpArgs false
set_option linter.unusedVariables false
namespace Go.Proofs.Ytmcpdafmkkjlcaa.Z
open Go Go.RowKit
structure Fn where
 words:List Int
 regs:List R4
def FnR (w:World) (v:Value) (f:Fn):Prop:=∃ vw vr,v = .agg #[vw,vr]∧Arr w eI 1 vw f.words∧Arr w R4.enc 4 vr f.regs
def finB (L:Lt) (s:LS):Bool:=(List.range L.thr.length).all fun t=>decide (s.places.getD t 0=(L.thr.getD t []).length∧(s.bufs.getD t []).length=0)
theorem finB_iff {L:Lt} {s:LS}:finB L s=true↔∀ t,t<L.thr.length→s.places.getD t 0=(L.thr.getD t []).length∧(s.bufs.getD t []).length=0:=by
 simp [finB]
theorem finB_no {L:Lt} {s:LS} {t:Nat} (ht:t<L.thr.length) (h:¬ (s.places.getD t 0=(L.thr.getD t []).length∧(s.bufs.getD t []).length=0)):finB L s=false:=by
 cases e:finB L s
 ·rfl
 ·exact absurd (finB_iff.1 e t ht) h
def ir50:IR:=(.seq (.ops [⟨(some 2),(.box 25 (.t 0)),none⟩,⟨(some 3),(.box 32 (.t 1)),none⟩,⟨(some 4),(.mv (.k (.c (.v (.bool false))))),none⟩]) (.kill [0,1,4,5,6,7,8,9,10,11] (.seq (.seq (.ops [⟨(some 7),(.fa 1 (.t 2)),none⟩,⟨(some 8),(.ld false 1 (.t 7)),none⟩,⟨(some 9),(.len (.t 8)),none⟩,⟨(some 10),(.mv (.k (.c (.v (.int .i64 0))))),none⟩]) (.kill [2,7] (.blk 0 (.loop (.seq (.ops [⟨(some 11),(.bin .lss (.t 10) (.t 9)),none⟩]) (.kill [4,5,6,12,13,14,15,16,17,18,19,20,21,22,23,24,25,26,27,28,29,30,31,32] (.seq (.cond (.t 11) .skip (.exit 0)) (.kill [11] (.seq (.blk 1 (.seq (.ops [⟨(some 12),(.mv (.t 10)),none⟩,⟨(some 13),(.ia 1 (.t 8) (.t 10)),none⟩,⟨(some 14),(.ld false 1 (.t 13)),none⟩,⟨(some 5),(.mv (.t 12)),none⟩,⟨(some 6),(.mv (.t 14)),none⟩]) (.kill [12,13,14] (.seq (.ops [⟨(some 15),(.fa 2 (.t 3)),none⟩,⟨(some 16),(.ld false 1 (.t 15)),none⟩,⟨(some 17),(.mv (.t 5)),none⟩,⟨(some 18),(.ia 1 (.t 16) (.t 17)),none⟩,⟨(some 19),(.ld false 1 (.t 18)),none⟩,⟨(some 20),(.mv (.t 6)),none⟩,⟨(some 21),(.len (.t 20)),none⟩,⟨(some 22),(.bin .lss (.t 19) (.t 21)),none⟩,⟨(some 23),(.mv (.t 22)),none⟩,⟨(some 24),(.fa 3 (.t 3)),(some (23,false))⟩,⟨(some 25),(.ld false 1 (.t 24)),(some (23,false))⟩,⟨(some 26),(.mv (.t 5)),(some (23,false))⟩,⟨(some 27),(.ia 1 (.t 25) (.t 26)),(some (23,false))⟩,⟨(some 28),(.ld false 1 (.t 27)),(some (23,false))⟩,⟨(some 29),(.len (.t 28)),(some (23,false))⟩,⟨(some 30),(.bin .gtr (.t 29) (.k (.c (.v (.int .i64 0))))),(some (23,false))⟩,⟨(some 31),(.pick (.t 23) (.k (.c (.v (.bool true)))) (.t 30)),none⟩]) (.kill [5,6,15,16,17,18,19,20,21,22,23,24,25,26,27,28,29,30] (.cond (.t 31) (.seq (.ops [⟨(some 4),(.mv (.k (.c (.v (.bool false))))),none⟩]) (.kill [3,8,9,10,31] .ret)) .skip)))))) (.kill [4,5,6,12,13,14,15,16,17,18,19,20,21,22,23,24,25,26,27,28,29,30,31] (.ops [⟨(some 32),(.bin .add (.t 10) (.k (.c (.v (.int .i64 1))))),none⟩,⟨(some 10),(.mv (.t 32)),none⟩]))))))))))) (.kill [3,4,5,6,8,9,10,11,12,13,14,15,16,17,18,19,20,21,22,23,24,25,26,27,28,29,30,31,32] (.seq (.ops [⟨(some 4),(.mv (.k (.c (.v (.bool true))))),none⟩]) .ret)))))
def rs50:List RS:=[(.t 4)]
def nt50:Nat:=33
def ir55:IR:=(.seq (.ops [⟨(some 2),(.box 25 (.t 0)),none⟩,⟨(some 3),(.box 32 (.t 1)),none⟩,⟨(some 4),(.mv (.k (.c (.v (.bool false))))),none⟩]) (.kill [0,1,4,5,6,7,8,9,10,11] (.seq (.seq (.ops [⟨(some 5),(.mv (.k (.c (.v (.int .i64 0))))),none⟩]) (.blk 0 (.loop (.seq (.seq (.ops [⟨(some 6),(.mv (.t 5)),none⟩,⟨(some 7),(.fa 1 (.t 2)),none⟩,⟨(some 8),(.ld false 1 (.t 7)),none⟩,⟨(some 9),(.len (.t 8)),none⟩,⟨(some 10),(.bin .lss (.t 6) (.t 9)),none⟩]) (.kill [4,6,7,8,9,11,12,13,14,15,16,17,18,19,20,21,22,23,24,25,26,27,28,29,30,31,32,33] (.cond (.t 10) .skip (.exit 0)))) (.kill [10] (.seq (.blk 1 (.seq (.draw [(⟨(some 13),(.fa 2 (.t 3)),none⟩,([],[15,18,19,20,21,22,23])),(⟨(some 14),(.ld false 1 (.t 13)),none⟩,([],[15,18,19,20,21,22,23])),(⟨(some 15),(.mv (.t 5)),none⟩,([0,1],[13,14,18,19,20,21,22,23])),(⟨(some 16),(.ia 1 (.t 14) (.t 15)),none⟩,([],[18,19,20,21,22,23])),(⟨(some 17),(.ld false 1 (.t 16)),none⟩,([],[18,19,20,21,22,23])),(⟨(some 18),(.fa 1 (.t 2)),none⟩,([0,1,2,3,4],[13,14,15,16,17,20])),(⟨(some 19),(.ld false 1 (.t 18)),none⟩,([0,1,2,3,4],[13,14,15,16,17,20])),(⟨(some 20),(.mv (.t 5)),none⟩,([0,1,2,3,4,5,6],[13,14,15,16,17,18,19])),(⟨(some 21),(.ia 1 (.t 19) (.t 20)),none⟩,([0,1,2,3,4],[13,14,15,16,17])),(⟨(some 22),(.ld false 1 (.t 21)),none⟩,([0,1,2,3,4],[13,14,15,16,17])),(⟨(some 23),(.len (.t 22)),none⟩,([0,1,2,3,4],[13,14,15,16,17])),(⟨(some 24),(.bin .neq (.t 17) (.t 23)),none⟩,([],[])),(⟨(some 25),(.mv (.t 24)),none⟩,([],[])),(⟨(some 26),(.fa 3 (.t 3)),(some (25,false))⟩,([],[28])),(⟨(some 27),(.ld false 1 (.t 26)),(some (25,false))⟩,([],[28])),(⟨(some 28),(.mv (.t 5)),(some (25,false))⟩,([13,14],[26,27])),(⟨(some 29),(.ia 1 (.t 27) (.t 28)),(some (25,false))⟩,([],[])),(⟨(some 30),(.ld false 1 (.t 29)),(some (25,false))⟩,([],[])),(⟨(some 31),(.len (.t 30)),(some (25,false))⟩,([],[])),(⟨(some 32),(.bin .gtr (.t 31) (.k (.c (.v (.int .i64 0))))),(some (25,false))⟩,([],[])),(⟨(some 33),(.pick (.t 25) (.k (.c (.v (.bool true)))) (.t 32)),none⟩,([],[]))]) (.kill [13,14,15,16,17,18,19,20,21,22,23,24,25,26,27,28,29,30,31,32] (.cond (.t 33) (.seq (.ops [⟨(some 4),(.mv (.k (.c (.v (.bool false))))),none⟩]) (.kill [2,3,5,33] .ret)) .skip)))) (.kill [4,13,14,15,16,17,18,19,20,21,22,23,24,25,26,27,28,29,30,31,32,33] (.ops [⟨(some 11),(.mv (.t 5)),none⟩,⟨(some 12),(.bin .add (.t 11) (.k (.c (.v (.int .i64 1))))),none⟩,⟨(some 5),(.mv (.t 12)),none⟩])))))))) (.kill [2,3,4,5,6,7,8,9,10,11,12,13,14,15,16,17,18,19,20,21,22,23,24,25,26,27,28,29,30,31,32,33] (.seq (.ops [⟨(some 4),(.mv (.k (.c (.v (.bool true))))),none⟩]) .ret)))))
def rs55:List RS:=[(.t 4)]
def nt55:Nat:=34
def ir58:IR:=(.seq (.ops [⟨(some 1),(.box 67 (.t 0)),none⟩,⟨(some 2),(.mv (.k (.c (.v (.slice none 0 0))))),none⟩]) (.kill [0,2,3,4,5,6,7,8,9,10,11] (.seq (.ops [⟨(some 3),(.mv (.k (.c (.v (.slice none 0 0))))),none⟩]) (.seq (.ops [⟨(some 5),(.mv (.t 3)),none⟩,⟨(some 6),(.fa 0 (.t 1)),none⟩,⟨(some 7),(.ld false 1 (.t 6)),none⟩,⟨(some 8),(.app 3 1 8 [(.v (.int .i64 0))] (.t 5) (.t 7)),none⟩,⟨(some 3),(.mv (.t 8)),none⟩]) (.kill [5,6,7,8] (.seq (.seq (.ops [⟨(some 4),(.mv (.k (.c (.v (.int .i64 0))))),none⟩]) (.blk 0 (.loop (.seq (.seq (.ops [⟨(some 9),(.mv (.t 4)),none⟩,⟨(some 10),(.fa 1 (.t 1)),none⟩,⟨(some 11),(.ld false 1 (.t 10)),none⟩,⟨(some 12),(.len (.t 11)),none⟩,⟨(some 13),(.bin .lss (.t 9) (.t 12)),none⟩]) (.kill [9,10,11,12,14,15,16,17,18,19,20,21,22,23,24,25,26,27,28,29,30,31,32,33,34,35,36,37,38,39,40,41,42] (.cond (.t 13) .skip (.exit 0)))) (.kill [13] (.seq (.blk 1 (.draw [(⟨(some 16),(.mv (.t 3)),none⟩,([],[17,18,19,20,21,22,23,24,25,26,27,28,29,30,31,32,33,34,35,36,37,38,39,40,41])),(⟨(some 17),(.fa 1 (.t 1)),none⟩,([0],[16,19,23,24,25,26,27,28,29,30,31,32,33,34,35,36,37,38,39,40])),(⟨(some 18),(.ld false 1 (.t 17)),none⟩,([0],[16,19,23,24,25,26,27,28,29,30,31,32,33,34,35,36,37,38,39,40])),(⟨(some 19),(.mv (.t 4)),none⟩,([0,1,2],[16,17,18,23,24,25,26,27,28,29,30,31,32,33,34,35,36,37,38,39,40])),(⟨(some 20),(.ia 4 (.t 18) (.t 19)),none⟩,([0],[16,23,24,25,26,27,28,29,30,31,32,33,34,35,36,37,38,39,40])),(⟨(some 21),(.iar 4 1 (.t 20) (.k (.c (.v (.int .i64 0))))),none⟩,([0],[16,23,24,25,26,27,28,29,30,31,32,33,34,35,36,37,38,39,40])),(⟨(some 22),(.ld false 1 (.t 21)),none⟩,([0],[16,23,24,25,26,27,28,29,30,31,32,33,34,35,36,37,38,39,40])),(⟨(some 23),(.fa 1 (.t 1)),none⟩,([0,1,2,3,4,5,6],[16,17,18,19,20,21,22,25,29,30,31,32,33,34,35,36,37,38,39,40])),(⟨(some 24),(.ld false 1 (.t 23)),none⟩,([0,1,2,3,4,5,6],[16,17,18,19,20,21,22,25,29,30,31,32,33,34,35,36,37,38,39,40])),(⟨(some 25),(.mv (.t 4)),none⟩,([0,1,2,3,4,5,6,7,8],[16,17,18,19,20,21,22,23,24,29,30,31,32,33,34,35,36,37,38,39,40])),(⟨(some 26),(.ia 4 (.t 24) (.t 25)),none⟩,([0,1,2,3,4,5,6],[16,17,18,19,20,21,22,29,30,31,32,33,34,35,36,37,38,39,40])),(⟨(some 27),(.iar 4 1 (.t 26) (.k (.c (.v (.int .i64 1))))),none⟩,([0,1,2,3,4,5,6],[16,17,18,19,20,21,22,29,30,31,32,33,34,35,36,37,38,39,40])),(⟨(some 28),(.ld false 1 (.t 27)),none⟩,([0,1,2,3,4,5,6],[16,17,18,19,20,21,22,29,30,31,32,33,34,35,36,37,38,39,40])),(⟨(some 29),(.fa 1 (.t 1)),none⟩,([0,1,2,3,4,5,6,7,8,9,10,11,12],[16,17,18,19,20,21,22,23,24,25,26,27,28,31,35,36,37,38,39,40])),(⟨(some 30),(.ld false 1 (.t 29)),none⟩,([0,1,2,3,4,5,6,7,8,9,10,11,12],[16,17,18,19,20,21,22,23,24,25,26,27,28,31,35,36,37,38,39,40])),(⟨(some 31),(.mv (.t 4)),none⟩,([0,1,2,3,4,5,6,7,8,9,10,11,12,13,14],[16,17,18,19,20,21,22,23,24,25,26,27,28,29,30,35,36,37,38,39,40])),(⟨(some 32),(.ia 4 (.t 30) (.t 31)),none⟩,([0,1,2,3,4,5,6,7,8,9,10,11,12],[16,17,18,19,20,21,22,23,24,25,26,27,28,35,36,37,38,39,40])),(⟨(some 33),(.iar 4 1 (.t 32) (.k (.c (.v (.int .i64 2))))),none⟩,([0,1,2,3,4,5,6,7,8,9,10,11,12],[16,17,18,19,20,21,22,23,24,25,26,27,28,35,36,37,38,39,40])),(⟨(some 34),(.ld false 1 (.t 33)),none⟩,([0,1,2,3,4,5,6,7,8,9,10,11,12],[16,17,18,19,20,21,22,23,24,25,26,27,28,35,36,37,38,39,40])),(⟨(some 35),(.fa 1 (.t 1)),none⟩,([0,1,2,3,4,5,6,7,8,9,10,11,12,13,14,15,16,17,18],[16,17,18,19,20,21,22,23,24,25,26,27,28,29,30,31,32,33,34,37])),(⟨(some 36),(.ld false 1 (.t 35)),none⟩,([0,1,2,3,4,5,6,7,8,9,10,11,12,13,14,15,16,17,18],[16,17,18,19,20,21,22,23,24,25,26,27,28,29,30,31,32,33,34,37])),(⟨(some 37),(.mv (.t 4)),none⟩,([0,1,2,3,4,5,6,7,8,9,10,11,12,13,14,15,16,17,18,19,20],[16,17,18,19,20,21,22,23,24,25,26,27,28,29,30,31,32,33,34,35,36])),(⟨(some 38),(.ia 4 (.t 36) (.t 37)),none⟩,([0,1,2,3,4,5,6,7,8,9,10,11,12,13,14,15,16,17,18],[16,17,18,19,20,21,22,23,24,25,26,27,28,29,30,31,32,33,34])),(⟨(some 39),(.iar 4 1 (.t 38) (.k (.c (.v (.int .i64 3))))),none⟩,([0,1,2,3,4,5,6,7,8,9,10,11,12,13,14,15,16,17,18],[16,17,18,19,20,21,22,23,24,25,26,27,28,29,30,31,32,33,34])),(⟨(some 40),(.ld false 1 (.t 39)),none⟩,([0,1,2,3,4,5,6,7,8,9,10,11,12,13,14,15,16,17,18],[16,17,18,19,20,21,22,23,24,25,26,27,28,29,30,31,32,33,34])),(⟨(some 41),(.mkSl 3 4 1 [(.v (.int .i64 0)),(.v (.int .i64 0)),(.v (.int .i64 0)),(.v (.int .i64 0))] [(0,(1,(.t 22))),(1,(1,(.t 28))),(2,(1,(.t 34))),(3,(1,(.t 40)))]),none⟩,([0],[16])),(⟨(some 42),(.app 3 1 8 [(.v (.int .i64 0))] (.t 16) (.t 41)),none⟩,([],[])),(⟨(some 3),(.mv (.t 42)),none⟩,([],[]))])) (.kill [16,17,18,19,20,21,22,23,24,25,26,27,28,29,30,31,32,33,34,35,36,37,38,39,40,41,42] (.ops [⟨(some 14),(.mv (.t 4)),none⟩,⟨(some 15),(.bin .add (.t 14) (.k (.c (.v (.int .i64 1))))),none⟩,⟨(some 4),(.mv (.t 15)),none⟩])))))))) (.kill [1,4,9,10,11,12,13,14,15,16,17,18,19,20,21,22,23,24,25,26,27,28,29,30,31,32,33,34,35,36,37,38,39,40,41,42] (.seq (.ops [⟨(some 43),(.mv (.t 3)),none⟩,⟨(some 2),(.mv (.t 43)),none⟩]) (.kill [3,43] .ret)))))))))
def rs58:List RS:=[(.t 2)]
def nt58:Nat:=44
def ir59:IR:=(.seq (.ops [⟨(some 2),(.box 67 (.t 0)),none⟩,⟨(some 3),(.box 67 (.t 1)),none⟩,⟨(some 4),(.mv (.k (.c (.v (.bool false))))),none⟩]) (.kill [0,1,4,5,6,7,8,9,10,11] (.seq (.ops [⟨(some 7),(.ld true 2 (.t 2)),none⟩,⟨(some 8),(.call 58 [(.t 7)]),none⟩,⟨(some 5),(.mv (.t 8)),none⟩]) (.kill [7,8] (.seq (.ops [⟨(some 9),(.ld true 2 (.t 3)),none⟩,⟨(some 10),(.call 58 [(.t 9)]),none⟩,⟨(some 6),(.mv (.t 10)),none⟩]) (.kill [9,10] (.seq (.ops [⟨(some 11),(.fa 0 (.t 2)),none⟩,⟨(some 12),(.ld false 1 (.t 11)),none⟩,⟨(some 13),(.len (.t 12)),none⟩,⟨(some 14),(.fa 0 (.t 3)),none⟩,⟨(some 15),(.ld false 1 (.t 14)),none⟩,⟨(some 16),(.len (.t 15)),none⟩,⟨(some 17),(.bin .eql (.t 13) (.t 16)),none⟩,⟨(some 18),(.mv (.t 17)),none⟩,⟨(some 19),(.fa 1 (.t 2)),(some (18,true))⟩,⟨(some 20),(.ld false 1 (.t 19)),(some (18,true))⟩,⟨(some 21),(.len (.t 20)),(some (18,true))⟩,⟨(some 22),(.fa 1 (.t 3)),(some (18,true))⟩,⟨(some 23),(.ld false 1 (.t 22)),(some (18,true))⟩,⟨(some 24),(.len (.t 23)),(some (18,true))⟩,⟨(some 25),(.bin .eql (.t 21) (.t 24)),(some (18,true))⟩,⟨(some 26),(.pick (.t 18) (.t 25) (.k (.c (.v (.bool false))))),none⟩,⟨(some 27),(.mv (.t 26)),none⟩,⟨(some 28),(.mv (.t 5)),(some (27,true))⟩,⟨(some 29),(.mv (.t 6)),(some (27,true))⟩,⟨(some 30),(.call 57 [(.t 28),(.t 29)]),(some (27,true))⟩,⟨(some 31),(.un .not (.t 30)),(some (27,true))⟩,⟨(some 32),(.pick (.t 27) (.t 31) (.k (.c (.v (.bool false))))),none⟩,⟨(some 33),(.mv (.t 32)),none⟩,⟨(some 34),(.mv (.t 6)),(some (33,true))⟩,⟨(some 35),(.mv (.t 5)),(some (33,true))⟩,⟨(some 36),(.call 57 [(.t 34),(.t 35)]),(some (33,true))⟩,⟨(some 37),(.un .not (.t 36)),(some (33,true))⟩,⟨(some 38),(.pick (.t 33) (.t 37) (.k (.c (.v (.bool false))))),none⟩,⟨(some 4),(.mv (.t 38)),none⟩]) (.kill [2,3,5,6,11,12,13,14,15,16,17,18,19,20,21,22,23,24,25,26,27,28,29,30,31,32,33,34,35,36,37,38] .ret))))))))
def rs59:List RS:=[(.t 4)]
def nt59:Nat:=39
set_option maxRecDepth 100000 in
set_option maxHeartbeats 1000000 in
theorem final_calls (w:World) (v v' : Value) (L:Lt) (o:Int) (s:LS) (hL:checkB L=true) (hwf:WfT L o s) (h:LtR w v L) (h' : StR w v' s):Calls Try.prog 50 #[v,v'] w (RetV w (.bool (finB L s))):=by
 refine enterLtSt (A:=[]) (c:=ir50) (rs:=rs50) (nt:=nt50) h h' [.agg (ltS 0),.agg (stS 3)] _ Try.func50 rfl (by kernel_rfl) (by kernel_rfl) rfl (fun E' h0 h1=>by simp only [List.map_cons,List.map_nil,h0,h1]) (of_decide_eq_true rfl) ?_
 obtain ⟨z1,z2,z3,z4⟩:=sz_at hL
 have hp:=hwf.wf.p
 have hb:=hwf.wf.b
 simp (maxSteps:=2000000) only [ir50,nt50,rs50,go_sem,↓reduceIte,Nat.reduceLT,Nat.reduceLeDiff,Nat.reduceAdd,Nat.reduceSub,Nat.reduceMul,Nat.reduceEqDiff,reduceCtorEq,Int.reduceToNat,Int.reduceEq,Int.reduceBEq,Int.reduceBNe,Int.reduceLT,Int.reduceLE,Int.reduceNeg,Int.reduceAdd,Int.reduceSub,Int.reduceMul,Int.reduceGE,Int.reduceGT,endO,ltA,ltS,stA,stS]
 refine loopI (ι:={ i:Nat // i≤L.thr.length∧∀ t,t<i→s.places.getD t 0=(L.thr.getD t []).length∧(s.bufs.getD t []).length=0 }) (fun i=>⟨33,[(3,.c (.ptr (9,0,0) 0)),(8,.c (.xv (1,0,0))),(9,.c (.v (.int .i64 L.thr.length))),(10,.c (.v (.int .i64 (i.1:Nat))))],
  [(8,.one (.bk [.xv (0,0,0),.xv (1,0,0)] 25)),(9,.one (.bk [.xv (3,0,0),.xv (4,0,0),.xv (5,0,0),.xv (6,0,0)] 32))],ltA 0 L++stA 3 s,[],10⟩)
  (fun i=>L.thr.length - i.1) ⟨0,by omega,fun t ht=>by omega⟩ (le_ren id rfl rfl (by simp [TmpsLe,look,SV.ren,SC.ren,SC.renL,ren1L,ren1,idσ,SV.okN,SC.okN,SC.okL,ok1L]) (by simp [OwnLe,BlkLeO,BlkLe,atN,look,Fm.get,idσ,SC.renL,SC.ren,SC.okL,SC.okN,renL_v,okL_v]) (by simp +contextual [ltA,stA,ArrsLe,ArrLeO,atN,look,Fm.get,idσ,arrLe_of,arrLe_0,arrLe_nest]) rfl) ?_
 rintro ⟨i,hi,hg⟩
 simp (maxSteps:=2000000) only [go_sem,↓reduceIte,Nat.reduceLT,Nat.reduceLeDiff,Nat.reduceAdd,Nat.reduceSub,Nat.reduceMul,Nat.reduceEqDiff,reduceCtorEq,Int.reduceToNat,Int.reduceEq,Int.reduceBEq,Int.reduceBNe,Int.reduceLT,Int.reduceLE,Int.reduceNeg,Int.reduceAdd,Int.reduceSub,Int.reduceMul,Int.reduceGE,Int.reduceGT,endO,ltA,stA,eI]
 refine both (fun hlt=>?_) (fun hge=>?_)
 ·rw [decide_eq_true_eq] at hlt
  have hlt:i<L.thr.length:=by omega
  have hlp:i<s.places.length:=by omega
  have hlb:i<s.bufs.length:=by omega
  have g:=hwf.wf.thr i hlt
  have g1:=g.p1
  repeat (with_reducible refine And.intro (by first | exact hlt | exact hlp | exact hlb | exact fun _=>hlb) ?_)
  refine both (fun hc=>?_) (fun hc=>?_)
  ·simp only [b_decR,b_decL,bt_ite,bf_ite,bt_dec,bf_dec,bt_int,bf_int,bt_nint,bf_nint,bt_bool,bf_bool,bt_nbool,bf_nbool,bt_not,bf_not,bt_and,bf_and,bt_or,bf_or,Bool.false_eq_true,Bool.true_eq_false,Bool.not_eq_true,Bool.not_eq_false,reduceCtorEq,false_iff,true_iff,iff_false,iff_true,and_true,true_and,and_false,false_and,or_true,true_or,or_false,false_or,not_true_eq_false,not_false_eq_true,ne_eq] at hc
   have hf:finB L s=false:=finB_no hlt (by omega)
   exact retV fun E=>by simp [SV.den,SC.den,hf]
  ·simp only [b_decR,b_decL,bt_ite,bf_ite,bt_dec,bf_dec,bt_int,bf_int,bt_nint,bf_nint,bt_bool,bf_bool,bt_nbool,bf_nbool,bt_not,bf_not,bt_and,bf_and,bt_or,bf_or,Bool.false_eq_true,Bool.true_eq_false,Bool.not_eq_true,Bool.not_eq_false,reduceCtorEq,false_iff,true_iff,iff_false,iff_true,and_true,true_and,and_false,false_and,or_true,true_or,or_false,false_or,not_true_eq_false,not_false_eq_true,ne_eq] at hc
   rw [wr_succ (by omega)]
   refine backI ⟨i+1,by omega,fun t ht=>?_⟩ (by simp only;omega) (le_ren id rfl rfl (by simp [TmpsLe,look,SV.ren,SC.ren,SC.renL,ren1L,ren1,idσ,SV.okN,SC.okN,SC.okL,ok1L]) (by simp [OwnLe,BlkLeO,BlkLe,atN,look,Fm.get,idσ,SC.renL,SC.ren,SC.okL,SC.okN,renL_v,okL_v]) (by simp +contextual [ltA,stA,ArrsLe,ArrLeO,atN,look,Fm.get,idσ,arrLe_of,arrLe_0,arrLe_nest]) rfl)
   by_cases e:t=i
   ·subst e;omega
   ·exact hg t (by omega)
 ·rw [decide_eq_false_iff_not] at hge
  have hf:finB L s=true:=finB_iff.2 fun t ht=>hg t (by omega)
  exact retV fun E=>by simp [SV.den,SC.den,hf]
set_option maxRecDepth 100000 in
set_option maxHeartbeats 1000000 in
theorem rfinal_calls (w:World) (v v' : Value) (L:Lt) (o:Int) (s:LS) (hL:checkB L=true) (hwf:WfT L o s) (h:LtR w v L) (h' : StR w v' s):Calls Try.prog 55 #[v,v'] w (RetV w (.bool (finB L s))):=by
 refine enterLtSt (A:=[]) (c:=ir55) (rs:=rs55) (nt:=nt55) h h' [.agg (ltS 0),.agg (stS 3)] _ Try.func55 rfl (by kernel_rfl) (by kernel_rfl) rfl (fun E' h0 h1=>by simp only [List.map_cons,List.map_nil,h0,h1]) (of_decide_eq_true rfl) ?_
 obtain ⟨z1,z2,z3,z4⟩:=sz_at hL
 have hp:=hwf.wf.p
 have hb:=hwf.wf.b
 simp (maxSteps:=2000000) only [ir55,nt55,rs55,go_sem,↓reduceIte,Nat.reduceLT,Nat.reduceLeDiff,Nat.reduceAdd,Nat.reduceSub,Nat.reduceMul,Nat.reduceEqDiff,reduceCtorEq,Int.reduceToNat,Int.reduceEq,Int.reduceBEq,Int.reduceBNe,Int.reduceLT,Int.reduceLE,Int.reduceNeg,Int.reduceAdd,Int.reduceSub,Int.reduceMul,Int.reduceGE,Int.reduceGT,endO,ltA,ltS,stA,stS]
 refine loopI (ι:={ i:Nat // i≤L.thr.length∧∀ t,t<i→s.places.getD t 0=(L.thr.getD t []).length∧(s.bufs.getD t []).length=0 }) (fun i=>⟨34,[(2,.c (.ptr (8,0,0) 0)),(3,.c (.ptr (9,0,0) 0)),(5,.c (.v (.int .i64 (i.1:Nat))))],
  [(8,.one (.bk [.xv (0,0,0),.xv (1,0,0)] 25)),(9,.one (.bk [.xv (3,0,0),.xv (4,0,0),.xv (5,0,0),.xv (6,0,0)] 32))],ltA 0 L++stA 3 s,[],10⟩)
  (fun i=>L.thr.length - i.1) ⟨0,by omega,fun t ht=>by omega⟩ (le_ren id rfl rfl (by simp [TmpsLe,look,SV.ren,SC.ren,SC.renL,ren1L,ren1,idσ,SV.okN,SC.okN,SC.okL,ok1L]) (by simp [OwnLe,BlkLeO,BlkLe,atN,look,Fm.get,idσ,SC.renL,SC.ren,SC.okL,SC.okN,renL_v,okL_v]) (by simp +contextual [ltA,stA,ArrsLe,ArrLeO,atN,look,Fm.get,idσ,arrLe_of,arrLe_0,arrLe_nest]) rfl) ?_
 rintro ⟨i,hi,hg⟩
 simp (maxSteps:=2000000) only [go_sem,↓reduceIte,Nat.reduceLT,Nat.reduceLeDiff,Nat.reduceAdd,Nat.reduceSub,Nat.reduceMul,Nat.reduceEqDiff,reduceCtorEq,Int.reduceToNat,Int.reduceEq,Int.reduceBEq,Int.reduceBNe,Int.reduceLT,Int.reduceLE,Int.reduceNeg,Int.reduceAdd,Int.reduceSub,Int.reduceMul,Int.reduceGE,Int.reduceGT,endO,ltA,stA,eI]
 refine both (fun hlt=>?_) (fun hge=>?_)
 ·rw [decide_eq_true_eq] at hlt
  have hlt:i<L.thr.length:=by omega
  have hlp:i<s.places.length:=by omega
  have hlb:i<s.bufs.length:=by omega
  refine draw_vc (by kernel_rfl) (mkTab_ok _ _) (of_decide_eq_true rfl) (of_decide_eq_true rfl) ?_
  repeat (first | simp (maxSteps:=2000000) only [go_sem,↓reduceIte,Nat.reduceLT,Nat.reduceLeDiff,Nat.reduceAdd,Nat.reduceSub,Nat.reduceMul,Nat.reduceEqDiff,reduceCtorEq,Int.reduceToNat,Int.reduceEq,Int.reduceBEq,Int.reduceBNe,Int.reduceLT,Int.reduceLE,Int.reduceNeg,Int.reduceAdd,Int.reduceSub,Int.reduceMul,Int.reduceGE,Int.reduceGT,endO,eI] | rw [dr_cons])
  repeat (with_reducible refine And.intro (by first | exact hlt | exact hlp | exact hlb | exact fun _=>hlb) ?_)
  refine both (fun hc=>?_) (fun hc=>?_)
  ·simp only [b_decR,b_decL,bt_ite,bf_ite,bt_dec,bf_dec,bt_int,bf_int,bt_nint,bf_nint,bt_bool,bf_bool,bt_nbool,bf_nbool,bt_not,bf_not,bt_and,bf_and,bt_or,bf_or,Bool.false_eq_true,Bool.true_eq_false,Bool.not_eq_true,Bool.not_eq_false,reduceCtorEq,false_iff,true_iff,iff_false,iff_true,and_true,true_and,and_false,false_and,or_true,true_or,or_false,false_or,not_true_eq_false,not_false_eq_true,ne_eq] at hc
   have hf:finB L s=false:=finB_no hlt (by omega)
   exact retV fun E=>by simp [SV.den,SC.den,hf]
  ·simp only [b_decR,b_decL,bt_ite,bf_ite,bt_dec,bf_dec,bt_int,bf_int,bt_nint,bf_nint,bt_bool,bf_bool,bt_nbool,bf_nbool,bt_not,bf_not,bt_and,bf_and,bt_or,bf_or,Bool.false_eq_true,Bool.true_eq_false,Bool.not_eq_true,Bool.not_eq_false,reduceCtorEq,false_iff,true_iff,iff_false,iff_true,and_true,true_and,and_false,false_and,or_true,true_or,or_false,false_or,not_true_eq_false,not_false_eq_true,ne_eq] at hc
   rw [wr_succ (by omega)]
   refine backI ⟨i+1,by omega,fun t ht=>?_⟩ (by simp only;omega) (le_ren id rfl rfl (by simp [TmpsLe,look,SV.ren,SC.ren,SC.renL,ren1L,ren1,idσ,SV.okN,SC.okN,SC.okL,ok1L]) (by simp [OwnLe,BlkLeO,BlkLe,atN,look,Fm.get,idσ,SC.renL,SC.ren,SC.okL,SC.okN,renL_v,okL_v]) (by simp +contextual [ltA,stA,ArrsLe,ArrLeO,atN,look,Fm.get,idσ,arrLe_of,arrLe_0,arrLe_nest]) rfl)
   by_cases e:t=i
   ·subst e;omega
   ·exact hg t (by omega)
 ·rw [decide_eq_false_iff_not] at hge
  have hf:finB L s=true:=finB_iff.2 fun t ht=>hg t (by omega)
  exact retV fun E=>by simp [SV.den,SC.den,hf]
theorem seg_ints:∀ (l:List Int) (e:Nat),e<l.length→take' 1 (drop' (e * 1) (l.map fun x=>SC.v (.int .i64 x)))=ats eI l 0 e:=fun l e he=>by
 rw [take'_eq,drop'_eq,Nat.mul_one,List.drop_eq_getElem_cons (by simpa using he)]
 simp [ats,eI,List.getD_eq_getElem?_getD,he]
def r4L (r:R4):List Int:=[r.a,r.b,r.c,r.d]
def numT (f:Fn):Nat→List Int
 | 0=>f.words
 | n+1=>numT f n++r4L (f.regs.getD n r40)
def numF (f:Fn):List Int:=numT f f.regs.length
theorem numT_len (f:Fn):∀ n,(numT f n).length=f.words.length+4 * n
 | 0=>rfl
 | n+1=>by simp [numT,r4L,numT_len f n];omega
theorem enterFn {P:Program} {A:List Nat} {f nt:Nat} {fn:Func} {x:Code} {c:IR} {w:World} {rs:List RS} {R:Ending→World→Prop} {v:Value} {a:Fn} (h:FnR w v a)
  (hf:P.funcs[f]? = some fn) (hb:fn.body=some x) (hc:compC (mkTab P A) x=some c.strip) (hrs:compR (mkTab P A).T fn.results.toList=some rs) (hn:fn.ntmps=nt) (hnt:1≤nt)
  (hex:exec (mkC P A w rs R) 1000 [.code c] ⟨nt,enumT 0 [.agg [.xv (0,0,0),.xv (1,0,0)]],[],[(0,.one (arrOf eI 1 a.words 0)),(1,.one (arrOf R4.enc 4 a.regs r40))],[],2⟩):Calls P f #[v] w R:=by
 obtain ⟨vw,vr,rfl,h1,h2⟩:=h
 refine enterL [fun _=>vw,fun _=>vr] ⟨fun _=>arr_one h1,fun _=>arr_one h2,trivial⟩
  (rd_one 0 0 eI_ok h1 (by simp) rfl (rd_one 1 r40 r4_ok h2 (by simp) rfl rd_nil))
  [.agg [.xv (0,0,0),.xv (1,0,0)]] _ hf hb hc hrs hn (fun E' hE'=>?_) hnt hex
 have e:=fun i hi=>hE' i 0 0 hi
 simp only [List.map_cons,List.map_nil,SV.den,SC.den,e 0 (by simp),e 1 (by simp)]
 rfl
set_option maxRecDepth 100000 in
set_option maxHeartbeats 1000000 in
theorem num_calls19 (w:World) (v:Value) (f:Fn) (h1:f.words.length≤6) (h2:f.regs.length≤4) (h:FnR w v f):Calls Try.prog 58 #[v] w (RetN w 1 (lsT 1 (numF f).length) (lsO 3 1 eI (numF f) 0)):=by
 refine enterFn (A:=[]) (c:=ir58) (rs:=rs58) (nt:=nt58) h Try.func58 rfl (by kernel_rfl) (by kernel_rfl) rfl (of_decide_eq_true rfl) ?_
 simp (maxSteps:=2000000) only [ir58,nt58,rs58,go_sem,↓reduceIte,Nat.reduceLT,Nat.reduceLeDiff,Nat.reduceAdd,Nat.reduceSub,Nat.reduceMul,Nat.reduceEqDiff,reduceCtorEq,Int.reduceToNat,Int.reduceEq,Int.reduceBEq,Int.reduceBNe,Int.reduceLT,Int.reduceLE,Int.reduceNeg,Int.reduceAdd,Int.reduceSub,Int.reduceMul,Int.reduceGE,Int.reduceGT,endO]
 refine And.intro ⟨by omega,by simp only [maxLen];omega⟩ ?_
 refine loopI (ι:={ i:Nat // i≤f.regs.length }) (fun i=>⟨44,[(1,.c (.ptr (2,0,0) 0)),(3,.c (.sl (3,0,0) 1 0 (numT f i.1).length none)),(4,.c (.v (.int .i64 (i.1:Nat))))],[(2,.one (.bk [.xv (0,0,0),.xv (1,0,0)] 67)),(3,.one (.ar (numT f i.1).length 1 (ats eI (numT f i.1) 0) 3))],[(0,.one (arrOf eI 1 f.words 0)),(1,.one (arrOf R4.enc 4 f.regs r40))],[],4⟩)
  (fun i=>f.regs.length - i.1) ⟨0,by omega⟩ (le_ren id rfl rfl (by simp [TmpsLe,look,SV.ren,SC.ren,idσ,SV.okN,SC.okN,numT]) (by simp [numT,OwnLe,BlkLeO,BlkLe,atN,look,Fm.get,idσ,SC.renL,SC.ren,SC.okL,SC.okN,renL_v,okL_v,ren_ats,ok_ats,arrOf_ats]) (by simp [ArrsLe,ArrLeO,atN,look,Fm.get,idσ,arrLe_of,arrLe_0]) rfl) ?_
 rintro ⟨i,hi⟩
 simp (maxSteps:=2000000) only [go_sem,↓reduceIte,Nat.reduceLT,Nat.reduceLeDiff,Nat.reduceAdd,Nat.reduceSub,Nat.reduceMul,Nat.reduceEqDiff,reduceCtorEq,Int.reduceToNat,Int.reduceEq,Int.reduceBEq,Int.reduceBNe,Int.reduceLT,Int.reduceLE,Int.reduceNeg,Int.reduceAdd,Int.reduceSub,Int.reduceMul,Int.reduceGE,Int.reduceGT,endO]
 refine both (fun hlt=>?_) (fun hge=>?_)
 ·rw [decide_eq_true_eq] at hlt
  have hlt:i<f.regs.length:=by omega
  have hnl:=numT_len f i
  refine draw_vc (by kernel_rfl) (mkTab_ok _ _) (of_decide_eq_true rfl) (of_decide_eq_true rfl) ?_
  repeat (first | simp (maxSteps:=2000000) only [go_sem,↓reduceIte,Nat.reduceLT,Nat.reduceLeDiff,Nat.reduceAdd,Nat.reduceSub,Nat.reduceMul,Nat.reduceEqDiff,reduceCtorEq,Int.reduceToNat,Int.reduceEq,Int.reduceBEq,Int.reduceBNe,Int.reduceLT,Int.reduceLE,Int.reduceNeg,Int.reduceAdd,Int.reduceSub,Int.reduceMul,Int.reduceGE,Int.reduceGT,endO,R4.enc] | rw [dr_cons])
  generalize hX:numT f i=X at hnl ⊢
  have hX2:numT f (i+1)=X++r4L (f.regs.getD i r40):=by rw [← hX];rfl
  repeat (with_reducible refine And.intro (by first | exact hlt | decide | exact ⟨Nat.le_refl _,by omega,by simp only [maxLen];omega⟩ | exact Or.inl trivial | exact Or.inr trivial | exact ⟨Or.inl trivial,Or.inr trivial⟩) ?_)
  rw [wr_succ (by omega)]
  refine backI ⟨i+1,by omega⟩ (by simp only;omega) (le_ren (fun j=>if j=3 then 5 else j) rfl rfl ?_ ?_ (by simp [ArrsLe,ArrLeO,atN,look,Fm.get,idσ,arrLe_of,arrLe_0]) rfl)
  ·simp [TmpsLe,look,SV.ren,SC.ren,idσ,SV.okN,SC.okN,hX2,r4L]
  ·refine ⟨⟨of_decide_eq_true rfl,?_⟩,⟨of_decide_eq_true rfl,?_⟩,trivial⟩
   ·simp [BlkLeO,BlkLe,atN,look,idσ,Fm.get,SC.renL,SC.ren,SC.okL,SC.okN]
   ·simp only [idσ,reduceIte,atN,look,Nat.reduceEqDiff,Fm.get,and_self]
    rw [hX2,List.length_append]
    refine arLe_of (by simp [r4L]) fun e he=>?_
    exact ats_app (d:=0) (xs:=X) (ys:=r4L (f.regs.getD i r40)) rfl rfl (fun _ _=>rfl) (fun e he=>seg_ints (r4L (f.regs.getD i r40)) e he) e (by rw [List.length_append];exact he)
 ·rw [decide_eq_false_iff_not] at hge
  have hin:i=f.regs.length:=by omega
  subst hin
  exact retList' 3 _ _ rfl rfl (Nat.le_refl _) fun _ _=>rfl
end Go.Proofs.Ytmcpdafmkkjlcaa.Z
namespace Go.Proofs.Ytmcpdafmkkjlcaa.Z
open Go Go.RowKit
def ordR:List R4→List R4→Int
 | x :: l,y :: m=>if cmpL (r4L x) (r4L y)≠0 then cmpL (r4L x) (r4L y) else ordR l m
 | _,_=>0
def ordF (a b:Fn):Int:=if cmpL a.words b.words≠0 then cmpL a.words b.words else ordR a.regs b.regs
theorem drop_r4 {l:List R4} {i:Nat} (h:i<l.length):l.drop i=l.getD i r40 :: l.drop (i+1):=by
 rw [List.drop_eq_getElem_cons h,List.getD_eq_getElem?_getD,List.getElem?_eq_getElem h];rfl
theorem enterFn2 {P:Program} {A:List Nat} {f nt:Nat} {fn:Func} {x:Code} {c:IR} {w:World} {rs:List RS} {R:Ending→World→Prop} {v v' : Value} {a b:Fn} (h:FnR w v a) (h' : FnR w v' b)
  (hf:P.funcs[f]? = some fn) (hb:fn.body=some x) (hc:compC (mkTab P A) x=some c.strip) (hrs:compR (mkTab P A).T fn.results.toList=some rs) (hn:fn.ntmps=nt) (hnt:2≤nt)
  (hex:exec (mkC P A w rs R) 1000 [.code c] ⟨nt,enumT 0 [.agg [.xv (0,0,0),.xv (1,0,0)],.agg [.xv (2,0,0),.xv (3,0,0)]],[],[(0,.one (arrOf eI 1 a.words 0)),(1,.one (arrOf R4.enc 4 a.regs r40)),(2,.one (arrOf eI 1 b.words 0)),(3,.one (arrOf R4.enc 4 b.regs r40))],[],4⟩):Calls P f #[v,v'] w R:=by
 obtain ⟨vw,vr,rfl,h1,h2⟩:=h
 obtain ⟨vw',vr',rfl,h1',h2'⟩:=h'
 refine enterL [fun _=>vw,fun _=>vr,fun _=>vw',fun _=>vr'] ⟨fun _=>arr_one h1,fun _=>arr_one h2,fun _=>arr_one h1',fun _=>arr_one h2',trivial⟩
  (rd_one 0 0 eI_ok h1 (by simp) rfl (rd_one 1 r40 r4_ok h2 (by simp) rfl (rd_one 2 0 eI_ok h1' (by simp) rfl (rd_one 3 r40 r4_ok h2' (by simp) rfl rd_nil))))
  [.agg [.xv (0,0,0),.xv (1,0,0)],.agg [.xv (2,0,0),.xv (3,0,0)]] _ hf hb hc hrs hn (fun E' hE'=>?_) hnt hex
 have e:=fun i hi=>hE' i 0 0 hi
 simp only [List.map_cons,List.map_nil,SV.den,SC.den,e 0 (by simp),e 1 (by simp),e 2 (by simp),e 3 (by simp)]
 rfl
end Go.Proofs.Ytmcpdafmkkjlcaa.Z
namespace Go.Proofs.Ytmcpdafmkkjlcaa.Z
open Go Go.RowKit
theorem fn_at {C:Ctx} {E:Env} {S:St} {a:Act} {w:World} (hs:Sat C.B C.W C.w0 E S a w) {f:Fn} (i:Nat) (h0:look S.arrs i=some (.one (arrOf eI 1 f.words 0))) (h1:look S.arrs (i+1)=some (.one (arrOf R4.enc 4 f.regs r40))):FnR w ((SV.agg [.xv (i,0,0),.xv (i+1,0,0)]).den E) f :=
 ⟨_,_,by simp [SV.den,SC.den],arr_at (d:=0) hs i (by simp [atN,h0,Fm.get];rfl),arr_at (d:=r40) hs (i+1) (by simp [atN,h1,Fm.get];rfl)⟩
def sameF (a b:Fn):Bool:=decide (a.words.length=b.words.length∧a.regs.length=b.regs.length) && !lessL (numF a) (numF b) && !lessL (numF b) (numF a)
set_option maxRecDepth 100000 in
set_option maxHeartbeats 1000000 in
theorem same_calls (w:World) (v v' : Value) (a b:Fn) (ha1:a.words.length≤6) (ha2:a.regs.length≤4) (hb1:b.words.length≤6) (hb2:b.regs.length≤4) (h:FnR w v a) (h' : FnR w v' b):Calls Try.prog 59 #[v,v'] w (RetV w (.bool (sameF a b))):=by
 refine enterFn2 (A:=[]) (c:=ir59) (rs:=rs59) (nt:=nt59) h h' Try.func59 rfl (by kernel_rfl) (by kernel_rfl) rfl (of_decide_eq_true rfl) ?_
 simp (maxSteps:=2000000) only [ir59,nt59,rs59,go_sem,↓reduceIte,Nat.reduceLT,Nat.reduceLeDiff,Nat.reduceAdd,Nat.reduceSub,Nat.reduceMul,Nat.reduceEqDiff,reduceCtorEq,Int.reduceToNat,Int.reduceEq,Int.reduceBEq,Int.reduceBNe,Int.reduceLT,Int.reduceLE,Int.reduceNeg,Int.reduceAdd,Int.reduceSub,Int.reduceMul,Int.reduceGE,Int.reduceGT,endO]
 refine callN 1 (lsT 1 (numF a).length) (lsO 3 1 eI (numF a) 0) (fun E a' w' hs=>num_calls19 w' _ a ha1 ha2 (fn_at hs 0 rfl rfl)) ?_
 simp (maxSteps:=2000000) only [go_sem,↓reduceIte,Nat.reduceLT,Nat.reduceLeDiff,Nat.reduceAdd,Nat.reduceSub,Nat.reduceMul,Nat.reduceEqDiff,reduceCtorEq,Int.reduceToNat,Int.reduceEq,Int.reduceBEq,Int.reduceBNe,Int.reduceLT,Int.reduceLE,Int.reduceNeg,Int.reduceAdd,Int.reduceSub,Int.reduceMul,Int.reduceGE,Int.reduceGT,endO,lsT,lsO]
 refine callN 1 (lsT 1 (numF b).length) (lsO 3 1 eI (numF b) 0) (fun E a' w' hs=>num_calls19 w' _ b hb1 hb2 (fn_at hs 2 rfl rfl)) ?_
 simp (maxSteps:=2000000) only [go_sem,↓reduceIte,Nat.reduceLT,Nat.reduceLeDiff,Nat.reduceAdd,Nat.reduceSub,Nat.reduceMul,Nat.reduceEqDiff,reduceCtorEq,Int.reduceToNat,Int.reduceEq,Int.reduceBEq,Int.reduceBNe,Int.reduceLT,Int.reduceLE,Int.reduceNeg,Int.reduceAdd,Int.reduceSub,Int.reduceMul,Int.reduceGE,Int.reduceGT,endO,lsT,lsO]
 refine guardW (.c (.bo (lessL (numF a) (numF b)))) _ (fun E=>rfl) (fun E a' w' hs=>less_calls w' _ _ (numF a) (numF b) (own_at (d:=0) hs 6 _ rfl rfl) (own_at (d:=0) hs 7 _ rfl rfl)) ?_
 simp (maxSteps:=2000000) only [go_sem,↓reduceIte,Nat.reduceLT,Nat.reduceLeDiff,Nat.reduceAdd,Nat.reduceSub,Nat.reduceMul,Nat.reduceEqDiff,reduceCtorEq,Int.reduceToNat,Int.reduceEq,Int.reduceBEq,Int.reduceBNe,Int.reduceLT,Int.reduceLE,Int.reduceNeg,Int.reduceAdd,Int.reduceSub,Int.reduceMul,Int.reduceGE,Int.reduceGT,endO]
 refine guardW (.c (.bo (lessL (numF b) (numF a)))) _ (fun E=>rfl) (fun E a' w' hs=>less_calls w' _ _ (numF b) (numF a) (own_at (d:=0) hs 7 _ rfl rfl) (own_at (d:=0) hs 6 _ rfl rfl)) ?_
 simp (maxSteps:=2000000) only [go_sem,↓reduceIte,Nat.reduceLT,Nat.reduceLeDiff,Nat.reduceAdd,Nat.reduceSub,Nat.reduceMul,Nat.reduceEqDiff,reduceCtorEq,Int.reduceToNat,Int.reduceEq,Int.reduceBEq,Int.reduceBNe,Int.reduceLT,Int.reduceLE,Int.reduceNeg,Int.reduceAdd,Int.reduceSub,Int.reduceMul,Int.reduceGE,Int.reduceGT,endO]
 exact retV fun E=>by
  simp only [SV.den,SC.den,Value.bool.injEq,sameF]
  by_cases e1:a.words.length=b.words.length <;> by_cases e2:a.regs.length=b.regs.length <;> cases lessL (numF a) (numF b) <;> cases lessL (numF b) (numF a) <;> simp [e1,e2,Int.natCast_inj]
end Go.Proofs.Ytmcpdafmkkjlcaa.Z
namespace Go.Proofs.Ytmcpdafmkkjlcaa.Z
open Go Go.RowKit
def ir53:IR:=(.seq (.ops [⟨(some 2),(.box 25 (.t 0)),none⟩,⟨(some 4),(.mv (.k (.c (.v (.int .i64 0))))),none⟩]) (.kill [0,3,4,5,6,7,8,9,10,11] (.seq (.seq (.ops [⟨(some 5),(.ld true 2 (.t 2)),none⟩,⟨(some 6),(.call 18 [(.t 5)]),none⟩,⟨(some 7),(.un .not (.t 6)),none⟩]) (.kill [2,5,6] (.cond (.t 7) (.seq (.ops [⟨(some 4),(.mv (.k (.c (.v (.int .i64 190))))),none⟩]) (.kill [1,7] .ret)) .skip))) (.kill [4,7] (.seq (.seq (.ops [⟨(some 8),(.mv (.t 1)),none⟩,⟨(some 9),(.call 23 [(.t 8)]),none⟩,⟨(some 10),(.un .not (.t 9)),none⟩]) (.kill [1,8,9] (.cond (.t 10) (.seq (.ops [⟨(some 4),(.mv (.k (.c (.v (.int .i64 191))))),none⟩]) (.kill [10] .ret)) .skip))) (.kill [4,10] (.seq (.ops [⟨(some 4),(.mv (.k (.c (.v (.int .i64 0))))),none⟩]) .ret)))))))
def rs53:List RS:=[(.t 4)]
def nt53:Nat:=11
def ir56:IR:=(.seq (.ops [⟨(some 1),(.box 32 (.t 0)),none⟩,⟨(some 2),(.new 67 [(.v (.slice none 0 0)),(.v (.slice none 0 0))]),none⟩]) (.kill [0,3,4,5,6,7,8,9,10,11] (.seq (.ops [⟨(some 3),(.new 67 [(.v (.slice none 0 0)),(.v (.slice none 0 0))]),none⟩]) (.seq (.ops [⟨(some 4),(.fa 0 (.t 3)),none⟩,⟨(some 5),(.ld false 1 (.t 4)),none⟩,⟨(some 6),(.fa 0 (.t 1)),none⟩,⟨(some 7),(.ld false 1 (.t 6)),none⟩,⟨(some 8),(.app 3 1 8 [(.v (.int .i64 0))] (.t 5) (.t 7)),none⟩,⟨(some 9),(.fa 0 (.t 3)),none⟩,⟨none,(.st 1 (.t 9) (.t 8)),none⟩]) (.kill [4,5,6,7,8,9] (.seq (.ops [⟨(some 10),(.fa 1 (.t 3)),none⟩,⟨(some 11),(.ld false 1 (.t 10)),none⟩,⟨(some 12),(.fa 1 (.t 1)),none⟩,⟨(some 13),(.ld false 1 (.t 12)),none⟩,⟨(some 14),(.app 68 4 32 [(.v (.int .i64 0)),(.v (.int .i64 0)),(.v (.int .i64 0)),(.v (.int .i64 0))] (.t 11) (.t 13)),none⟩,⟨(some 15),(.fa 1 (.t 3)),none⟩,⟨none,(.st 1 (.t 15) (.t 14)),none⟩]) (.kill [1,10,11,12,13,14,15] (.seq (.ops [⟨(some 16),(.ld true 2 (.t 3)),none⟩,⟨none,(.st 2 (.t 2) (.t 16)),none⟩]) (.kill [3,16] .ret)))))))))
def rs56:List RS:=[(.cell 2 true 2)]
def nt56:Nat:=17
def ir89:IR:=(.seq (.ops [⟨(some 1),(.box 32 (.t 0)),none⟩,⟨(some 2),(.mv (.k (.c (.v (.slice none 0 0))))),none⟩]) (.kill [0,2,3,4,5,6,7,8,9,10,11] (.seq (.ops [⟨(some 3),(.mv (.k (.c (.v (.slice none 0 0))))),none⟩]) (.seq (.ops [⟨(some 6),(.mv (.t 3)),none⟩,⟨(some 7),(.fa 0 (.t 1)),none⟩,⟨(some 8),(.ld false 1 (.t 7)),none⟩,⟨(some 9),(.app 3 1 8 [(.v (.int .i64 0))] (.t 6) (.t 8)),none⟩,⟨(some 3),(.mv (.t 9)),none⟩]) (.kill [6,7,8,9] (.seq (.seq (.ops [⟨(some 4),(.mv (.k (.c (.v (.int .i64 0))))),none⟩]) (.blk 0 (.loop (.seq (.seq (.ops [⟨(some 10),(.mv (.t 4)),none⟩,⟨(some 11),(.fa 1 (.t 1)),none⟩,⟨(some 12),(.ld false 1 (.t 11)),none⟩,⟨(some 13),(.len (.t 12)),none⟩,⟨(some 14),(.bin .lss (.t 10) (.t 13)),none⟩]) (.kill [5,10,11,12,13,15,16,17,18,19,20,21,22,23,24,25,26,27,28,29,30,31,32,33,34,35,36,37,38,39,40,41,42,43,44,45,46,47,48,49,50,51,52,53,54,55,56,57,58,59,60,61,62,63,64,65,66,67,68,69,70,71,72,73,74,75,76,77,78,79,80,81,82,83,84,85] (.cond (.t 14) .skip (.exit 0)))) (.kill [14] (.seq (.blk 1 (.seq (.draw [(⟨(some 17),(.mv (.t 3)),none⟩,([],[18,19,20,21,22,23,24,25,26,27,28,29,30,31,32,33,34,35,36,37,38,39,40,41,42,43,44,45,46,47,48,49,50,51,52,53])),(⟨(some 18),(.fa 1 (.t 1)),none⟩,([0],[17,20,24,25,26,27,28,29,30,31,32,33,34,35,36,37,38,39,40,41,42,43,44,45,46,47,48,49,50,51,52])),(⟨(some 19),(.ld false 1 (.t 18)),none⟩,([0],[17,20,24,25,26,27,28,29,30,31,32,33,34,35,36,37,38,39,40,41,42,43,44,45,46,47,48,49,50,51,52])),(⟨(some 20),(.mv (.t 4)),none⟩,([0,1,2],[17,18,19,24,25,26,27,28,29,30,31,32,33,34,35,36,37,38,39,40,41,42,43,44,45,46,47,48,49,50,51,52])),(⟨(some 21),(.ia 4 (.t 19) (.t 20)),none⟩,([0],[17,24,25,26,27,28,29,30,31,32,33,34,35,36,37,38,39,40,41,42,43,44,45,46,47,48,49,50,51,52])),(⟨(some 22),(.iar 4 1 (.t 21) (.k (.c (.v (.int .i64 0))))),none⟩,([0],[17,24,25,26,27,28,29,30,31,32,33,34,35,36,37,38,39,40,41,42,43,44,45,46,47,48,49,50,51,52])),(⟨(some 23),(.ld false 1 (.t 22)),none⟩,([0],[17,24,25,26,27,28,29,30,31,32,33,34,35,36,37,38,39,40,41,42,43,44,45,46,47,48,49,50,51,52])),(⟨(some 24),(.fa 1 (.t 1)),none⟩,([0,1,2,3,4,5,6],[17,18,19,20,21,22,23,26,30,31,32,33,34,35,36,37,38,39,40,41,42,43,44,45,46,47,48,49,50,51,52])),(⟨(some 25),(.ld false 1 (.t 24)),none⟩,([0,1,2,3,4,5,6],[17,18,19,20,21,22,23,26,30,31,32,33,34,35,36,37,38,39,40,41,42,43,44,45,46,47,48,49,50,51,52])),(⟨(some 26),(.mv (.t 4)),none⟩,([0,1,2,3,4,5,6,7,8],[17,18,19,20,21,22,23,24,25,30,31,32,33,34,35,36,37,38,39,40,41,42,43,44,45,46,47,48,49,50,51,52])),(⟨(some 27),(.ia 4 (.t 25) (.t 26)),none⟩,([0,1,2,3,4,5,6],[17,18,19,20,21,22,23,30,31,32,33,34,35,36,37,38,39,40,41,42,43,44,45,46,47,48,49,50,51,52])),(⟨(some 28),(.iar 4 1 (.t 27) (.k (.c (.v (.int .i64 1))))),none⟩,([0,1,2,3,4,5,6],[17,18,19,20,21,22,23,30,31,32,33,34,35,36,37,38,39,40,41,42,43,44,45,46,47,48,49,50,51,52])),(⟨(some 29),(.ld false 1 (.t 28)),none⟩,([0,1,2,3,4,5,6],[17,18,19,20,21,22,23,30,31,32,33,34,35,36,37,38,39,40,41,42,43,44,45,46,47,48,49,50,51,52])),(⟨(some 30),(.fa 1 (.t 1)),none⟩,([0,1,2,3,4,5,6,7,8,9,10,11,12],[17,18,19,20,21,22,23,24,25,26,27,28,29,32,36,37,38,39,40,41,42,43,44,45,46,47,48,49,50,51,52])),(⟨(some 31),(.ld false 1 (.t 30)),none⟩,([0,1,2,3,4,5,6,7,8,9,10,11,12],[17,18,19,20,21,22,23,24,25,26,27,28,29,32,36,37,38,39,40,41,42,43,44,45,46,47,48,49,50,51,52])),(⟨(some 32),(.mv (.t 4)),none⟩,([0,1,2,3,4,5,6,7,8,9,10,11,12,13,14],[17,18,19,20,21,22,23,24,25,26,27,28,29,30,31,36,37,38,39,40,41,42,43,44,45,46,47,48,49,50,51,52])),(⟨(some 33),(.ia 4 (.t 31) (.t 32)),none⟩,([0,1,2,3,4,5,6,7,8,9,10,11,12],[17,18,19,20,21,22,23,24,25,26,27,28,29,36,37,38,39,40,41,42,43,44,45,46,47,48,49,50,51,52])),(⟨(some 34),(.iar 4 1 (.t 33) (.k (.c (.v (.int .i64 2))))),none⟩,([0,1,2,3,4,5,6,7,8,9,10,11,12],[17,18,19,20,21,22,23,24,25,26,27,28,29,36,37,38,39,40,41,42,43,44,45,46,47,48,49,50,51,52])),(⟨(some 35),(.ld false 1 (.t 34)),none⟩,([0,1,2,3,4,5,6,7,8,9,10,11,12],[17,18,19,20,21,22,23,24,25,26,27,28,29,36,37,38,39,40,41,42,43,44,45,46,47,48,49,50,51,52])),(⟨(some 36),(.fa 1 (.t 1)),none⟩,([0,1,2,3,4,5,6,7,8,9,10,11,12,13,14,15,16,17,18],[17,18,19,20,21,22,23,24,25,26,27,28,29,30,31,32,33,34,35,38,42,43,44,45,46,47,48,49,50,51,52])),(⟨(some 37),(.ld false 1 (.t 36)),none⟩,([0,1,2,3,4,5,6,7,8,9,10,11,12,13,14,15,16,17,18],[17,18,19,20,21,22,23,24,25,26,27,28,29,30,31,32,33,34,35,38,42,43,44,45,46,47,48,49,50,51,52])),(⟨(some 38),(.mv (.t 4)),none⟩,([0,1,2,3,4,5,6,7,8,9,10,11,12,13,14,15,16,17,18,19,20],[17,18,19,20,21,22,23,24,25,26,27,28,29,30,31,32,33,34,35,36,37,42,43,44,45,46,47,48,49,50,51,52])),(⟨(some 39),(.ia 4 (.t 37) (.t 38)),none⟩,([0,1,2,3,4,5,6,7,8,9,10,11,12,13,14,15,16,17,18],[17,18,19,20,21,22,23,24,25,26,27,28,29,30,31,32,33,34,35,42,43,44,45,46,47,48,49,50,51,52])),(⟨(some 40),(.iar 4 1 (.t 39) (.k (.c (.v (.int .i64 3))))),none⟩,([0,1,2,3,4,5,6,7,8,9,10,11,12,13,14,15,16,17,18],[17,18,19,20,21,22,23,24,25,26,27,28,29,30,31,32,33,34,35,42,43,44,45,46,47,48,49,50,51,52])),(⟨(some 41),(.ld false 1 (.t 40)),none⟩,([0,1,2,3,4,5,6,7,8,9,10,11,12,13,14,15,16,17,18],[17,18,19,20,21,22,23,24,25,26,27,28,29,30,31,32,33,34,35,42,43,44,45,46,47,48,49,50,51,52])),(⟨(some 42),(.fa 2 (.t 1)),none⟩,([0,1,2,3,4,5,6,7,8,9,10,11,12,13,14,15,16,17,18,19,20,21,22,23,24],[17,18,19,20,21,22,23,24,25,26,27,28,29,30,31,32,33,34,35,36,37,38,39,40,41,44,47,48,49,50,51,52])),(⟨(some 43),(.ld false 1 (.t 42)),none⟩,([0,1,2,3,4,5,6,7,8,9,10,11,12,13,14,15,16,17,18,19,20,21,22,23,24],[17,18,19,20,21,22,23,24,25,26,27,28,29,30,31,32,33,34,35,36,37,38,39,40,41,44,47,48,49,50,51,52])),(⟨(some 44),(.mv (.t 4)),none⟩,([0,1,2,3,4,5,6,7,8,9,10,11,12,13,14,15,16,17,18,19,20,21,22,23,24,25,26],[17,18,19,20,21,22,23,24,25,26,27,28,29,30,31,32,33,34,35,36,37,38,39,40,41,42,43,47,48,49,50,51,52])),(⟨(some 45),(.ia 1 (.t 43) (.t 44)),none⟩,([0,1,2,3,4,5,6,7,8,9,10,11,12,13,14,15,16,17,18,19,20,21,22,23,24],[17,18,19,20,21,22,23,24,25,26,27,28,29,30,31,32,33,34,35,36,37,38,39,40,41,47,48,49,50,51,52])),(⟨(some 46),(.ld false 1 (.t 45)),none⟩,([0,1,2,3,4,5,6,7,8,9,10,11,12,13,14,15,16,17,18,19,20,21,22,23,24],[17,18,19,20,21,22,23,24,25,26,27,28,29,30,31,32,33,34,35,36,37,38,39,40,41,47,48,49,50,51,52])),(⟨(some 47),(.fa 3 (.t 1)),none⟩,([0,1,2,3,4,5,6,7,8,9,10,11,12,13,14,15,16,17,18,19,20,21,22,23,24,25,26,27,28,29],[17,18,19,20,21,22,23,24,25,26,27,28,29,30,31,32,33,34,35,36,37,38,39,40,41,42,43,44,45,46,49])),(⟨(some 48),(.ld false 1 (.t 47)),none⟩,([0,1,2,3,4,5,6,7,8,9,10,11,12,13,14,15,16,17,18,19,20,21,22,23,24,25,26,27,28,29],[17,18,19,20,21,22,23,24,25,26,27,28,29,30,31,32,33,34,35,36,37,38,39,40,41,42,43,44,45,46,49])),(⟨(some 49),(.mv (.t 4)),none⟩,([0,1,2,3,4,5,6,7,8,9,10,11,12,13,14,15,16,17,18,19,20,21,22,23,24,25,26,27,28,29,30,31],[17,18,19,20,21,22,23,24,25,26,27,28,29,30,31,32,33,34,35,36,37,38,39,40,41,42,43,44,45,46,47,48])),(⟨(some 50),(.ia 1 (.t 48) (.t 49)),none⟩,([0,1,2,3,4,5,6,7,8,9,10,11,12,13,14,15,16,17,18,19,20,21,22,23,24,25,26,27,28,29],[17,18,19,20,21,22,23,24,25,26,27,28,29,30,31,32,33,34,35,36,37,38,39,40,41,42,43,44,45,46])),(⟨(some 51),(.ld false 1 (.t 50)),none⟩,([0,1,2,3,4,5,6,7,8,9,10,11,12,13,14,15,16,17,18,19,20,21,22,23,24,25,26,27,28,29],[17,18,19,20,21,22,23,24,25,26,27,28,29,30,31,32,33,34,35,36,37,38,39,40,41,42,43,44,45,46])),(⟨(some 52),(.len (.t 51)),none⟩,([0,1,2,3,4,5,6,7,8,9,10,11,12,13,14,15,16,17,18,19,20,21,22,23,24,25,26,27,28,29],[17,18,19,20,21,22,23,24,25,26,27,28,29,30,31,32,33,34,35,36,37,38,39,40,41,42,43,44,45,46])),(⟨(some 53),(.mkSl 3 6 1 [(.v (.int .i64 0)),(.v (.int .i64 0)),(.v (.int .i64 0)),(.v (.int .i64 0)),(.v (.int .i64 0)),(.v (.int .i64 0))] [(0,(1,(.t 23))),(1,(1,(.t 29))),(2,(1,(.t 35))),(3,(1,(.t 41))),(4,(1,(.t 46))),(5,(1,(.t 52)))]),none⟩,([0],[17])),(⟨(some 54),(.app 3 1 8 [(.v (.int .i64 0))] (.t 17) (.t 53)),none⟩,([],[])),(⟨(some 3),(.mv (.t 54)),none⟩,([],[]))]) (.kill [17,18,19,20,21,22,23,24,25,26,27,28,29,30,31,32,33,34,35,36,37,38,39,40,41,42,43,44,45,46,47,48,49,50,51,52,53,54] (.seq (.ops [⟨(some 5),(.mv (.k (.c (.v (.int .i64 0))))),none⟩]) (.blk 2 (.loop (.seq (.seq (.ops [⟨(some 55),(.mv (.t 5)),none⟩,⟨(some 56),(.fa 3 (.t 1)),none⟩,⟨(some 57),(.ld false 1 (.t 56)),none⟩,⟨(some 58),(.mv (.t 4)),none⟩,⟨(some 59),(.ia 1 (.t 57) (.t 58)),none⟩,⟨(some 60),(.ld false 1 (.t 59)),none⟩,⟨(some 61),(.len (.t 60)),none⟩,⟨(some 62),(.bin .lss (.t 55) (.t 61)),none⟩]) (.kill [55,56,57,58,59,60,61,63,64,65,66,67,68,69,70,71,72,73,74,75,76,77,78,79,80,81,82,83,84,85] (.cond (.t 62) .skip (.exit 2)))) (.kill [62] (.seq (.blk 3 (.draw [(⟨(some 65),(.mv (.t 3)),none⟩,([],[66,67,68,69,70,71,72,73,74,75,76,77,78,79,80,81,82,83,84])),(⟨(some 66),(.fa 3 (.t 1)),none⟩,([0],[65,68,71,75,76,77,78,79,80,81,82,83])),(⟨(some 67),(.ld false 1 (.t 66)),none⟩,([0],[65,68,71,75,76,77,78,79,80,81,82,83])),(⟨(some 68),(.mv (.t 4)),none⟩,([0,1,2],[65,66,67,71,75,76,77,78,79,80,81,82,83])),(⟨(some 69),(.ia 1 (.t 67) (.t 68)),none⟩,([0],[65,71,75,76,77,78,79,80,81,82,83])),(⟨(some 70),(.ld false 1 (.t 69)),none⟩,([0],[65,71,75,76,77,78,79,80,81,82,83])),(⟨(some 71),(.mv (.t 5)),none⟩,([0,1,2,3,4,5],[65,66,67,68,69,70,75,76,77,78,79,80,81,82,83])),(⟨(some 72),(.ia 2 (.t 70) (.t 71)),none⟩,([0],[65,75,76,77,78,79,80,81,82,83])),(⟨(some 73),(.fa 0 (.t 72)),none⟩,([0],[65,75,76,77,78,79,80,81,82,83])),(⟨(some 74),(.ld false 1 (.t 73)),none⟩,([0],[65,75,76,77,78,79,80,81,82,83])),(⟨(some 75),(.fa 3 (.t 1)),none⟩,([0,1,2,3,4,5,6,7,8,9],[65,66,67,68,69,70,71,72,73,74,77,80])),(⟨(some 76),(.ld false 1 (.t 75)),none⟩,([0,1,2,3,4,5,6,7,8,9],[65,66,67,68,69,70,71,72,73,74,77,80])),(⟨(some 77),(.mv (.t 4)),none⟩,([0,1,2,3,4,5,6,7,8,9,10,11],[65,66,67,68,69,70,71,72,73,74,75,76,80])),(⟨(some 78),(.ia 1 (.t 76) (.t 77)),none⟩,([0,1,2,3,4,5,6,7,8,9],[65,66,67,68,69,70,71,72,73,74,80])),(⟨(some 79),(.ld false 1 (.t 78)),none⟩,([0,1,2,3,4,5,6,7,8,9],[65,66,67,68,69,70,71,72,73,74,80])),(⟨(some 80),(.mv (.t 5)),none⟩,([0,1,2,3,4,5,6,7,8,9,10,11,12,13,14],[65,66,67,68,69,70,71,72,73,74,75,76,77,78,79])),(⟨(some 81),(.ia 2 (.t 79) (.t 80)),none⟩,([0,1,2,3,4,5,6,7,8,9],[65,66,67,68,69,70,71,72,73,74])),(⟨(some 82),(.fa 1 (.t 81)),none⟩,([0,1,2,3,4,5,6,7,8,9],[65,66,67,68,69,70,71,72,73,74])),(⟨(some 83),(.ld false 1 (.t 82)),none⟩,([0,1,2,3,4,5,6,7,8,9],[65,66,67,68,69,70,71,72,73,74])),(⟨(some 84),(.mkSl 3 2 1 [(.v (.int .i64 0)),(.v (.int .i64 0))] [(0,(1,(.t 74))),(1,(1,(.t 83)))]),none⟩,([0],[65])),(⟨(some 85),(.app 3 1 8 [(.v (.int .i64 0))] (.t 65) (.t 84)),none⟩,([],[])),(⟨(some 3),(.mv (.t 85)),none⟩,([],[]))])) (.kill [65,66,67,68,69,70,71,72,73,74,75,76,77,78,79,80,81,82,83,84,85] (.ops [⟨(some 63),(.mv (.t 5)),none⟩,⟨(some 64),(.bin .add (.t 63) (.k (.c (.v (.int .i64 1))))),none⟩,⟨(some 5),(.mv (.t 64)),none⟩]))))))))))) (.kill [5,17,18,19,20,21,22,23,24,25,26,27,28,29,30,31,32,33,34,35,36,37,38,39,40,41,42,43,44,45,46,47,48,49,50,51,52,53,54,55,56,57,58,59,60,61,62,63,64,65,66,67,68,69,70,71,72,73,74,75,76,77,78,79,80,81,82,83,84,85] (.ops [⟨(some 15),(.mv (.t 4)),none⟩,⟨(some 16),(.bin .add (.t 15) (.k (.c (.v (.int .i64 1))))),none⟩,⟨(some 4),(.mv (.t 16)),none⟩])))))))) (.kill [1,4,5,10,11,12,13,14,15,16,17,18,19,20,21,22,23,24,25,26,27,28,29,30,31,32,33,34,35,36,37,38,39,40,41,42,43,44,45,46,47,48,49,50,51,52,53,54,55,56,57,58,59,60,61,62,63,64,65,66,67,68,69,70,71,72,73,74,75,76,77,78,79,80,81,82,83,84,85] (.seq (.ops [⟨(some 86),(.mv (.t 3)),none⟩,⟨(some 2),(.mv (.t 86)),none⟩]) (.kill [3,86] .ret)))))))))
def rs89:List RS:=[(.t 2)]
def nt89:Nat:=87
def refE (L:Lt) (o:Int):Int:=if checkB L=true then (if 1≤o∧o≤3 then 0 else 191) else 190
set_option maxRecDepth 100000 in
set_option maxHeartbeats 400000 in
theorem refused_calls (w:World) (v:Value) (L:Lt) (o:Int) (h:LtR w v L):Calls Try.prog 53 #[v,.int .i64 o] w (RetV w (.int .i64 (refE L o))):=by
 refine enterLt (A:=[]) (c:=ir53) (rs:=rs53) (nt:=nt53) h [.agg (ltS 0),.c (.v (.int .i64 o))] _ Try.func53 rfl (by kernel_rfl) (by kernel_rfl) rfl (fun E' h0=>by simp only [List.map_cons,List.map_nil,h0];rfl) (of_decide_eq_true rfl) ?_
 simp (maxSteps:=2000000) only [ir53,nt53,rs53,go_sem,↓reduceIte,Nat.reduceLT,Nat.reduceLeDiff,Nat.reduceAdd,Nat.reduceSub,Nat.reduceMul,Nat.reduceEqDiff,reduceCtorEq,Int.reduceToNat,Int.reduceEq,Int.reduceBEq,Int.reduceBNe,Int.reduceLT,Int.reduceLE,Int.reduceNeg,Int.reduceAdd,Int.reduceSub,Int.reduceMul,Int.reduceGE,Int.reduceGT,endO,ltA,ltS]
 refine callV (.c (.bo (checkB L))) _ (fun E=>rfl) (fun E a w' hs=>rcheck_calls w' _ L (ltL_at hs rfl rfl rfl)) ?_
 unfold refE
 by_cases hL:checkB L=true
 ·rw [hL]
  simp (maxSteps:=2000000) only [go_sem,↓reduceIte,Nat.reduceLT,Nat.reduceLeDiff,Nat.reduceAdd,Nat.reduceSub,Nat.reduceMul,Nat.reduceEqDiff,reduceCtorEq,Int.reduceToNat,Int.reduceEq,Int.reduceBEq,Int.reduceBNe,Int.reduceLT,Int.reduceLE,Int.reduceNeg,Int.reduceAdd,Int.reduceSub,Int.reduceMul,Int.reduceGE,Int.reduceGT,endO]
  refine callV (.c (.bo (decide (1≤o∧o≤3)))) _ (fun E=>rfl) (fun E a w' hs=>isorder_calls w' o) ?_
  simp (maxSteps:=2000000) only [go_sem,↓reduceIte,Nat.reduceLT,Nat.reduceLeDiff,Nat.reduceAdd,Nat.reduceSub,Nat.reduceMul,Nat.reduceEqDiff,reduceCtorEq,Int.reduceToNat,Int.reduceEq,Int.reduceBEq,Int.reduceBNe,Int.reduceLT,Int.reduceLE,Int.reduceNeg,Int.reduceAdd,Int.reduceSub,Int.reduceMul,Int.reduceGE,Int.reduceGT,endO]
  refine both (fun hb=>?_) (fun hb=>?_)
  ·exact retV fun E=>by
    simp at hb
    rw [if_neg (by omega)]
    simp [SV.den,SC.den]
  ·exact retV fun E=>by
    simp at hb
    rw [if_pos (by omega)]
    simp [SV.den,SC.den]
 ·have hL:checkB L=false:=by simpa using hL
  rw [hL]
  simp (maxSteps:=2000000) only [go_sem,↓reduceIte,Nat.reduceLT,Nat.reduceLeDiff,Nat.reduceAdd,Nat.reduceSub,Nat.reduceMul,Nat.reduceEqDiff,reduceCtorEq,Int.reduceToNat,Int.reduceEq,Int.reduceBEq,Int.reduceBNe,Int.reduceLT,Int.reduceLE,Int.reduceNeg,Int.reduceAdd,Int.reduceSub,Int.reduceMul,Int.reduceGE,Int.reduceGT,endO]
  exact retV fun E=>by simp [SV.den,SC.den]
def flS (l:List Int):Own:=[(5,.one (.bk [.xv (0,0,0),.xv (1,0,0),.xv (2,0,0),.xv (3,0,0)] 32)),(6,.one (.ar l.length 1 (ats eI l 0) 3))]
theorem fl_grow {own:Own} {l' : List Int} {m j:Nat} {at_:Nat→List SC} (hj:6≤j) (hm:m=l'.length) (h5:look own 5=some (.one (.bk [.xv (0,0,0),.xv (1,0,0),.xv (2,0,0),.xv (3,0,0)] 32))) (h6:look own j=some (.one (.ar m 1 at_ 3))) (ha:∀ e,e<l'.length→at_ e=ats eI l' 0 e) :
  OwnLe (· < 7) (idσ fun i=>if i=6 then j else i) own (flS l'):=by
 subst hm
 refine ⟨⟨of_decide_eq_true rfl,?_⟩,⟨of_decide_eq_true rfl,?_⟩,trivial⟩
 ·simp [BlkLeO,BlkLe,atN,idσ,h5,Fm.get,SC.renL,SC.ren,SC.okL,SC.okN]
 ·simp only [idσ,reduceIte,atN,h6,Fm.get,and_self]
  exact arLe_of (Nat.le_refl _) ha
theorem take_pd3 {l:List Pd} {i:Nat} (h:i<l.length):l.take (i+1)=l.take i++[l.getD i pd0]:=by
 rw [List.take_succ_eq_append_getElem h,List.getD_eq_getElem?_getD,List.getElem?_eq_getElem h];rfl
def six (s:LS) (t:Nat):List Int:=[(s.regs.getD t r40).a,(s.regs.getD t r40).b,(s.regs.getD t r40).c,(s.regs.getD t r40).d,s.places.getD t 0,((s.bufs.getD t []).length:Int)]
theorem app_ints {xs ys:List Int} {g:Nat→List SC} (hg:∀ e,e<ys.length→g e=ats eI ys 0 e):∀ e,e<(xs++ys).length→appAt xs.length (ats eI xs 0) g e=ats eI (xs++ys) 0 e:=ats_app (d:=0) rfl rfl (fun _ _=>rfl) hg
set_option maxRecDepth 100000 in
set_option maxHeartbeats 1000000 in
theorem flat_calls (w:World) (v:Value) (L:Lt) (o:Int) (s:LS) (hL:checkB L=true) (hwf:WfT L o s) (h:StR w v s):Calls Try.prog 89 #[v] w (RetN w 1 (lsT 1 (flatS s).length) (lsO 3 1 eI (flatS s) 0)):=by
 refine enterSt (A:=[]) (c:=ir89) (rs:=rs89) (nt:=nt89) h Try.func89 rfl (by kernel_rfl) (by kernel_rfl) rfl (of_decide_eq_true rfl) ?_
 have hz:=sz_at hL
 have hw6:s.words.length≤6:=by rw [hwf.wf.w];exact hz.2.2.2
 have hrb:=hwf.wf.r
 have hpb:=hwf.wf.p
 have hbb:=hwf.wf.b
 have hfl:∀ n,n≤L.thr.length→(flatT s n).length≤6+26 * n:=fun n hn=>flat_le hL hwf hn
 have hb10:∀ n,n<L.thr.length→(s.bufs.getD n []).length≤10:=fun n hn=>(hwf.wf.thr n hn).b
 simp (maxSteps:=2000000) only [ir89,nt89,rs89,go_sem,↓reduceIte,Nat.reduceLT,Nat.reduceLeDiff,Nat.reduceAdd,Nat.reduceSub,Nat.reduceMul,Nat.reduceEqDiff,reduceCtorEq,Int.reduceToNat,Int.reduceEq,Int.reduceBEq,Int.reduceBNe,Int.reduceLT,Int.reduceLE,Int.reduceNeg,Int.reduceAdd,Int.reduceSub,Int.reduceMul,Int.reduceGE,Int.reduceGT,endO,stA,stS]
 refine And.intro ⟨by omega,by simp only [maxLen];omega⟩ ?_
 refine loopI (ι:={ t:Nat // t≤s.regs.length }) (fun t=>⟨87,[(1,.c (.ptr (5,0,0) 0)),(3,.c (.sl (6,0,0) 1 0 (flatT s t.1).length none)),(4,.c (.v (.int .i64 (t.1:Nat))))],flS (flatT s t.1),stA 0 s,[],7⟩)
  (fun t=>s.regs.length - t.1) ⟨0,by omega⟩ (le_ren id rfl rfl (by simp [TmpsLe,look,SV.ren,SC.ren,idσ,SV.okN,SC.okN,flatT]) (by simp [flS,flatT,OwnLe,BlkLeO,BlkLe,atN,look,Fm.get,idσ,SC.renL,SC.ren,SC.okL,SC.okN,renL_v,okL_v,ren_ats,ok_ats,arrOf_ats]) (by simp +contextual [stA,ArrsLe,ArrLeO,atN,look,Fm.get,idσ,arrLe_of,arrLe_0,arrLe_nest]) rfl) ?_
 rintro ⟨t,ht⟩
 simp (maxSteps:=2000000) only [go_sem,↓reduceIte,Nat.reduceLT,Nat.reduceLeDiff,Nat.reduceAdd,Nat.reduceSub,Nat.reduceMul,Nat.reduceEqDiff,reduceCtorEq,Int.reduceToNat,Int.reduceEq,Int.reduceBEq,Int.reduceBNe,Int.reduceLT,Int.reduceLE,Int.reduceNeg,Int.reduceAdd,Int.reduceSub,Int.reduceMul,Int.reduceGE,Int.reduceGT,endO,stA,flS]
 refine both (fun hlt=>?_) (fun hge=>?_)
 ·rw [decide_eq_true_eq] at hlt
  have hlt:t<s.regs.length:=by omega
  have hltp:t<s.places.length:=by omega
  have hltb:t<s.bufs.length:=by omega
  have hf:=hfl t (by omega)
  have hb:=hb10 t (by omega)
  refine draw_vc (by kernel_rfl) (mkTab_ok _ _) (of_decide_eq_true rfl) (of_decide_eq_true rfl) ?_
  repeat (first | simp (maxSteps:=2000000) only [go_sem,↓reduceIte,Nat.reduceLT,Nat.reduceLeDiff,Nat.reduceAdd,Nat.reduceSub,Nat.reduceMul,Nat.reduceEqDiff,reduceCtorEq,Int.reduceToNat,Int.reduceEq,Int.reduceBEq,Int.reduceBNe,Int.reduceLT,Int.reduceLE,Int.reduceNeg,Int.reduceAdd,Int.reduceSub,Int.reduceMul,Int.reduceGE,Int.reduceGT,endO,R4.enc,eI] | rw [dr_cons])
  generalize hX:flatT s t=X at hf ⊢
  repeat (with_reducible refine And.intro (by first | exact hlt | exact hltp | exact hltb | decide | exact ⟨Nat.le_refl _,by omega,by simp only [maxLen];omega⟩ | exact Or.inl trivial | exact Or.inr trivial | exact ⟨Or.inl trivial,Or.inr trivial⟩) ?_)
  have hsx:(six s t).length=6:=rfl
  have hlb:∀ i,i≤(s.bufs.getD t []).length→(X++six s t++pdL ((s.bufs.getD t []).take i)).length=X.length+6+2 * i:=fun i hi=>by rw [List.length_append,List.length_append,pdL_len,List.length_take,hsx];omega
  refine loopI (ι:={ i:Nat // i≤(s.bufs.getD t []).length }) (fun i=>⟨87,[(1,.c (.ptr (5,0,0) 0)),(3,.c (.sl (6,0,0) 1 0 (X++six s t++pdL ((s.bufs.getD t []).take i.1)).length none)),(4,.c (.v (.int .i64 t))),(5,.c (.v (.int .i64 (i.1:Nat))))],flS (X++six s t++pdL ((s.bufs.getD t []).take i.1)),stA 0 s,[],7⟩)
   (fun i=>(s.bufs.getD t []).length - i.1) ⟨0,by omega⟩ (le_ren (fun j=>if j=6 then 8 else j) rfl rfl ?_ ?_ (by simp +contextual [stA,ArrsLe,ArrLeO,atN,look,Fm.get,idσ,arrLe_of,arrLe_0,arrLe_nest]) rfl) ?_
  ·simp [TmpsLe,look,SV.ren,SC.ren,idσ,SV.okN,SC.okN,pdL,six]
  ·simp only [List.take_zero,pdL,List.append_nil]
   exact fl_grow (j:=8) (by decide) (by rw [List.length_append];rfl) rfl rfl (app_ints fun e he=>seg_ints (six s t) e he)
  rintro ⟨i,hi⟩
  have hli:=hlb i hi
  simp (maxSteps:=2000000) only [go_sem,↓reduceIte,Nat.reduceLT,Nat.reduceLeDiff,Nat.reduceAdd,Nat.reduceSub,Nat.reduceMul,Nat.reduceEqDiff,reduceCtorEq,Int.reduceToNat,Int.reduceEq,Int.reduceBEq,Int.reduceBNe,Int.reduceLT,Int.reduceLE,Int.reduceNeg,Int.reduceAdd,Int.reduceSub,Int.reduceMul,Int.reduceGE,Int.reduceGT,endO,stA,flS]
  refine And.intro hltb (And.intro hltb (And.intro hltb (both (fun hlti=>?_) (fun hgei=>?_))))
  ·rw [decide_eq_true_eq] at hlti
   have hlti:i<(s.bufs.getD t []).length:=by omega
   have htk:X++six s t++pdL ((s.bufs.getD t []).take (i+1))=(X++six s t++pdL ((s.bufs.getD t []).take i))++[((s.bufs.getD t []).getD i pd0).addr,((s.bufs.getD t []).getD i pd0).val]:=by
    rw [take_pd3 hlti,pdL_app,← List.append_assoc]
    rfl
   refine draw_vc (by kernel_rfl) (mkTab_ok _ _) (of_decide_eq_true rfl) (of_decide_eq_true rfl) ?_
   repeat (first | simp (maxSteps:=2000000) only [go_sem,↓reduceIte,Nat.reduceLT,Nat.reduceLeDiff,Nat.reduceAdd,Nat.reduceSub,Nat.reduceMul,Nat.reduceEqDiff,reduceCtorEq,Int.reduceToNat,Int.reduceEq,Int.reduceBEq,Int.reduceBNe,Int.reduceLT,Int.reduceLE,Int.reduceNeg,Int.reduceAdd,Int.reduceSub,Int.reduceMul,Int.reduceGE,Int.reduceGT,endO,Pd.enc] | rw [dr_cons])
   generalize hY:X++six s t++pdL ((s.bufs.getD t []).take i)=Y at hli htk ⊢
   repeat (with_reducible refine And.intro (by first | exact hltb | exact ⟨hltb,hlti⟩ | decide | exact ⟨Nat.le_refl _,by omega,by simp only [maxLen];omega⟩ | exact Or.inl trivial | exact Or.inr trivial | exact ⟨Or.inl trivial,Or.inr trivial⟩) ?_)
   rw [wr_succ (by omega)]
   refine backI ⟨i+1,by omega⟩ (by simp only;omega) (le_ren (fun j=>if j=6 then 8 else j) rfl rfl ?_ ?_ (by simp +contextual [stA,ArrsLe,ArrLeO,atN,look,Fm.get,idσ,arrLe_of,arrLe_0,arrLe_nest]) rfl)
   ·have h3:=congrArg List.length htk
    simp at h3
    simp [TmpsLe,look,SV.ren,SC.ren,idσ,SV.okN,SC.okN]
    omega
   ·show OwnLe _ _ _ (flS (X++six s t++pdL ((s.bufs.getD t []).take (i+1))))
    rw [htk]
    exact fl_grow (j:=8) (by decide) (by rw [List.length_append];rfl) rfl rfl (app_ints fun e he=>seg_ints [((s.bufs.getD t []).getD i pd0).addr,((s.bufs.getD t []).getD i pd0).val] e he)
  ·rw [decide_eq_false_iff_not] at hgei
   have hin:i=(s.bufs.getD t []).length:=by omega
   subst hin
   have hfin:X++six s t++pdL ((s.bufs.getD t []).take (s.bufs.getD t []).length)=flatT s (t+1):=by rw [List.take_length,← hX];simp [flatT,thF,six]
   rw [hfin,wr_succ (by omega)]
   exact backI ⟨t+1,hlt⟩ (by simp only;omega) (le_ren id rfl rfl (by simp [TmpsLe,look,SV.ren,SC.ren,idσ,SV.okN,SC.okN]) (by simp [flS,OwnLe,BlkLeO,BlkLe,atN,look,Fm.get,idσ,SC.renL,SC.ren,SC.okL,SC.okN,renL_v,okL_v,ren_ats,ok_ats]) (by simp +contextual [stA,ArrsLe,ArrLeO,atN,look,Fm.get,idσ,arrLe_of,arrLe_0,arrLe_nest]) rfl)
 ·rw [decide_eq_false_iff_not] at hge
  have hin:t=s.regs.length:=by omega
  subst hin
  exact retList' 6 _ _ rfl rfl (Nat.le_refl _) fun _ _=>rfl
end Go.Proofs.Ytmcpdafmkkjlcaa.Z
namespace Go.Proofs.Ytmcpdafmkkjlcaa.Z
open Go Go.RowKit
def endF (s:LS):Fn:=⟨s.words,s.regs⟩
def fnS (b:Nat) (f:Fn):List SC:=[.sl (b,0,0) 1 0 f.words.length none,.sl (b+1,0,0) 4 0 f.regs.length none]
def fnO (b:Nat) (f:Fn):Own:=[(b,.one (.ar f.words.length 1 (ats eI f.words 0) 3)),(b+1,.one (.ar f.regs.length 4 (ats R4.enc f.regs r40) 68))]
set_option maxRecDepth 100000 in
set_option maxHeartbeats 1000000 in
theorem end_calls (w:World) (v:Value) (s:LS) (hsz:LsSz s) (h:StR w v s):Calls Try.prog 56 #[v] w (RetN w 2 (fun b=>.agg (fnS b (endF s))) (fun b=>fnO b (endF s))):=by
 refine enterSt (A:=[]) (c:=ir56) (rs:=rs56) (nt:=nt56) h Try.func56 rfl (by kernel_rfl) (by kernel_rfl) rfl (of_decide_eq_true rfl) ?_
 obtain ⟨z1,z2,z3,z4,z5⟩:=hsz
 have y1:=fit8 _ z1
 have y2:=fit32 _ z2
 simp (maxSteps:=2000000) only [ir56,nt56,rs56,go_sem,↓reduceIte,Nat.reduceLT,Nat.reduceLeDiff,Nat.reduceAdd,Nat.reduceSub,Nat.reduceMul,Nat.reduceEqDiff,reduceCtorEq,Int.reduceToNat,Int.reduceEq,Int.reduceBEq,Int.reduceBNe,Int.reduceLT,Int.reduceLE,Int.reduceNeg,Int.reduceAdd,Int.reduceSub,Int.reduceMul,Int.reduceGE,Int.reduceGT,endO,stA,stS]
 refine And.intro ⟨by omega,y1.2⟩ (And.intro ⟨by omega,y2.2⟩ ?_)
 refine retN (fun j=>j+8) (fun b=>⟨?_,?_⟩) (fun b=>?_) (fun b=>?_)
 ·simp [fnS,endF,SV.ren,SC.renL,SC.ren,fromσ]
 ·simp [fnS,SV.okN,SC.okL,SC.okN,NewIds]
 ·refine ⟨⟨⟨by omega,by omega⟩,?_⟩,⟨⟨by omega,by omega⟩,?_⟩,trivial⟩
  ·simp only [fromσ,Nat.sub_self,Nat.zero_add,atN,look,Nat.reduceEqDiff,reduceIte,Fm.get,and_self]
   exact arLe_of (Nat.le_refl _) fun _ _=>rfl
  ·simp only [fromσ,Nat.add_sub_cancel_left,Nat.reduceAdd,atN,look,Nat.reduceEqDiff,reduceIte,Fm.get,and_self]
   exact arLe_of (Nat.le_refl _) fun _ _=>rfl
 ·exact injN_from fun x hx y hy e=>by
   simp [fnO,keysL] at hx hy
   omega
end Go.Proofs.Ytmcpdafmkkjlcaa.Z
namespace Go.Proofs.Ytmcpdafmkkjlcaa.Z
open Go Go.RowKit
theorem cmp_less:∀ (a b:List Int),cmpL a b<0↔lessL a b=true
 | [],[]=>by simp [cmpL,lessL]
 | [],_ :: _=>by simp [cmpL,lessL]
 | _ :: _,[]=>by simp [cmpL,lessL]
 | x :: a,y :: b=>by
  simp only [cmpL,lessL]
  by_cases h1:x<y
  ·rw [if_pos h1,if_pos (by omega)];simp [h1]
  ·rw [if_neg h1]
   by_cases h2:y<x
   ·rw [if_pos h2,if_pos (by omega)];simp [h1]
   ·rw [if_neg h2,if_neg (by omega)];exact cmp_less a b
theorem cmp_zero:∀ (a b:List Int),cmpL a b=0↔a=b
 | [],[]=>by simp [cmpL]
 | [],_ :: _=>by simp [cmpL]
 | _ :: _,[]=>by simp [cmpL]
 | x :: a,y :: b=>by
  simp only [cmpL]
  by_cases h1:x<y
  ·rw [if_pos h1];simp;omega
  ·rw [if_neg h1]
   by_cases h2:y<x
   ·rw [if_pos h2];simp;omega
   ·rw [if_neg h2,cmp_zero a b];simp;omega
theorem cmp_anti:∀ (a b:List Int),cmpL b a = - cmpL a b
 | [],[]=>rfl
 | [],_ :: _=>rfl
 | _ :: _,[]=>rfl
 | x :: a,y :: b=>by
  simp only [cmpL]
  by_cases h1:x<y
  ·rw [if_neg (by omega),if_pos h1,if_pos h1];rfl
  ·by_cases h2:y<x
   ·rw [if_pos h2,if_neg h1,if_pos h2]
   ·rw [if_neg h2,if_neg h1,if_neg h1,if_neg h2];exact cmp_anti a b
theorem cmp_app:∀ {a b c d:List Int},a.length=b.length→cmpL (a++c) (b++d)=if cmpL a b≠0 then cmpL a b else cmpL c d
 | [],[],c,d,_=>by simp [cmpL]
 | [],_ :: _,c,d,h=>by simp at h
 | _ :: _,[],c,d,h=>by simp at h
 | x :: a,y :: b,c,d,h=>by
  simp only [List.cons_append,cmpL]
  by_cases h1:x<y
  ·simp [h1]
  ·by_cases h2:y<x
   ·simp [h1,h2]
   ·simp only [if_neg h1,if_neg h2];exact cmp_app (by simpa using h)
theorem less_trans:∀ {a b c:List Int},lessL a b=true→lessL b c=true→lessL a c=true
 | [],[],_,h,_=>by simp [lessL] at h
 | [],_ :: _,[],_,h=>by simp [lessL] at h
 | [],_ :: _,_ :: _,_,_=>rfl
 | _ :: _,[],_,h,_=>by simp [lessL] at h
 | _ :: _,_ :: _,[],_,h=>by simp [lessL] at h
 | x :: a,y :: b,z :: c,h1,h2=>by
  simp only [lessL] at h1 h2 ⊢
  by_cases e1:x=y
  ·subst e1
   rw [if_neg (by simp)] at h1
   by_cases e2:x=z
   ·subst e2
    rw [if_neg (by simp)] at h2 ⊢
    exact less_trans h1 h2
   ·rw [if_pos e2] at h2 ⊢;exact h2
  ·rw [if_pos e1] at h1
   by_cases e2:y=z
   ·subst e2;rw [if_pos e1];exact h1
   ·rw [if_pos e2] at h2
    simp only [decide_eq_true_eq] at h1 h2
    rw [if_pos (by omega)];simp;omega
def insF (x:Fn):List Fn→List Fn
 | []=>[x]
 | y :: l=>if lessL (numF y) (numF x)=true then y :: insF x l else if sameF y x=true then y :: l else x :: y :: l
def finsL (L:Lt) (l:List LS):List Fn:=(l.filter (finB L)).foldl (fun out s=>insF (endF s) out) []
end Go.Proofs.Ytmcpdafmkkjlcaa.Z
namespace Go.Proofs.Ytmcpdafmkkjlcaa.Z
open Go Go.RowKit
structure WkNd (L:Lt) (o:Int) (l:List Sp):Prop extends WkOk L o l where
 nd:(l.map (·.s)).Nodup
theorem bfsI_ok {L:Lt} {o:Int} (hL:checkB L=true) {i:Nat}:∀ {ts:List Tn} {l l' : List Sp},WkNd L o l→i<l.length→bfsI L o i ts l=some l'→WkNd L o l'∧i<l'.length
 | [],l,l',h,hi,e=>by
  simp only [bfsI,Option.some.injEq] at e
  subst e;exact ⟨h,hi⟩
 | t :: ts,l,l',h,hi,e=>by
  simp only [bfsI] at e
  split at e
  ·next hc =>
   split at e
   ·cases e
   ·next hl =>
    refine bfsI_ok hL ⟨wkOk_push h.toWkOk hl (turn_wfT hL (h.toWkOk.at hi) t),?_⟩ (by simp;omega) e
    rw [List.map_append,List.map_cons,List.map_nil,List.nodup_append]
    exact ⟨h.nd,by simp,fun a ha b hb q=>by
     rw [List.mem_singleton] at hb
     subst hb
     subst q
     exact hc.2 ha⟩
  ·exact bfsI_ok hL h hi e
theorem bfsO_ok {L:Lt} {o:Int} (hL:checkB L=true):∀ {n i:Nat} {l l' : List Sp},WkNd L o l→bfsO L o n i l=some l'→WkNd L o l'
 | 0,i,l,l',h,e=>by
  simp only [bfsO,Option.some.injEq] at e
  subst e;exact h
 | n+1,i,l,l',h,e=>by
  simp only [bfsO] at e
  split at e
  ·next hi =>
   cases hb:bfsI L o i (turnsL L o) l with
   | none=>rw [hb] at e;cases e
   | some l2 =>
    rw [hb] at e
    exact bfsO_ok hL (bfsI_ok hL h hi hb).1 e
  ·simp only [Option.some.injEq] at e
   subst e;exact h
theorem bfs_ok {L:Lt} {o:Int} (hL:checkB L=true) {l:List Sp} (h:bfs L o=some l):WkNd L o l :=
 bfsO_ok hL ⟨wkOk_begin,by simp⟩ h
theorem fin_inj {L:Lt} {o:Int} {s s' : LS} (h:WfT L o s) (h' : WfT L o s') (hf:finB L s=true) (hf' : finB L s' = true) (e:endF s=endF s'):s=s':=by
 have g:=finB_iff.1 hf
 have g':=finB_iff.1 hf'
 have hw:=h.wf;have hw':=h'.wf
 cases s with | mk w r p b =>
 cases s' with | mk w' r' p' b' =>
 simp only [endF,Fn.mk.injEq] at e
 obtain ⟨rfl,rfl⟩:=e
 have ep:p=p':=by
  refine List.ext_getElem (by have:=hw.p;have:=hw'.p;simp only at *;omega) fun i h1 h2=>?_
  have hi:i<L.thr.length:=by have:=hw.p;simp only at this;omega
  have k1:=(g i hi).1;have k2:=(g' i hi).1
  simp only [List.getD_eq_getElem?_getD,List.getElem?_eq_getElem h1,List.getElem?_eq_getElem h2,Option.getD_some] at k1 k2
  rw [k1,k2]
 have eb:b=b':=by
  refine List.ext_getElem (by have:=hw.b;have:=hw'.b;simp only at *;omega) fun i h1 h2=>?_
  have hi:i<L.thr.length:=by have:=hw.b;simp only at this;omega
  have k1:=(g i hi).2;have k2:=(g' i hi).2
  simp only [List.getD_eq_getElem?_getD,List.getElem?_eq_getElem h1,List.getElem?_eq_getElem h2,Option.getD_some] at k1 k2
  rw [List.eq_nil_of_length_eq_zero k1,List.eq_nil_of_length_eq_zero k2]
 rw [ep,eb]
def catR:List R4→List Int
 | []=>[]
 | r :: l=>r4L r++catR l
theorem catR_app:∀ l m:List R4,catR (l++m)=catR l++catR m
 | [],m=>rfl
 | r :: l,m=>by simp [catR,catR_app l m]
theorem numT_take (f:Fn):∀ n,n≤f.regs.length→numT f n=f.words++catR (f.regs.take n)
 | 0,_=>by simp [numT,catR]
 | n+1,h=>by
  rw [numT,numT_take f n (by omega),List.take_succ_eq_append_getElem (by omega),catR_app,List.append_assoc]
  simp [catR,List.getD_eq_getElem?_getD,List.getElem?_eq_getElem (show n<f.regs.length by omega)]
theorem numF_eq (f:Fn):numF f=f.words++catR f.regs:=by rw [numF,numT_take f _ (Nat.le_refl _),List.take_length]
theorem ordR_eq:∀ {l m:List R4},l.length=m.length→ordR l m=cmpL (catR l) (catR m)
 | [],[],_=>by simp [ordR,catR,cmpL]
 | [],_ :: _,h=>by simp at h
 | _ :: _,[],h=>by simp at h
 | x :: l,y :: m,h=>by
  simp only [ordR,catR]
  rw [cmp_app (by simp [r4L]),ordR_eq (by simpa using h)]
theorem ordF_eq {a b:Fn} (h1:a.words.length=b.words.length) (h2:a.regs.length=b.regs.length):ordF a b=cmpL (numF a) (numF b):=by
 rw [ordF,numF_eq,numF_eq,cmp_app h1,ordR_eq h2]
theorem r4L_inj {x y:R4} (h:r4L x=r4L y):x=y:=by
 cases x;cases y;simp [r4L] at h;obtain ⟨rfl,rfl,rfl,rfl⟩:=h;rfl
theorem catR_inj:∀ {l m:List R4},l.length=m.length→catR l=catR m→l=m
 | [],[],_,_=>rfl
 | [],_ :: _,h,_=>by simp at h
 | _ :: _,[],h,_=>by simp at h
 | x :: l,y :: m,h,e=>by
  simp only [catR] at e
  obtain ⟨e1,e2⟩:=List.append_inj e (by simp [r4L])
  rw [r4L_inj e1,catR_inj (by simpa using h) e2]
theorem numF_inj {a b:Fn} (h1:a.words.length=b.words.length) (h2:a.regs.length=b.regs.length) (e:numF a=numF b):a=b:=by
 rw [numF_eq,numF_eq] at e
 obtain ⟨e1,e2⟩:=List.append_inj e h1
 cases a;cases b
 simp only at *
 rw [e1,catR_inj h2 e2]
def SameSh (l:List Fn):Prop:=∀ a∈l,∀ b∈l,a.words.length=b.words.length∧a.regs.length=b.regs.length
def SrtF (l:List Fn):Prop:=l.Pairwise fun a b=>lessL (numF a) (numF b)=true
theorem same_iff {a b:Fn} (h:a.words.length=b.words.length∧a.regs.length=b.regs.length):sameF a b=true↔a=b:=by
 unfold sameF
 rw [decide_eq_true h,Bool.true_and]
 constructor
 ·intro e
  simp only [Bool.and_eq_true,Bool.not_eq_true'] at e
  exact numF_inj h.1 h.2 (less_eq e.1 e.2)
 ·rintro rfl
  simp [less_irr]
theorem insF_perm {x:Fn}:∀ {l:List Fn},x ∉ l→(∀ y∈l,y.words.length=x.words.length∧y.regs.length=x.regs.length)→(insF x l).Perm (x :: l)
 | [],_,_=>List.Perm.refl _
 | y :: l,h,hs=>by
  simp only [insF]
  split
  ·exact ((insF_perm (fun q=>h (List.mem_cons_of_mem _ q)) fun z hz=>hs z (List.mem_cons_of_mem _ hz)).cons y).trans (List.Perm.swap x y l)
  ·split
   ·next e =>
    rw [same_iff (hs y List.mem_cons_self)] at e
    subst e
    exact absurd List.mem_cons_self h
   ·exact List.Perm.refl _
theorem insF_srt {x:Fn}:∀ {l:List Fn},x ∉ l→(∀ y∈l,y.words.length=x.words.length∧y.regs.length=x.regs.length)→SrtF l→SrtF (insF x l)
 | [],_,_,_=>List.pairwise_singleton _ _
 | y :: l,h,hs,hl=>by
  have hl2:=List.pairwise_cons.1 hl
  simp only [insF]
  split
  ·next h1 =>
   refine List.pairwise_cons.2 ⟨fun z hz=>?_,insF_srt (fun q=>h (List.mem_cons_of_mem _ q)) (fun z hz=>hs z (List.mem_cons_of_mem _ hz)) hl2.2⟩
   have hp:=(insF_perm (fun q=>h (List.mem_cons_of_mem _ q)) fun z hz=>hs z (List.mem_cons_of_mem _ hz)).mem_iff.1 hz
   rcases List.mem_cons.1 hp with rfl | hz
   ·exact h1
   ·exact hl2.1 z hz
  ·next h1 =>
   split
   ·exact hl
   ·next h2 =>
    have hxy:lessL (numF x) (numF y)=true:=by
     cases e:lessL (numF x) (numF y) with
     | true=>rfl
     | false =>
      have hh:=hs y List.mem_cons_self
      have:=numF_inj hh.1.symm hh.2.symm (less_eq e (by simpa using h1))
      subst this
      exact absurd List.mem_cons_self h
    refine List.pairwise_cons.2 ⟨fun z hz=>?_,hl⟩
    rcases List.mem_cons.1 hz with rfl | hz
    ·exact hxy
    ·exact less_trans hxy (hl2.1 z hz)
theorem insF_fold:∀ {ys acc:List Fn},(ys++acc).Nodup→SameSh (ys++acc)→SrtF acc→(ys.foldl (fun out x=>insF x out) acc).Perm (ys++acc)∧SrtF (ys.foldl (fun out x=>insF x out) acc)
 | [],acc,_,_,h=>⟨List.Perm.refl _,h⟩
 | y :: ys,acc,hn,hs,h=>by
  simp only [List.foldl_cons]
  have hn2:=hn
  rw [List.cons_append,List.nodup_cons] at hn2
  have hy:y ∉ acc:=fun q=>hn2.1 (List.mem_append_right _ q)
  have hs1:∀ z∈acc,z.words.length=y.words.length∧z.regs.length=y.regs.length:=fun z hz=>hs z (List.mem_append_right _ hz) y (List.mem_append_left _ List.mem_cons_self)
  have hp:=insF_perm hy hs1
  have hpp:(ys++insF y acc).Perm (y :: ys++acc):=(List.Perm.append_left ys hp).trans List.perm_middle
  obtain ⟨h1,h2⟩:=insF_fold (hpp.nodup_iff.2 hn) (fun a ha b hb=>hs a (hpp.mem_iff.1 ha) b (hpp.mem_iff.1 hb)) (insF_srt hy hs1 h)
  exact ⟨h1.trans hpp,h2⟩
theorem srt_unique {l m:List Fn} (hp:l.Perm m) (hl:SrtF l) (hm:SrtF m):l=m :=
 List.Perm.eq_of_pairwise (le:=fun a b=>lessL (numF a) (numF b)=true) (fun a b _ _ h1 h2=>by
  have:=less_trans h1 h2
  rw [less_irr] at this
  cases this) hl hm hp
theorem finsL_eq (L:Lt) (l:List LS):finsL L l=((l.filter (finB L)).map endF).foldl (fun out x=>insF x out) []:=by
 rw [List.foldl_map];rfl
theorem ends_ok {L:Lt} {o:Int} {l:List LS} (hw:∀ s∈l,WfT L o s) (hn:l.Nodup):((l.filter (finB L)).map endF).Nodup∧SameSh ((l.filter (finB L)).map endF):=by
 refine ⟨?_,fun a ha b hb=>?_⟩
 ·rw [List.nodup_iff_pairwise_ne,List.pairwise_map]
  refine List.Pairwise.imp_of_mem ?_ (hn.filter (finB L))
  intro a b ha hb hne e
  rw [List.mem_filter] at ha hb
  exact hne (fin_inj (hw a ha.1) (hw b hb.1) ha.2 hb.2 e)
 ·rw [List.mem_map] at ha hb
  obtain ⟨s,hs,rfl⟩:=ha
  obtain ⟨t,ht,rfl⟩:=hb
  rw [List.mem_filter] at hs ht
  have h1:=(hw s hs.1).wf;have h2:=(hw t ht.1).wf
  exact ⟨h1.w.trans h2.w.symm,h1.r.trans h2.r.symm⟩
theorem finsL_ok {L:Lt} {o:Int} {l:List LS} (hw:∀ s∈l,WfT L o s) (hn:l.Nodup):(finsL L l).Perm ((l.filter (finB L)).map endF)∧SrtF (finsL L l):=by
 rw [finsL_eq]
 obtain ⟨h1,h2⟩:=ends_ok hw hn
 obtain ⟨h3,h4⟩:=insF_fold (ys:=(l.filter (finB L)).map endF) (acc:=[]) (by rw [List.append_nil];exact h1) (by rw [List.append_nil];exact h2) List.Pairwise.nil
 rw [List.append_nil] at h3
 exact ⟨h3,h4⟩
def idxL (L:Lt) (l:List Sp):List Nat:=(List.range l.length).filter fun k=>finB L (l.getD k sp0).s
def ordI (l:List Sp) (a b:Nat):Int:=ordF (endF (l.getD a sp0).s) (endF (l.getD b sp0).s)
theorem idx_map (L:Lt) (l:List Sp):(idxL L l).map (fun k=>endF (l.getD k sp0).s)=((l.map (·.s)).filter (finB L)).map endF:=by
 have e:l.map (·.s)=(List.range l.length).map fun k=>(l.getD k sp0).s:=by
  refine List.ext_getElem (by simp) fun i h1 h2=>?_
  simp at h1
  simp [List.getD_eq_getElem?_getD,h1]
 rw [e,List.filter_map,List.map_map]
 rfl
theorem idx_lt {L:Lt} {l:List Sp} {k:Nat} (h:k∈idxL L l):k<l.length∧finB L (l.getD k sp0).s=true:=by
 rw [idxL,List.mem_filter,List.mem_range] at h;exact h
theorem idx_inj {L:Lt} {o:Int} {l:List Sp} (h:WkNd L o l) {a b:Nat} (ha:a∈idxL L l) (hb:b∈idxL L l) (e:endF (l.getD a sp0).s=endF (l.getD b sp0).s):a=b:=by
 obtain ⟨h1,h2⟩:=idx_lt ha
 obtain ⟨g1,g2⟩:=idx_lt hb
 have:=fin_inj (h.toWkOk.at h1) (h.toWkOk.at g1) h2 g2 e
 have hn:=h.nd
 rw [List.nodup_iff_pairwise_ne,List.pairwise_iff_getElem] at hn
 have key:∀ i j (hi:i<l.length) (hj:j<l.length),(l.getD i sp0).s=(l.getD j sp0).s→¬ i<j:=fun i j hi hj q hij=>by
  refine hn i j (by simpa using hi) (by simpa using hj) hij ?_
  simp only [List.getElem_map]
  simpa only [List.getD_eq_getElem?_getD,List.getElem?_eq_getElem hi,List.getElem?_eq_getElem hj,Option.getD_some] using q
 rcases Nat.lt_trichotomy a b with q | q | q
 ·exact absurd q (key a b h1 g1 this)
 ·exact q
 ·exact absurd q (key b a g1 h1 this.symm)
theorem shp_idx {L:Lt} {o:Int} {l:List Sp} (h:WkNd L o l) {a b:Nat} (ha:a<l.length) (hb:b<l.length):(endF (l.getD a sp0).s).words.length=(endF (l.getD b sp0).s).words.length∧(endF (l.getD a sp0).s).regs.length=(endF (l.getD b sp0).s).regs.length:=by
 have h1:=(h.toWkOk.at ha).wf;have h2:=(h.toWkOk.at hb).wf
 exact ⟨h1.w.trans h2.w.symm,h1.r.trans h2.r.symm⟩
theorem ordI_eq {L:Lt} {o:Int} {l:List Sp} (h:WkNd L o l) {a b:Nat} (ha:a<l.length) (hb:b<l.length):ordI l a b=cmpL (numF (endF (l.getD a sp0).s)) (numF (endF (l.getD b sp0).s)):=by
 obtain ⟨h1,h2⟩:=shp_idx h ha hb
 exact ordF_eq h1 h2
theorem srt_idx {L:Lt} {o:Int} {l:List Sp} (h:WkNd L o l) {m:List Nat} (hp:m.Perm (idxL L l)) (hs:m.Pairwise fun a b=>ordI l a b≤0):m.map (fun k=>endF (l.getD k sp0).s)=finsL L (l.map (·.s)):=by
 have hw:∀ s∈l.map (·.s),WfT L o s:=fun s hs=>by
  rw [List.mem_map] at hs
  obtain ⟨x,hx,rfl⟩:=hs
  exact h.wf x hx
 obtain ⟨h1,h2⟩:=finsL_ok hw h.nd
 refine srt_unique ?_ ?_ h2
 ·refine (hp.map _).trans ?_
  rw [idx_map]
  exact h1.symm
 ·unfold SrtF
  rw [List.pairwise_map]
  have hnd:m.Nodup:=hp.nodup_iff.2 (List.nodup_range.filter _)
  refine List.Pairwise.imp_of_mem ?_ (hs.and hnd)
  intro a b ha hb hab
  obtain ⟨hab,hne⟩:=hab
  have ha':=hp.mem_iff.1 ha;have hb':=hp.mem_iff.1 hb
  rw [ordI_eq h (idx_lt ha').1 (idx_lt hb').1] at hab
  rw [← cmp_less]
  have:cmpL (numF (endF (l.getD a sp0).s)) (numF (endF (l.getD b sp0).s))≠0:=fun q=>by
   rw [cmp_zero] at q
   obtain ⟨k1,k2⟩:=shp_idx h (idx_lt ha').1 (idx_lt hb').1
   exact hne (idx_inj h ha' hb' (numF_inj k1 k2 q))
  omega
end Go.Proofs.Ytmcpdafmkkjlcaa.Z
namespace Go.Proofs.Ytmcpdafmkkjlcaa.Z
open Go Go.RowKit
theorem insF_at {x:Fn}:∀ {out:List Fn} {a:Nat},a≤out.length→(∀ k,k<a→lessL (numF (out.getD k ⟨[],[]⟩)) (numF x)=true)→(a<out.length→¬ lessL (numF (out.getD a ⟨[],[]⟩)) (numF x)=true)→insF x out=if a<out.length∧sameF (out.getD a ⟨[],[]⟩) x=true then out else out.take a++x :: out.drop a
 | [],a,h,_,_=>by
  have:a=0:=by simpa using h
  subst this
  simp [insF]
 | y :: out,0,h,_,h2=>by
  have h2:=h2 (by simp)
  simp only [List.getD_cons_zero] at h2
  simp only [insF,if_neg h2]
  by_cases e:sameF y x=true
  ·simp [e]
  ·simp [e]
 | y :: out,a+1,h,h1,h2=>by
  have h0:=h1 0 (by omega)
  simp only [List.getD_cons_zero] at h0
  have ih:=insF_at (x:=x) (out:=out) (a:=a) (by simpa using h) (fun k hk=>by simpa using h1 (k+1) (by omega)) (fun hk=>by simpa using h2 (by simpa using hk))
  simp only [insF,if_pos h0,ih]
  by_cases e:a<out.length∧sameF (out.getD a ⟨[],[]⟩) x=true
  ·rw [if_pos e,if_pos (by simpa using e)]
  ·rw [if_neg e,if_neg (by simpa using e)]
   simp
theorem insF_mem {x:Fn}:∀ {out:List Fn} {y:Fn},y∈insF x out→y=x∨y∈out
 | [],y,h=>by simp [insF] at h;exact Or.inl h
 | z :: out,y,h=>by
  simp only [insF] at h
  split at h
  ·rcases List.mem_cons.1 h with rfl | h
   ·exact Or.inr List.mem_cons_self
   ·exact (insF_mem h).imp id (List.mem_cons_of_mem _)
  ·split at h
   ·exact Or.inr h
   ·rcases List.mem_cons.1 h with rfl | h
    ·exact Or.inl rfl
    ·exact Or.inr h
theorem insF_len {x:Fn}:∀ {out:List Fn},(insF x out).length≤out.length+1
 | []=>by simp [insF]
 | z :: out=>by
  simp only [insF]
  split
  ·have:=insF_len (x:=x) (out:=out);simp;omega
  ·split <;> simp
structure FsOk (L:Lt) (n:Nat) (out:List Fn):Prop where
 len:out.length≤n
 sh:∀ f∈out,f.words.length=L.words.length∧f.regs.length=L.thr.length
theorem FsOk.at {L:Lt} {n:Nat} {out:List Fn} (h:FsOk L n out) {k:Nat} (hk:k<out.length):(out.getD k ⟨[],[]⟩).words.length=L.words.length∧(out.getD k ⟨[],[]⟩).regs.length=L.thr.length :=
 h.sh _ (by rw [List.getD_eq_getElem?_getD,List.getElem?_eq_getElem hk];exact List.getElem_mem hk)
theorem finsL_push {L:Lt} {l:List LS} {s:LS}:finsL L (l++[s])=if finB L s=true then insF (endF s) (finsL L l) else finsL L l:=by
 unfold finsL
 rw [List.filter_append,List.foldl_append]
 by_cases h:finB L s=true
 ·rw [if_pos h,List.filter_cons_of_pos h];rfl
 ·rw [if_neg h,List.filter_cons_of_neg h];rfl
theorem fsOk_push {L:Lt} {o:Int} {n:Nat} {out:List Fn} {s:LS} (h:FsOk L n out) (hs:WfT L o s):FsOk L (n+1) (insF (endF s) out) :=
 ⟨Nat.le_trans insF_len (Nat.succ_le_succ h.len),fun f hf=>by
  rcases insF_mem hf with rfl | hf
  ·exact ⟨hs.wf.w,hs.wf.r⟩
  ·exact h.sh f hf⟩
theorem FsOk.mono {L:Lt} {n m:Nat} {out:List Fn} (h:FsOk L n out) (hm:n≤m):FsOk L m out:=⟨Nat.le_trans h.len hm,h.sh⟩
theorem take_s {l:List Sp} {i:Nat} (h:i<l.length):(l.take (i+1)).map (·.s)=(l.take i).map (·.s)++[(l.getD i sp0).s]:=by
 rw [List.take_succ_eq_append_getElem h,List.map_append,List.getD_eq_getElem?_getD,List.getElem?_eq_getElem h];rfl
theorem fs_ok {L:Lt} {o:Int} {l:List Sp} (h:WkOk L o l):∀ i,i≤l.length→FsOk L i (finsL L ((l.take i).map (·.s)))
 | 0,_=>⟨Nat.le_refl _,fun f hf=>by simp [finsL] at hf⟩
 | i+1,hi=>by
  have ih:=fs_ok h i (by omega)
  rw [take_s (by omega),finsL_push]
  split
  ·exact fsOk_push ih (h.at (by omega))
  ·exact ih.mono (Nat.le_succ _)
def fn0:Fn:=⟨[],[]⟩
def foC (b:Nat) (l:List Fn) (k:Nat):List SC:=[.sl (b+1,k,0) 1 0 (l.getD k fn0).words.length none,.sl (b+2,k,0) 4 0 (l.getD k fn0).regs.length none]
def foW (l:List Fn) (k:Nat):Blk:=.ar (l.getD k fn0).words.length 1 (ats eI (l.getD k fn0).words 0) 3
def foR (l:List Fn) (k:Nat):Blk:=.ar (l.getD k fn0).regs.length 4 (ats R4.enc (l.getD k fn0).regs r40) 68
def foO (b:Nat) (l:List Fn):Own:=[(b,.one (.ar l.length 2 (foC b l) 67)),(b+1,.fam l.length (foW l)),(b+2,.fam l.length (foR l))]
theorem fo_at {C:Ctx} {E:Env} {S:St} {a:Act} {w:World} (hs:Sat C.B C.W C.w0 E S a w) {l:List Fn} (b k:Nat) (hk:k<l.length) (h1:look S.own (b+1)=some (.fam l.length (foW l))) (h2:look S.own (b+2)=some (.fam l.length (foR l))):FnR w ((SV.agg (foC b l k)).den E) (l.getD k fn0) :=
 ⟨_,_,by simp [foC,SV.den],arr_ownX (d:=0) hs (b+1,k,0) _ _ _ (by simp only [atN,h1,Fm.get,hk,and_self,if_true];rfl) rfl (Nat.le_refl _) (fun _ _=>rfl),arr_ownX (d:=r40) hs (b+2,k,0) _ _ _ (by simp only [atN,h2,Fm.get,hk,and_self,if_true];rfl) rfl (Nat.le_refl _) (fun _ _=>rfl)⟩
theorem fn_own {C:Ctx} {E:Env} {S:St} {a:Act} {w:World} (hs:Sat C.B C.W C.w0 E S a w) {f:Fn} (b:Nat) (h1:look S.own b=some (.one (.ar f.words.length 1 (ats eI f.words 0) 3))) (h2:look S.own (b+1)=some (.one (.ar f.regs.length 4 (ats R4.enc f.regs r40) 68))):FnR w ((SV.agg (fnS b f)).den E) f :=
 ⟨_,_,by simp [fnS,SV.den],own_at (d:=0) hs b _ h1 rfl,own_at (d:=r40) hs (b+1) _ h2 rfl⟩
theorem fo_same {q:Nat→Prop} {τ:Nat→Nat} {own:Own} {l:List Fn} (b:Nat) (q0:q b) (q1:q (b+1)) (q2:q (b+2)) (t0:τ b=b) (t1:τ (b+1)=b+1) (t2:τ (b+2)=b+2) (h0:look own b=some (.one (.ar l.length 2 (foC b l) 67))) (h1:look own (b+1)=some (.fam l.length (foW l))) (h2:look own (b+2)=some (.fam l.length (foR l))):OwnLe q (idσ τ) own (foO b l):=by
 refine ⟨⟨q0,?_⟩,⟨q1,fun k hk=>?_⟩,⟨q2,fun k hk=>?_⟩,trivial⟩
 ·simp only [idσ,t0,atN,h0,Fm.get,and_self,if_true]
  exact ⟨Nat.le_refl _,rfl,rfl,fun e _=>⟨by simp only [foC,SC.renL,SC.ren,idσ,t1,t2],by simp [foC,SC.okL,SC.okN,q1,q2]⟩⟩
 ·simp only [idσ,t1,atN,h1,Fm.get,hk,and_self,if_true];exact arLe_same
 ·simp only [idσ,t2,atN,h2,Fm.get,hk,and_self,if_true];exact arLe_same
def foσ (i a w r:Nat) (x:Nm):Nm :=
 if x.1=13 then (a,x.2) else if x.1=14∨x.1=15 then
  (if x.2.1<i then x else if x.2.1=i then (if x.1=14 then (w,0,0) else (r,0,0)) else (x.1,x.2.1 - 1,x.2.2))
 else x
theorem getD_ins {α:Type} {l:List α} {x d:α} {i k:Nat} (hi:i≤l.length) (hk:k<l.length+1):(l.take i++x :: l.drop i).getD k d=if k<i then l.getD k d else if k=i then x else l.getD (k - 1) d:=by
 have ht:(l.take i).length=i:=by simp;omega
 split
 ·next h=>rw [List.getD_eq_getElem?_getD,List.getElem?_append_left (by omega),List.getElem?_take_of_lt h,List.getD_eq_getElem?_getD]
 ·next h =>
  rw [List.getD_eq_getElem?_getD,List.getElem?_append_right (by omega),ht]
  split
  ·next e=>subst e;simp
  ·next e =>
   rw [show k - i=(k - i - 1)+1 by omega,List.getElem?_cons_succ,List.getElem?_drop,show i+(k - i - 1)=k - 1 by omega,List.getD_eq_getElem?_getD]
theorem fo_ins {q:Nat→Prop} {l:List Fn} {x:Fn} {O:Own} {i a w r m:Nat} {at_:Nat→List SC} (q0:q 13) (q1:q 14) (q2:q 15) (hi:i≤l.length) (hm:l.length+1≤m)
  (ha:look O a=some (.one (.ar m 2 at_ 67))) (h1:∀ e,e<i→at_ e=foC 13 l e) (h2:at_ i=[.sl (w,0,0) 1 0 x.words.length none,.sl (r,0,0) 4 0 x.regs.length none]) (h3:∀ e,i<e→e<l.length+1→at_ e=foC 13 l (e - 1))
  (hw:look O w=some (.one (.ar x.words.length 1 (ats eI x.words 0) 3))) (hr:look O r=some (.one (.ar x.regs.length 4 (ats R4.enc x.regs r40) 68))) (h14:look O 14=some (.fam l.length (foW l))) (h15:look O 15=some (.fam l.length (foR l))):OwnLe q (foσ i a w r) O (foO 13 (l.take i++x :: l.drop i)):=by
 have hle:(l.take i++x :: l.drop i).length=l.length+1:=by simp;omega
 have g:∀ k,k<l.length+1→(l.take i++x :: l.drop i).getD k fn0=if k<i then l.getD k fn0 else if k=i then x else l.getD (k - 1) fn0:=fun k hk=>getD_ins hi hk
 have s1:∀ y k e,y=14∨y=15→foσ i a w r (y,k,e)=if k<i then (y,k,e) else if k=i then (if y=14 then (w,0,0) else (r,0,0)) else (y,k - 1,e):=fun y k e h=>by
  have:¬ y=13:=by omega
  simp only [foσ,this,h,if_true,if_false]
 have s14:=fun k e=>s1 14 k e (Or.inl rfl)
 have s15:=fun k e=>s1 15 k e (Or.inr rfl)
 simp only [if_true,show ¬ (15=14) by decide,if_false] at s14 s15
 have cs:∀ k,k<l.length+1→k<i∨k=i∨(i<k∧¬ k<i∧¬ k=i∧k - 1<l.length):=fun k hk=>by omega
 refine ⟨⟨q0,?_⟩,⟨q1,fun k hk=>?_⟩,⟨q2,fun k hk=>?_⟩,trivial⟩
 ·simp only [foσ,if_true,atN,ha,Fm.get,and_self]
  refine ⟨by omega,rfl,rfl,fun e he=>⟨?_,by simp [foC,SC.okL,SC.okN,q1,q2]⟩⟩
  rw [hle] at he
  rcases cs e he with h | rfl | ⟨h,n1,n2,n3⟩
  ·rw [h1 e h]
   simp only [foC,SC.renL,SC.ren,Nat.reduceAdd,s14,s15,if_pos h,g e he]
  ·rw [h2]
   simp only [foC,SC.renL,SC.ren,Nat.reduceAdd,s14,s15,Nat.lt_irrefl,if_false,if_true,g e he]
  ·rw [h3 e h he]
   simp only [foC,SC.renL,SC.ren,Nat.reduceAdd,s14,s15,if_neg n1,if_neg n2,g e he]
 ·rw [hle] at hk
  simp only [Nat.reduceAdd]
  rw [s14]
  rcases cs k hk with h | rfl | ⟨h,n1,n2,n3⟩
  ·simp only [if_pos h,atN,h14,Fm.get,show k<l.length by omega,and_self,if_true,foW,g k hk];exact arLe_same
  ·simp only [Nat.lt_irrefl,if_false,if_true,atN,hw,Fm.get,and_self,foW,g k hk];exact arLe_same
  ·simp only [if_neg n1,if_neg n2,atN,h14,Fm.get,n3,and_self,if_true,foW,g k hk];exact arLe_same
 ·rw [hle] at hk
  simp only [Nat.reduceAdd]
  rw [s15]
  rcases cs k hk with h | rfl | ⟨h,n1,n2,n3⟩
  ·simp only [if_pos h,atN,h15,Fm.get,show k<l.length by omega,and_self,if_true,foR,g k hk];exact arLe_same
  ·simp only [Nat.lt_irrefl,if_false,if_true,atN,hr,Fm.get,and_self,foR,g k hk];exact arLe_same
  ·simp only [if_neg n1,if_neg n2,atN,h15,Fm.get,n3,and_self,if_true,foR,g k hk];exact arLe_same
theorem fo_keys {b:Nat} {l:List Fn} {x:Nm} {c:Blk} (h:atN (foO b l) x=some c):x=(b,0,0)∨(∃ k,k<l.length∧x=(b+1,k,0))∨∃ k,k<l.length∧x=(b+2,k,0):=by
 rcases atN_one h with ⟨rfl,_⟩ | h
 ·exact Or.inl rfl
 rcases atN_fam h with ⟨k,hk,rfl,_⟩ | h
 ·exact Or.inr (Or.inl ⟨k,hk,rfl⟩)
 rcases atN_fam h with ⟨k,hk,rfl,_⟩ | h
 ·exact Or.inr (Or.inr ⟨k,hk,rfl⟩)
 exact (atN_nil h).elim
theorem fo_inj {l:List Fn} {i a w r:Nat} {B:Own} (hd:noDup [a,w,r]=true) (hno:∀ z∈[a,w,r],15<z) (hk:∀ z∈keysL B,z<13):InjN (foσ i a w r) (foO 13 l++B):=by
 have ha:=hno a (by simp);have hw:=hno w (by simp);have hr:=hno r (by simp)
 have hne:a≠w∧a≠r∧w≠r:=by
  simp [noDup,memB] at hd
  omega
 have hBσ:∀ y d,atN B y=some d→y.1<13∧foσ i a w r y=y:=fun y d hy=>by
  obtain ⟨F,hF,_⟩:=atN_some hy
  have:=hk y.1 (look_keysL hF)
  refine ⟨this,?_⟩
  unfold foσ
  rw [if_neg (by omega),if_neg (by omega)]
 have s13:foσ i a w r (13,0,0)=(a,0,0):=rfl
 have s14:∀ k,foσ i a w r (13+1,k,0)=if k<i then (14,k,0) else if k=i then (w,0,0) else (14,k - 1,0):=fun k=>by simp [foσ]
 have s15:∀ k,foσ i a w r (13+2,k,0)=if k<i then (15,k,0) else if k=i then (r,0,0) else (15,k - 1,0):=fun k=>by simp [foσ]
 have hA:∀ x c,atN (foO 13 l) x=some c→13≤(foσ i a w r x).1:=fun x c hx=>by
  rcases fo_keys hx with rfl | ⟨k,_,rfl⟩ | ⟨k,_,rfl⟩
  ·rw [s13];simp only;omega
  ·rw [s14];split <;> (try split) <;> simp only <;> omega
  ·rw [s15];split <;> (try split) <;> simp only <;> omega
 refine injN_app ?_ ?_ ?_
 ·intro x y c d hx hy e
  have key:∀ k k' : Nat,∀ z v:Nat,15<v→(z=14∨z=15)→(if k<i then (z,k,0) else if k=i then (v,0,0) else (z,k - 1,0):Nm)=(if k' < i then (z,k',0) else if k' = i then (v,0,0) else (z,k' - 1,0))→k=k':=fun k k' z v hv hz e=>by
   (repeat' split at e) <;> simp only [Prod.mk.injEq] at e <;> omega
  have off:∀ k k' : Nat,(if k<i then (14,k,0) else if k=i then (w,0,0) else (14,k - 1,0):Nm)≠(if k' < i then (15,k',0) else if k' = i then (r,0,0) else (15,k' - 1,0)):=fun k k' e=>by
   (repeat' split at e) <;> simp only [Prod.mk.injEq] at e <;> omega
  have of1:∀ k:Nat,(a,0,0)≠(if k<i then (14,k,0) else if k=i then (w,0,0) else (14,k - 1,0):Nm):=fun k e=>by
   (repeat' split at e) <;> simp only [Prod.mk.injEq] at e <;> omega
  have of2:∀ k:Nat,(a,0,0)≠(if k<i then (15,k,0) else if k=i then (r,0,0) else (15,k - 1,0):Nm):=fun k e=>by
   (repeat' split at e) <;> simp only [Prod.mk.injEq] at e <;> omega
  rcases fo_keys hx with rfl | ⟨k,_,rfl⟩ | ⟨k,_,rfl⟩ <;> rcases fo_keys hy with rfl | ⟨k',_,rfl⟩ | ⟨k',_,rfl⟩
  ·rfl
  ·rw [s13,s14] at e;exact absurd e (of1 k')
  ·rw [s13,s15] at e;exact absurd e (of2 k')
  ·rw [s13,s14] at e;exact absurd e.symm (of1 k)
  ·rw [s14,s14] at e;rw [key k k' 14 w hw (Or.inl rfl) e]
  ·rw [s14,s15] at e;exact absurd e (off k k')
  ·rw [s13,s15] at e;exact absurd e.symm (of2 k)
  ·rw [s14,s15] at e;exact absurd e.symm (off k' k)
  ·rw [s15,s15] at e;rw [key k k' 15 r hr (Or.inr rfl) e]
 ·intro x y c d hx hy e
  rw [(hBσ x c hx).2,(hBσ y d hy).2] at e
  exact e
 ·intro x y c d hx hy e
  obtain ⟨h1,h2⟩:=hBσ y d hy
  have:=hA x c hx
  rw [e,h2] at this
  omega
end Go.Proofs.Ytmcpdafmkkjlcaa.Z
