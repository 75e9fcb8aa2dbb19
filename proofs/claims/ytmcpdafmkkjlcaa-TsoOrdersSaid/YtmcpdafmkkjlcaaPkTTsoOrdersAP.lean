/- TsoOrdersSaid: what its proof is made of. No condition. -/
import Derived.Test.YtmcpdafmkkjlcaaPkTTsoOrdersAO
set_option linter.unusedSimpArgs false
set_option linter.unusedVariables false
namespace Go.Proofs.Ytmcpdafmkkjlcaa.Z
open Go Go.RowKit
theorem least_ex {p:Nat→Prop}:∀ n,(∃ i,i<n∧p i)→∃ i,i<n∧p i∧∀ j,j<i→¬ p j:=by
 intro n
 induction n with
 | zero=>rintro ⟨i,h,_⟩;omega
 | succ n ih =>
  rintro ⟨i,hi,hp⟩
  by_cases h:∃ i,i<n∧p i
  ·obtain ⟨j,h1,h2,h3⟩:=ih h
   exact ⟨j,by omega,h2,h3⟩
  ·have:i=n:=by
    rcases Nat.lt_or_ge i n with h' | h'
    ·exact absurd ⟨i,h',hp⟩ h
    ·omega
   subst this
   exact ⟨i,hi,hp,fun j hj hpj=>h ⟨j,hj,hpj⟩⟩
theorem fin_least {L:Lt} {o:Int} {l:List Sp} {f:Fn} (hL:checkB L=true) (hb:bfs L o=some l) (hf:f∈finsL L (l.map (·.s))):∃ i,i<l.length∧(finB L (l.getD i sp0).s=true∧endF (l.getD i sp0).s=f)∧∀ j,j<i→¬ (finB L (l.getD j sp0).s=true∧endF (l.getD j sp0).s=f):=by
 obtain ⟨s,h1,h2,h3⟩:=(fins_mem hL hb).1 hf
 have hm:=(bfs_mem hL hb).2 h1
 rw [List.mem_map] at hm
 obtain ⟨x,hx,rfl⟩:=hm
 obtain ⟨i,hi,rfl⟩:=List.getElem_of_mem hx
 refine least_ex l.length ⟨i,hi,?_⟩
 rw [List.getD_eq_getElem?_getD,List.getElem?_eq_getElem hi]
 exact ⟨h2,h3⟩
def ir37:IR:=(.seq (.ops [⟨(some 3),(.box 25 (.t 0)),none⟩,⟨(some 5),(.box 67 (.t 2)),none⟩,⟨(some 6),(.mv (.k (.c (.v (.bool false))))),none⟩]) (.kill [0,2,4,6,7,8,9,10,11] (.seq (.ops [⟨(some 14),(.ld true 2 (.t 3)),none⟩,⟨(some 15),(.mv (.t 1)),none⟩,⟨(some 16),(.ld true 2 (.t 5)),none⟩,⟨(some 17),(.call 71 [(.t 14),(.t 15),(.t 16)]),none⟩,⟨(some 13),(.mv (.t 17)),none⟩,⟨(some 18),(.ext 0 (.t 13)),none⟩,⟨(some 19),(.ext 1 (.t 13)),none⟩,⟨(some 7),(.mv (.t 18)),none⟩,⟨(some 8),(.mv (.t 19)),none⟩]) (.kill [13,14,15,16,17,18,19] (.seq (.seq (.ops [⟨(some 20),(.mv (.t 8)),none⟩,⟨(some 21),(.call 14 [(.t 20)]),none⟩,⟨(some 22),(.bin .neq (.t 21) (.k (.c (.v (.int .i64 0))))),none⟩]) (.kill [8,20,21] (.cond (.t 22) (.seq (.ops [⟨(some 6),(.mv (.k (.c (.v (.bool false))))),none⟩]) (.kill [1,3,5,7,22] .ret)) .skip))) (.kill [6,22] (.seq (.seq (.ops [⟨(some 23),(.mv (.t 7)),none⟩,⟨(some 24),(.len (.t 23)),none⟩,⟨(some 25),(.bin .gtr (.t 24) (.k (.c (.v (.int .i64 4096))))),none⟩]) (.kill [23,24] (.cond (.t 25) (.seq (.ops [⟨(some 6),(.mv (.k (.c (.v (.bool false))))),none⟩]) (.kill [1,3,5,7,25] .ret)) .skip))) (.kill [6,25] (.seq (.ops [⟨(some 27),(.ld true 2 (.t 3)),none⟩,⟨(some 28),(.mv (.t 1)),none⟩,⟨(some 29),(.mv (.t 7)),none⟩,⟨(some 30),(.call 11 [(.t 27),(.t 28),(.t 29)]),none⟩,⟨(some 26),(.mv (.t 30)),none⟩,⟨(some 31),(.ext 0 (.t 26)),none⟩,⟨(some 32),(.ext 1 (.t 26)),none⟩,⟨(some 33),(.ext 2 (.t 26)),none⟩,⟨(some 9),(.new 32 [(.v (.slice none 0 0)),(.v (.slice none 0 0)),(.v (.slice none 0 0)),(.v (.slice none 0 0))]),none⟩,⟨none,(.st 4 (.t 9) (.t 31)),none⟩,⟨(some 10),(.mv (.t 32)),none⟩,⟨(some 11),(.mv (.t 33)),none⟩]) (.kill [1,26,27,28,29,30,31,32,33] (.seq (.seq (.ops [⟨(some 34),(.mv (.t 11)),none⟩,⟨(some 35),(.call 14 [(.t 34)]),none⟩,⟨(some 36),(.bin .neq (.t 35) (.k (.c (.v (.int .i64 0))))),none⟩,⟨(some 37),(.mv (.t 36)),none⟩,⟨(some 38),(.mv (.t 10)),(some (37,false))⟩,⟨(some 39),(.mv (.t 7)),(some (37,false))⟩,⟨(some 40),(.len (.t 39)),(some (37,false))⟩,⟨(some 41),(.bin .neq (.t 38) (.t 40)),(some (37,false))⟩,⟨(some 42),(.pick (.t 37) (.k (.c (.v (.bool true)))) (.t 41)),none⟩,⟨(some 43),(.mv (.t 42)),none⟩,⟨(some 44),(.fa 0 (.t 9)),(some (43,false))⟩,⟨(some 45),(.ld false 1 (.t 44)),(some (43,false))⟩,⟨(some 46),(.fa 0 (.t 5)),(some (43,false))⟩,⟨(some 47),(.ld false 1 (.t 46)),(some (43,false))⟩,⟨(some 48),(.call 41 [(.t 45),(.t 47)]),(some (43,false))⟩,⟨(some 49),(.un .not (.t 48)),(some (43,false))⟩,⟨(some 50),(.pick (.t 43) (.k (.c (.v (.bool true)))) (.t 49)),none⟩,⟨(some 51),(.mv (.t 50)),none⟩,⟨(some 52),(.fa 1 (.t 9)),(some (51,false))⟩,⟨(some 53),(.ld false 1 (.t 52)),(some (51,false))⟩,⟨(some 54),(.len (.t 53)),(some (51,false))⟩,⟨(some 55),(.fa 1 (.t 5)),(some (51,false))⟩,⟨(some 56),(.ld false 1 (.t 55)),(some (51,false))⟩,⟨(some 57),(.len (.t 56)),(some (51,false))⟩,⟨(some 58),(.bin .neq (.t 54) (.t 57)),(some (51,false))⟩,⟨(some 59),(.pick (.t 51) (.k (.c (.v (.bool true)))) (.t 58)),none⟩]) (.kill [7,10,11,34,35,36,37,38,39,40,41,42,43,44,45,46,47,48,49,50,51,52,53,54,55,56,57,58] (.cond (.t 59) (.seq (.ops [⟨(some 6),(.mv (.k (.c (.v (.bool false))))),none⟩]) (.kill [3,5,9,59] .ret)) .skip))) (.kill [6,59] (.seq (.seq (.ops [⟨(some 12),(.mv (.k (.c (.v (.int .i64 0))))),none⟩]) (.blk 0 (.loop (.seq (.seq (.ops [⟨(some 60),(.mv (.t 12)),none⟩,⟨(some 61),(.fa 1 (.t 9)),none⟩,⟨(some 62),(.ld false 1 (.t 61)),none⟩,⟨(some 63),(.len (.t 62)),none⟩,⟨(some 64),(.bin .lss (.t 60) (.t 63)),none⟩]) (.kill [6,60,61,62,63,65,66,67,68,69,70,71,72,73,74,75,76,77,78,79,80,81,82,83,84,85,86,87,88,89,90,91,92,93,94,95,96,97,98,99,100,101,102,103,104,105,106,107,108,109,110,111,112,113,114,115,116,117,118,119,120,121] (.cond (.t 64) .skip (.exit 0)))) (.kill [64] (.seq (.blk 1 (.seq (.draw [(⟨(some 67),(.fa 1 (.t 9)),none⟩,([],[69,72,73,74,75,76])),(⟨(some 68),(.ld false 1 (.t 67)),none⟩,([],[69,72,73,74,75,76])),(⟨(some 69),(.mv (.t 12)),none⟩,([0,1],[67,68,72,73,74,75,76])),(⟨(some 70),(.ia 4 (.t 68) (.t 69)),none⟩,([],[72,73,74,75,76])),(⟨(some 71),(.ld true 4 (.t 70)),none⟩,([],[72,73,74,75,76])),(⟨(some 72),(.fa 1 (.t 5)),none⟩,([0,1,2,3,4],[67,68,69,70,71,74])),(⟨(some 73),(.ld false 1 (.t 72)),none⟩,([0,1,2,3,4],[67,68,69,70,71,74])),(⟨(some 74),(.mv (.t 12)),none⟩,([0,1,2,3,4,5,6],[67,68,69,70,71,72,73])),(⟨(some 75),(.ia 4 (.t 73) (.t 74)),none⟩,([0,1,2,3,4],[67,68,69,70,71])),(⟨(some 76),(.ld true 4 (.t 75)),none⟩,([0,1,2,3,4],[67,68,69,70,71])),(⟨(some 77),(.eqa true [true,true,true,true] (.t 71) (.t 76)),none⟩,([],[])),(⟨(some 78),(.mv (.t 77)),none⟩,([],[])),(⟨(some 79),(.mv (.t 12)),(some (78,false))⟩,([],[80,81,82])),(⟨(some 80),(.fa 1 (.t 3)),(some (78,false))⟩,([12],[79])),(⟨(some 81),(.ld false 1 (.t 80)),(some (78,false))⟩,([12],[79])),(⟨(some 82),(.len (.t 81)),(some (78,false))⟩,([12],[79])),(⟨(some 83),(.bin .geq (.t 79) (.t 82)),(some (78,false))⟩,([],[])),(⟨(some 84),(.pick (.t 78) (.k (.c (.v (.bool true)))) (.t 83)),none⟩,([],[])),(⟨(some 85),(.mv (.t 84)),none⟩,([],[])),(⟨(some 86),(.mv (.t 12)),(some (85,false))⟩,([],[87,88,89])),(⟨(some 87),(.fa 2 (.t 9)),(some (85,false))⟩,([19],[86])),(⟨(some 88),(.ld false 1 (.t 87)),(some (85,false))⟩,([19],[86])),(⟨(some 89),(.len (.t 88)),(some (85,false))⟩,([19],[86])),(⟨(some 90),(.bin .geq (.t 86) (.t 89)),(some (85,false))⟩,([],[])),(⟨(some 91),(.pick (.t 85) (.k (.c (.v (.bool true)))) (.t 90)),none⟩,([],[])),(⟨(some 92),(.mv (.t 91)),none⟩,([],[])),(⟨(some 93),(.mv (.t 12)),(some (92,false))⟩,([],[94,95,96])),(⟨(some 94),(.fa 3 (.t 9)),(some (92,false))⟩,([26],[93])),(⟨(some 95),(.ld false 1 (.t 94)),(some (92,false))⟩,([26],[93])),(⟨(some 96),(.len (.t 95)),(some (92,false))⟩,([26],[93])),(⟨(some 97),(.bin .geq (.t 93) (.t 96)),(some (92,false))⟩,([],[])),(⟨(some 98),(.pick (.t 92) (.k (.c (.v (.bool true)))) (.t 97)),none⟩,([],[])),(⟨(some 99),(.mv (.t 98)),none⟩,([],[])),(⟨(some 100),(.fa 2 (.t 9)),(some (99,false))⟩,([],[102,105,106,107,108,109,110])),(⟨(some 101),(.ld false 1 (.t 100)),(some (99,false))⟩,([],[102,105,106,107,108,109,110])),(⟨(some 102),(.mv (.t 12)),(some (99,false))⟩,([33,34],[100,101,105,106,107,108,109,110])),(⟨(some 103),(.ia 1 (.t 101) (.t 102)),(some (99,false))⟩,([],[105,106,107,108,109,110])),(⟨(some 104),(.ld false 1 (.t 103)),(some (99,false))⟩,([],[105,106,107,108,109,110])),(⟨(some 105),(.fa 1 (.t 3)),(some (99,false))⟩,([33,34,35,36,37],[100,101,102,103,104,107])),(⟨(some 106),(.ld false 1 (.t 105)),(some (99,false))⟩,([33,34,35,36,37],[100,101,102,103,104,107])),(⟨(some 107),(.mv (.t 12)),(some (99,false))⟩,([33,34,35,36,37,38,39],[100,101,102,103,104,105,106])),(⟨(some 108),(.ia 1 (.t 106) (.t 107)),(some (99,false))⟩,([33,34,35,36,37],[100,101,102,103,104])),(⟨(some 109),(.ld false 1 (.t 108)),(some (99,false))⟩,([33,34,35,36,37],[100,101,102,103,104])),(⟨(some 110),(.len (.t 109)),(some (99,false))⟩,([33,34,35,36,37],[100,101,102,103,104])),(⟨(some 111),(.bin .neq (.t 104) (.t 110)),(some (99,false))⟩,([],[])),(⟨(some 112),(.pick (.t 99) (.k (.c (.v (.bool true)))) (.t 111)),none⟩,([],[])),(⟨(some 113),(.mv (.t 112)),none⟩,([],[])),(⟨(some 114),(.fa 3 (.t 9)),(some (113,false))⟩,([],[116])),(⟨(some 115),(.ld false 1 (.t 114)),(some (113,false))⟩,([],[116])),(⟨(some 116),(.mv (.t 12)),(some (113,false))⟩,([47,48],[114,115])),(⟨(some 117),(.ia 1 (.t 115) (.t 116)),(some (113,false))⟩,([],[])),(⟨(some 118),(.ld false 1 (.t 117)),(some (113,false))⟩,([],[])),(⟨(some 119),(.len (.t 118)),(some (113,false))⟩,([],[])),(⟨(some 120),(.bin .gtr (.t 119) (.k (.c (.v (.int .i64 0))))),(some (113,false))⟩,([],[])),(⟨(some 121),(.pick (.t 113) (.k (.c (.v (.bool true)))) (.t 120)),none⟩,([],[]))]) (.kill [67,68,69,70,71,72,73,74,75,76,77,78,79,80,81,82,83,84,85,86,87,88,89,90,91,92,93,94,95,96,97,98,99,100,101,102,103,104,105,106,107,108,109,110,111,112,113,114,115,116,117,118,119,120] (.cond (.t 121) (.seq (.ops [⟨(some 6),(.mv (.k (.c (.v (.bool false))))),none⟩]) (.kill [3,5,9,12,121] .ret)) .skip)))) (.kill [6,67,68,69,70,71,72,73,74,75,76,77,78,79,80,81,82,83,84,85,86,87,88,89,90,91,92,93,94,95,96,97,98,99,100,101,102,103,104,105,106,107,108,109,110,111,112,113,114,115,116,117,118,119,120,121] (.ops [⟨(some 65),(.mv (.t 12)),none⟩,⟨(some 66),(.bin .add (.t 65) (.k (.c (.v (.int .i64 1))))),none⟩,⟨(some 12),(.mv (.t 66)),none⟩])))))))) (.kill [3,5,6,9,12,60,61,62,63,64,65,66,67,68,69,70,71,72,73,74,75,76,77,78,79,80,81,82,83,84,85,86,87,88,89,90,91,92,93,94,95,96,97,98,99,100,101,102,103,104,105,106,107,108,109,110,111,112,113,114,115,116,117,118,119,120,121] (.seq (.ops [⟨(some 6),(.mv (.k (.c (.v (.bool true))))),none⟩]) .ret)))))))))))))))
def rs37:List RS:=[(.t 6)]
def nt37:Nat:=122
set_option maxRecDepth 100000 in
set_option maxHeartbeats 1000000 in
theorem reached_calls (w:World) (v v' : Value) (L:Lt) (o:Int) (f:Fn) (hL:checkB L=true) (ho:1≤o∧o≤3) (hok:LtOk L) (h:LtR w v L) (h' : FnR w v' f) {l:List Sp} (hb:bfs L o=some l) (hf:f∈finsL L (l.map (·.s))) :
  Calls Try.prog 37 #[v,.int .i64 o,v'] w (RetV w (.bool true)):=by
 obtain ⟨i0,hi0,⟨hf0,he0⟩,hmin⟩:=fin_least hL hb hf
 refine enterLtF (A:=[]) (c:=ir37) (rs:=rs37) (nt:=nt37) h h' [.agg (ltS 0),.c (.v (.int .i64 o)),.agg (fnX 3)] _ Try.func37 rfl (by kernel_rfl) (by kernel_rfl) rfl (fun E' h0 h1=>by simp only [List.map_cons,List.map_nil,h0,h1];rfl) (of_decide_eq_true rfl) ?_
 have hnd:=bfs_ok hL hb
 have hwi:=hnd.toWkOk.at hi0
 have hfb:=finB_iff.1 hf0
 have h80:=way_80 hL hb hi0
 have hrun:=way_run (bfs_chain hb) i0 i0 (Nat.le_refl _) hi0
 have hRC:∀ (w' : World) (u u' : Value),LtR w' u L→FnR w' u' f→Calls Try.prog 71 #[u,.int .i64 o,u'] w' (RetN w' 1 (leT 3 (wayI l i0).length 0) (lsO 44 3 Tn.enc (wayI l i0).reverse tn0)):=fun w' u u' g g'=>reach_calls w' u u' L o f hL ho hok g g' hb hi0 hf0 he0 (fun j hj h1 h2=>hmin j hj ⟨h1,h2⟩)
 subst he0
 generalize (l.getD i0 sp0).s=s at hwi hfb hrun hRC
 generalize hts:(wayI l i0).reverse=ts at hrun hRC
 have htl:(wayI l i0).length=ts.length:=by rw [← hts,List.length_reverse]
 rw [htl] at hrun h80 hRC
 have hrT:runT L o ts ts.length=(s,ts.length):=by unfold runT;rw [List.take_length];exact hrun
 have dl:decide ((ts.length:Int)>4096)=false:=decide_eq_false (by omega)
 simp (maxSteps:=2000000) only [ir37,nt37,rs37,go_sem,↓reduceIte,Nat.reduceLT,Nat.reduceLeDiff,Nat.reduceAdd,Nat.reduceSub,Nat.reduceMul,Nat.reduceEqDiff,reduceCtorEq,Int.reduceToNat,Int.reduceEq,Int.reduceBEq,Int.reduceBNe,Int.reduceLT,Int.reduceLE,Int.reduceNeg,Int.reduceAdd,Int.reduceSub,Int.reduceMul,Int.reduceGE,Int.reduceGT,endO,ltA,ltS,fnA,fnX,endF,List.cons_append,List.nil_append]
 refine callN 1 (leT 3 ts.length 0) (lsO 44 3 Tn.enc ts tn0) (fun E a w' hs=>hRC w' _ _ (ltL_at hs rfl rfl rfl) (fn_at hs 3 rfl rfl)) ?_
 simp (maxSteps:=2000000) only [go_sem,↓reduceIte,Nat.reduceLT,Nat.reduceLeDiff,Nat.reduceAdd,Nat.reduceSub,Nat.reduceMul,Nat.reduceEqDiff,reduceCtorEq,Int.reduceToNat,Int.reduceEq,Int.reduceBEq,Int.reduceBNe,Int.reduceLT,Int.reduceLE,Int.reduceNeg,Int.reduceAdd,Int.reduceSub,Int.reduceMul,Int.reduceGE,Int.reduceGT,endO,leT,lsO]
 refine callV (.c (.v (.int .i64 0))) _ (fun E=>rfl) (fun E a w' hs=>num_calls w' _) ?_
 simp (maxSteps:=2000000) only [go_sem,↓reduceIte,Nat.reduceLT,Nat.reduceLeDiff,Nat.reduceAdd,Nat.reduceSub,Nat.reduceMul,Nat.reduceEqDiff,reduceCtorEq,Int.reduceToNat,Int.reduceEq,Int.reduceBEq,Int.reduceBNe,Int.reduceLT,Int.reduceLE,Int.reduceNeg,Int.reduceAdd,Int.reduceSub,Int.reduceMul,Int.reduceGE,Int.reduceGT,endO,dl]
 refine callN 5 (rnT s ts.length) (fun b=>stO b s) (fun E a w' hs=>by
  have:=run_calls w' _ _ L o ts hL hok ho (by omega) (ltL_at hs rfl rfl rfl) (own_at (d:=tn0) hs 7 _ rfl rfl)
  rw [hrT] at this
  exact this) ?_
 simp (maxSteps:=2000000) only [go_sem,↓reduceIte,Nat.reduceLT,Nat.reduceLeDiff,Nat.reduceAdd,Nat.reduceSub,Nat.reduceMul,Nat.reduceEqDiff,reduceCtorEq,Int.reduceToNat,Int.reduceEq,Int.reduceBEq,Int.reduceBNe,Int.reduceLT,Int.reduceLE,Int.reduceNeg,Int.reduceAdd,Int.reduceSub,Int.reduceMul,Int.reduceGE,Int.reduceGT,endO,rnT,stO,stC]
 refine callV (.c (.v (.int .i64 0))) _ (fun E=>rfl) (fun E a w' hs=>num_calls w' _) ?_
 simp (maxSteps:=2000000) only [go_sem,↓reduceIte,Nat.reduceLT,Nat.reduceLeDiff,Nat.reduceAdd,Nat.reduceSub,Nat.reduceMul,Nat.reduceEqDiff,reduceCtorEq,Int.reduceToNat,Int.reduceEq,Int.reduceBEq,Int.reduceBNe,Int.reduceLT,Int.reduceLE,Int.reduceNeg,Int.reduceAdd,Int.reduceSub,Int.reduceMul,Int.reduceGE,Int.reduceGT,endO]
 refine guardW (.c (.v (.bool true))) _ (fun E=>rfl) (fun E a w' hs=>by
  have:=sintsD_calls w' _ _ s.words s.words (own_at (d:=0) hs 8 _ rfl rfl) (arr_at (d:=0) hs 3 rfl)
  rw [decide_eq_true rfl] at this
  exact this) ?_
 simp (maxSteps:=2000000) only [go_sem,↓reduceIte,Nat.reduceLT,Nat.reduceLeDiff,Nat.reduceAdd,Nat.reduceSub,Nat.reduceMul,Nat.reduceEqDiff,reduceCtorEq,Int.reduceToNat,Int.reduceEq,Int.reduceBEq,Int.reduceBNe,Int.reduceLT,Int.reduceLE,Int.reduceNeg,Int.reduceAdd,Int.reduceSub,Int.reduceMul,Int.reduceGE,Int.reduceGT,endO]
 refine loopI (ι:={ t:Nat // t≤s.regs.length }) (fun t=>⟨122,[(3,.c (.ptr (5,0,0) 0)),(5,.c (.ptr (6,0,0) 0)),(9,.c (.ptr (13,0,0) 0)),(12,.c (.v (.int .i64 (t.1:Nat))))],
  [(5,.one (.bk [.xv (0,0,0),.xv (1,0,0)] 25)),(6,.one (.bk [.xv (3,0,0),.xv (4,0,0)] 67)),(7,.one (.ar ts.length 3 (ats Tn.enc ts tn0) 44)),(12,.fam s.bufs.length (bfO s)),(11,.one (.ar s.bufs.length 1 (bfC 12 s) 86)),(10,.one (.ar s.places.length 1 (ats eI s.places 0) 3)),(9,.one (.ar s.regs.length 4 (ats R4.enc s.regs r40) 68)),(8,.one (.ar s.words.length 1 (ats eI s.words 0) 3)),(13,.one (.bk [.sl (8,0,0) 1 0 s.words.length none,.sl (9,0,0) 4 0 s.regs.length none,.sl (10,0,0) 1 0 s.places.length none,.sl (11,0,0) 1 0 s.bufs.length none] 32))],ltA 0 L++fnA 3 ⟨s.words,s.regs⟩,[],14⟩) (fun t=>s.regs.length - t.1) ⟨0,by omega⟩ (le_tmps (by simp [TmpsSub,look])) ?_
 rintro ⟨t,ht⟩
 simp (maxSteps:=2000000) only [go_sem,↓reduceIte,Nat.reduceLT,Nat.reduceLeDiff,Nat.reduceAdd,Nat.reduceSub,Nat.reduceMul,Nat.reduceEqDiff,reduceCtorEq,Int.reduceToNat,Int.reduceEq,Int.reduceBEq,Int.reduceBNe,Int.reduceLT,Int.reduceLE,Int.reduceNeg,Int.reduceAdd,Int.reduceSub,Int.reduceMul,Int.reduceGE,Int.reduceGT,endO,ltA,fnA,List.cons_append,List.nil_append]
 refine both (fun hlt=>?_) (fun hge=>?_)
 ·have hlt:t<s.regs.length:=by
   have:=of_decide_eq_true hlt
   omega
  have hr:=hwi.wf.r;have hp:=hwi.wf.p;have hbl:=hwi.wf.b
  have d1:decide ((t:Int)≥(L.thr.length:Int))=false:=decide_eq_false (by omega)
  have d2:decide ((t:Int)≥(s.places.length:Int))=false:=decide_eq_false (by omega)
  have d3:decide ((t:Int)≥(s.bufs.length:Int))=false:=decide_eq_false (by omega)
  obtain ⟨e1,e2⟩:=hfb t (by omega)
  refine draw_vc (by kernel_rfl) (mkTab_ok _ _) (of_decide_eq_true rfl) (of_decide_eq_true rfl) ?_
  repeat (first | simp (maxSteps:=2000000) only [go_sem,↓reduceIte,Nat.reduceLT,Nat.reduceLeDiff,Nat.reduceAdd,Nat.reduceSub,Nat.reduceMul,Nat.reduceEqDiff,reduceCtorEq,Int.reduceToNat,Int.reduceEq,Int.reduceBEq,Int.reduceBNe,Int.reduceLT,Int.reduceLE,Int.reduceNeg,Int.reduceAdd,Int.reduceSub,Int.reduceMul,Int.reduceGE,Int.reduceGT,endO,R4.enc,ats,eI,bfC,d1,d2,d3,e1,e2] | rw [dr_cons])
  have hz4:=(sz_at hL).2.1
  have h1:t<s.places.length:=by omega
  have h2:t<L.thr.length:=by omega
  have h3:t<s.bufs.length:=by omega
  rw [wr_succ (by omega)]
  refine ⟨⟨hlt,Nat.le_refl _⟩,hlt,hlt,hlt,⟨h1,Nat.le_refl _⟩,h1,h2,h2,h2,⟨h3,Nat.le_refl _⟩,h3,?_⟩
  exact backI ⟨t+1,hlt⟩ (by simp only;omega) (le_tmps (by simp [TmpsSub,look]))
 ·exact retV fun E=>by simp [SV.den,SC.den]
end Go.Proofs.Ytmcpdafmkkjlcaa.Z
namespace Go.Proofs.Ytmcpdafmkkjlcaa.Z
open Go Go.RowKit
def ir38:IR:=(.seq (.ops [⟨(some 4),(.mv (.k (.c (.v (.bool false))))),none⟩]) (.kill [2,3,4,5,6,7,8,9,10,11] (.seq (.seq (.ops [⟨(some 5),(.mv (.k (.c (.v (.int .i64 0))))),none⟩]) (.blk 0 (.loop (.seq (.seq (.ops [⟨(some 8),(.mv (.t 5)),none⟩,⟨(some 9),(.mv (.t 0)),none⟩,⟨(some 10),(.len (.t 9)),none⟩,⟨(some 11),(.bin .lss (.t 8) (.t 10)),none⟩]) (.kill [4,6,7,8,9,10,12,13,14,15,16,17,18,19,20,21,22,23,24,25,26,27,28,29,30,31,32,33] (.cond (.t 11) .skip (.exit 0)))) (.kill [11] (.seq (.blk 1 (.seq (.ops [⟨(some 6),(.mv (.k (.c (.v (.bool false))))),none⟩]) (.seq (.seq (.ops [⟨(some 7),(.mv (.k (.c (.v (.int .i64 0))))),none⟩]) (.blk 2 (.loop (.seq (.seq (.ops [⟨(some 14),(.mv (.t 7)),none⟩,⟨(some 15),(.mv (.t 1)),none⟩,⟨(some 16),(.len (.t 15)),none⟩,⟨(some 17),(.bin .lss (.t 14) (.t 16)),none⟩]) (.kill [14,15,16,18,19,20,21,22,23,24,25,26,27,28,29,30,31] (.cond (.t 17) .skip (.exit 2)))) (.kill [17] (.seq (.blk 3 (.draw [(⟨(some 20),(.mv (.t 6)),none⟩,([],[])),(⟨(some 21),(.mv (.t 20)),none⟩,([],[])),(⟨(some 22),(.mv (.t 0)),(some (21,false))⟩,([],[23,26,27,28,29])),(⟨(some 23),(.mv (.t 5)),(some (21,false))⟩,([2],[22,26,27,28,29])),(⟨(some 24),(.ia 2 (.t 22) (.t 23)),(some (21,false))⟩,([],[26,27,28,29])),(⟨(some 25),(.ld true 2 (.t 24)),(some (21,false))⟩,([],[26,27,28,29])),(⟨(some 26),(.mv (.t 1)),(some (21,false))⟩,([2,3,4,5],[22,23,24,25,27])),(⟨(some 27),(.mv (.t 7)),(some (21,false))⟩,([2,3,4,5,6],[22,23,24,25,26])),(⟨(some 28),(.ia 2 (.t 26) (.t 27)),(some (21,false))⟩,([2,3,4,5],[22,23,24,25])),(⟨(some 29),(.ld true 2 (.t 28)),(some (21,false))⟩,([2,3,4,5],[22,23,24,25])),(⟨(some 30),(.call 60 [(.t 25),(.t 29)]),(some (21,false))⟩,([],[])),(⟨(some 31),(.pick (.t 21) (.k (.c (.v (.bool true)))) (.t 30)),none⟩,([],[])),(⟨(some 6),(.mv (.t 31)),none⟩,([],[]))])) (.kill [20,21,22,23,24,25,26,27,28,29,30,31] (.ops [⟨(some 18),(.mv (.t 7)),none⟩,⟨(some 19),(.bin .add (.t 18) (.k (.c (.v (.int .i64 1))))),none⟩,⟨(some 7),(.mv (.t 19)),none⟩])))))))) (.kill [7,14,15,16,17,18,19,20,21,22,23,24,25,26,27,28,29,30,31] (.seq (.ops [⟨(some 32),(.mv (.t 6)),none⟩,⟨(some 33),(.un .not (.t 32)),none⟩]) (.kill [6,32] (.cond (.t 33) (.seq (.ops [⟨(some 4),(.mv (.k (.c (.v (.bool false))))),none⟩]) (.kill [0,1,5,33] .ret)) .skip))))))) (.kill [4,6,7,14,15,16,17,18,19,20,21,22,23,24,25,26,27,28,29,30,31,32,33] (.ops [⟨(some 12),(.mv (.t 5)),none⟩,⟨(some 13),(.bin .add (.t 12) (.k (.c (.v (.int .i64 1))))),none⟩,⟨(some 5),(.mv (.t 13)),none⟩])))))))) (.kill [0,1,4,5,6,7,8,9,10,11,12,13,14,15,16,17,18,19,20,21,22,23,24,25,26,27,28,29,30,31,32,33] (.seq (.ops [⟨(some 4),(.mv (.k (.c (.v (.bool true))))),none⟩]) .ret)))))
def rs38:List RS:=[(.t 4)]
def nt38:Nat:=34
theorem mem_take {α:Type} {l:List α} {d x:α} {k:Nat} (h:k<l.length):x∈l.take (k+1)↔x∈l.take k∨x=l.getD k d:=by
 rw [List.take_succ_eq_append_getElem h,List.mem_append,List.mem_singleton,List.getD_eq_getElem?_getD,List.getElem?_eq_getElem h];rfl
set_option maxRecDepth 100000 in
set_option maxHeartbeats 1000000 in
theorem among_calls (w:World) (v v' : Value) (xs ys:List Fn) (hsub:∀ x∈xs,x∈ys) (h:FnsR w v xs) (h' : FnsR w v' ys):Calls Try.prog 38 #[v,v'] w (RetV w (.bool true)):=by
 have hml:=fns_len h
 have hml':=fns_len h'
 refine enterFns2 (A:=[]) (c:=ir38) (rs:=rs38) (nt:=nt38) h h' Try.func38 rfl (by kernel_rfl) (by kernel_rfl) rfl (of_decide_eq_true rfl) ?_
 simp (maxSteps:=2000000) only [ir38,nt38,rs38,go_sem,↓reduceIte,Nat.reduceLT,Nat.reduceLeDiff,Nat.reduceAdd,Nat.reduceSub,Nat.reduceMul,Nat.reduceEqDiff,reduceCtorEq,Int.reduceToNat,Int.reduceEq,Int.reduceBEq,Int.reduceBNe,Int.reduceLT,Int.reduceLE,Int.reduceNeg,Int.reduceAdd,Int.reduceSub,Int.reduceMul,Int.reduceGE,Int.reduceGT,endO,fsA,fsF_len,fsF_size,fsF_at,List.cons_append,List.nil_append]
 refine loopI (ι:={ i:Nat // i≤xs.length }) (fun i=>⟨34,[(0,.c (.xv (0,0,0))),(1,.c (.xv (3,0,0))),(5,.c (.v (.int .i64 (i.1:Nat))))],[],fsA 0 xs++fsA 3 ys,[],6⟩)
  (fun i=>xs.length - i.1) ⟨0,by omega⟩ (le_ren id rfl rfl (by simp [TmpsLe,look,SV.ren,SC.ren,SC.renL,ren1L,ren1,idσ,SV.okN,SC.okN,SC.okL,ok1L]) trivial (by simp +contextual [fsA,ArrsLe,ArrLeO,atN,look,Fm.get,idσ,arrLe_of,arrLe_0,arrLe_fs]) rfl) ?_
 rintro ⟨i,hi⟩
 simp (maxSteps:=2000000) only [go_sem,↓reduceIte,Nat.reduceLT,Nat.reduceLeDiff,Nat.reduceAdd,Nat.reduceSub,Nat.reduceMul,Nat.reduceEqDiff,reduceCtorEq,Int.reduceToNat,Int.reduceEq,Int.reduceBEq,Int.reduceBNe,Int.reduceLT,Int.reduceLE,Int.reduceNeg,Int.reduceAdd,Int.reduceSub,Int.reduceMul,Int.reduceGE,Int.reduceGT,endO,fsA,fsF_len,fsF_size,fsF_at,List.cons_append,List.nil_append]
 refine both (fun hlt=>?_) (fun hge=>?_)
 ·rw [decide_eq_true_eq] at hlt
  have hlt:i<xs.length:=by omega
  refine loopI (ι:={ k:Nat // k≤ys.length }) (fun k=>⟨34,[(0,.c (.xv (0,0,0))),(1,.c (.xv (3,0,0))),(5,.c (.v (.int .i64 i))),(6,.c (.v (.bool (decide (xs.getD i fn0∈ys.take k.1))))),(7,.c (.v (.int .i64 (k.1:Nat))))],[],fsA 0 xs++fsA 3 ys,[],6⟩)
   (fun k=>ys.length - k.1) ⟨0,by omega⟩ (le_ren id rfl rfl (by simp [TmpsLe,look,SV.ren,SC.ren,idσ,SV.okN,SC.okN]) trivial (by simp +contextual [fsA,ArrsLe,ArrLeO,atN,look,Fm.get,idσ,arrLe_of,arrLe_0,arrLe_fs]) rfl) ?_
  rintro ⟨k,hk⟩
  by_cases hin:xs.getD i fn0∈ys.take k
  ·have di:decide (xs.getD i fn0∈ys.take k)=true:=decide_eq_true hin
   simp (maxSteps:=2000000) only [go_sem,↓reduceIte,Nat.reduceLT,Nat.reduceLeDiff,Nat.reduceAdd,Nat.reduceSub,Nat.reduceMul,Nat.reduceEqDiff,reduceCtorEq,Int.reduceToNat,Int.reduceEq,Int.reduceBEq,Int.reduceBNe,Int.reduceLT,Int.reduceLE,Int.reduceNeg,Int.reduceAdd,Int.reduceSub,Int.reduceMul,Int.reduceGE,Int.reduceGT,endO,fsA,fsF_len,fsF_size,fsF_at,List.cons_append,List.nil_append,di]
   refine both (fun hltk=>?_) (fun hgek=>?_)
   ·have hltk:k<ys.length:=by
     have:=of_decide_eq_true hltk
     omega
    refine draw_vc (by kernel_rfl) (mkTab_ok _ _) (of_decide_eq_true rfl) (of_decide_eq_true rfl) ?_
    repeat (first | simp (maxSteps:=2000000) only [go_sem,↓reduceIte,Nat.reduceLT,Nat.reduceLeDiff,Nat.reduceAdd,Nat.reduceSub,Nat.reduceMul,Nat.reduceEqDiff,reduceCtorEq,Int.reduceToNat,Int.reduceEq,Int.reduceBEq,Int.reduceBNe,Int.reduceLT,Int.reduceLE,Int.reduceNeg,Int.reduceAdd,Int.reduceSub,Int.reduceMul,Int.reduceGE,Int.reduceGT,endO,fsF_len,fsF_size,fsF_at] | rw [dr_cons])
    rw [wr_succ (by omega)]
    have di2:decide (xs.getD i fn0∈ys.take (k+1))=true:=decide_eq_true ((mem_take (d:=fn0) hltk).2 (Or.inl hin))
    exact backI ⟨k+1,hltk⟩ (by simp only;omega) (le_ren id rfl rfl (by simp only [di2];simp [TmpsLe,look,SV.ren,SC.ren,idσ,SV.okN,SC.okN]) trivial (by simp +contextual [fsA,ArrsLe,ArrLeO,atN,look,Fm.get,idσ,arrLe_of,arrLe_0,arrLe_fs]) rfl)
   ·rw [wr_succ (by omega)]
    exact backI ⟨i+1,by omega⟩ (by simp only;omega) (le_ren id rfl rfl (by simp [TmpsLe,look,SV.ren,SC.ren,SC.renL,ren1L,ren1,idσ,SV.okN,SC.okN,SC.okL,ok1L]) trivial (by simp +contextual [fsA,ArrsLe,ArrLeO,atN,look,Fm.get,idσ,arrLe_of,arrLe_0,arrLe_fs]) rfl)
  ·have di:decide (xs.getD i fn0∈ys.take k)=false:=decide_eq_false hin
   simp (maxSteps:=2000000) only [go_sem,↓reduceIte,Nat.reduceLT,Nat.reduceLeDiff,Nat.reduceAdd,Nat.reduceSub,Nat.reduceMul,Nat.reduceEqDiff,reduceCtorEq,Int.reduceToNat,Int.reduceEq,Int.reduceBEq,Int.reduceBNe,Int.reduceLT,Int.reduceLE,Int.reduceNeg,Int.reduceAdd,Int.reduceSub,Int.reduceMul,Int.reduceGE,Int.reduceGT,endO,fsA,fsF_len,fsF_size,fsF_at,List.cons_append,List.nil_append,di]
   refine both (fun hltk=>?_) (fun hgek=>?_)
   ·have hltk:k<ys.length:=by
     have:=of_decide_eq_true hltk
     omega
    refine draw_vc (by kernel_rfl) (mkTab_ok _ _) (of_decide_eq_true rfl) (of_decide_eq_true rfl) ?_
    repeat (first | simp (maxSteps:=2000000) only [go_sem,↓reduceIte,Nat.reduceLT,Nat.reduceLeDiff,Nat.reduceAdd,Nat.reduceSub,Nat.reduceMul,Nat.reduceEqDiff,reduceCtorEq,Int.reduceToNat,Int.reduceEq,Int.reduceBEq,Int.reduceBNe,Int.reduceLT,Int.reduceLE,Int.reduceNeg,Int.reduceAdd,Int.reduceSub,Int.reduceMul,Int.reduceGE,Int.reduceGT,endO,fsF_len,fsF_size,fsF_at] | rw [dr_cons])
    refine And.intro hlt (And.intro hlt (And.intro hltk (And.intro hltk ?_)))
    refine dcallV (.c (.v (.bool (decide (xs.getD i fn0=ys.getD k fn0))))) _ (fun E=>rfl) (fun E a' w' hs=>sfinalD_calls w' _ _ _ _ (fn_fs hs 1 i hlt rfl rfl) (fn_fs hs 4 k hltk rfl rfl)) ?_
    have di2:decide (xs.getD i fn0∈ys.take (k+1))=decide (xs.getD i fn0=ys.getD k fn0):=decide_eq_decide.2 (by rw [mem_take (d:=fn0) hltk];simp only [hin,false_or])
    repeat (first | simp (maxSteps:=2000000) only [go_sem,↓reduceIte,Nat.reduceLT,Nat.reduceLeDiff,Nat.reduceAdd,Nat.reduceSub,Nat.reduceMul,Nat.reduceEqDiff,reduceCtorEq,Int.reduceToNat,Int.reduceEq,Int.reduceBEq,Int.reduceBNe,Int.reduceLT,Int.reduceLE,Int.reduceNeg,Int.reduceAdd,Int.reduceSub,Int.reduceMul,Int.reduceGE,Int.reduceGT,endO] | rw [dr_cons])
    rw [wr_succ (by omega)]
    exact backI ⟨k+1,hltk⟩ (by simp only;omega) (le_ren id rfl rfl (by simp only [di2];simp [TmpsLe,look,SV.ren,SC.ren,idσ,SV.okN,SC.okN]) trivial (by simp +contextual [fsA,ArrsLe,ArrLeO,atN,look,Fm.get,idσ,arrLe_of,arrLe_0,arrLe_fs]) rfl)
   ·have hgek:k=ys.length:=by
     have:=of_decide_eq_false hgek
     omega
    subst hgek
    rw [List.take_length] at hin
    exact absurd (hsub _ (getD_memE hlt)) hin
 ·exact retV fun E=>by simp [SV.den,SC.den]
end Go.Proofs.Ytmcpdafmkkjlcaa.Z
namespace Go.Proofs.Ytmcpdafmkkjlcaa.Z
open Go Go.RowKit
theorem nest_ownH {C:Ctx} {E:Env} {S:St} {a:Act} {w:World} (hs:Sat C.B C.W C.w0 E S a w) {α:Type} {enc:α→List Value} {s ty:Nat} {ls:List (List α)} (j:Nm) (ν:Nat→Nm) (n:Nat) (hn:n=ls.length) (at_:Nat→List SC) (hj:atN S.own j=some (.ar n 1 at_ ty)) (ha:∀ k,k<n→at_ k=[.sl (ν k) s 0 (ls.getD k []).length none])
  (hi:∀ k,k<ls.length→Arr w enc s ((SC.sl (ν k) s 0 (ls.getD k []).length none).den E) (ls.getD k [])):Nest w enc s ((SC.sl j 1 0 n none).den E) ls:=by
 subst hn
 refine ⟨(List.range ls.length).map fun k=>(SC.sl (ν k) s 0 (ls.getD k []).length none).den E,?_,by simp,fun k hk=>?_⟩
 ·obtain ⟨H,hH,_⟩:=hs.mem
  rcases ar_heap hH hj with ⟨h1,h2,h3,_⟩ | ⟨h1,h2,h3,cells,h4,h5,h6,h7⟩
  ·have h0:ls=[]:=List.eq_nil_of_length_eq_zero h3
   subst h0
   exact ⟨if E.ν j=true then none else some ⟨E.ρ j,0,none⟩,0,by simp [SC.den,h2],Nat.le_refl _,by simp [maxLen],Or.inl rfl⟩
  ·refine ⟨some ⟨E.ρ j,0,none⟩,E.κ j,by simp [SC.den,h1],by simpa using h2.1,h3,Or.inr ⟨_,_,rfl,fun e y hy q u hu=>?_⟩⟩
   rw [cell_of_row w _ _ _ ty (0,0) h5,Nat.zero_add]
   have he:e<ls.length:=by
    have:=(List.getElem?_eq_some_iff.1 hy).1
    simpa using this
   simp [he] at hy
   subst hy
   cases q with
   | zero =>
    simp only [one1',List.getElem?_cons_zero,Option.some.injEq] at hu
    subst hu
    exact ((h7 e he).2 0 _ (by rw [ha e he];simp [he])).1
   | succ q=>simp [one1'] at hu
 ·have:((List.range ls.length).map fun k=>(SC.sl (ν k) s 0 (ls.getD k []).length none).den E).getD k nest0=(SC.sl (ν k) s 0 (ls.getD k []).length none).den E:=by rw [List.getD_eq_getElem?_getD,List.getElem?_map,List.getElem?_range hk];rfl
  rw [this]
  exact hi k hk
def aw1:List Ins:=[⟨2,0,0,1,-1,0,0⟩,⟨1,0,1,0,0,0,0⟩]
def aw2:List Ins:=[⟨2,0,1,1,-1,0,0⟩,⟨1,0,0,0,0,0,0⟩]
def awL:Lt:=⟨[0,0],[aw1,aw2]⟩
def awF (o:Int):Option Nat:=(bfs awL o).map fun l=>(finsL awL (l.map (·.s))).length
theorem aw_1:awF 1=some 3:=by decide +kernel
theorem aw_2:awF 2=some 4:=by decide +kernel
theorem aw_ok:checkB awL=true:=by decide +kernel
theorem awL_ok:LtOk awL:=by
 intro code hc c hi
 simp only [awL,List.mem_cons,List.not_mem_nil,or_false] at hc
 rcases hc with rfl | rfl <;> (simp only [aw1,aw2,List.mem_cons,List.not_mem_nil,or_false] at hi;rcases hi with rfl | rfl <;> exact ⟨by decide,by decide⟩)
def ir29:IR:=(.seq (.ops [⟨(some 0),(.mv (.k (.c (.v (.bool false))))),none⟩]) (.kill [0,1,2,3,4,5,6,7,8,9,10,11] (.seq (.ops [⟨(some 6),(.mkSl 3 2 1 [(.v (.int .i64 0)),(.v (.int .i64 0))] [(0,(1,(.k (.c (.v (.int .i64 0)))))),(1,(1,(.k (.c (.v (.int .i64 0))))))]),none⟩,⟨(some 7),(.build [(.v (.int .i64 0)),(.v (.int .i64 0)),(.v (.int .i64 0)),(.v (.int .i64 0)),(.v (.int .i64 0)),(.v (.int .i64 0)),(.v (.int .i64 0))] [(0,(1,(.k (.c (.v (.int .i64 2)))))),(2,(1,(.k (.c (.v (.int .i64 0)))))),(3,(1,(.k (.c (.v (.int .i64 1)))))),(4,(1,(.k (.c (.v (.int .i64 (-1)))))))]),none⟩,⟨(some 8),(.build [(.v (.int .i64 0)),(.v (.int .i64 0)),(.v (.int .i64 0)),(.v (.int .i64 0)),(.v (.int .i64 0)),(.v (.int .i64 0)),(.v (.int .i64 0))] [(0,(1,(.k (.c (.v (.int .i64 1)))))),(2,(1,(.k (.c (.v (.int .i64 1))))))]),none⟩,⟨(some 9),(.mkSl 83 2 7 [(.v (.int .i64 0)),(.v (.int .i64 0)),(.v (.int .i64 0)),(.v (.int .i64 0)),(.v (.int .i64 0)),(.v (.int .i64 0)),(.v (.int .i64 0)),(.v (.int .i64 0)),(.v (.int .i64 0)),(.v (.int .i64 0)),(.v (.int .i64 0)),(.v (.int .i64 0)),(.v (.int .i64 0)),(.v (.int .i64 0))] [(0,(7,(.t 7))),(7,(7,(.t 8)))]),none⟩,⟨(some 10),(.build [(.v (.int .i64 0)),(.v (.int .i64 0)),(.v (.int .i64 0)),(.v (.int .i64 0)),(.v (.int .i64 0)),(.v (.int .i64 0)),(.v (.int .i64 0))] [(0,(1,(.k (.c (.v (.int .i64 2)))))),(2,(1,(.k (.c (.v (.int .i64 1)))))),(3,(1,(.k (.c (.v (.int .i64 1)))))),(4,(1,(.k (.c (.v (.int .i64 (-1)))))))]),none⟩,⟨(some 11),(.build [(.v (.int .i64 0)),(.v (.int .i64 0)),(.v (.int .i64 0)),(.v (.int .i64 0)),(.v (.int .i64 0)),(.v (.int .i64 0)),(.v (.int .i64 0))] [(0,(1,(.k (.c (.v (.int .i64 1)))))),(2,(1,(.k (.c (.v (.int .i64 0))))))]),none⟩,⟨(some 12),(.mkSl 83 2 7 [(.v (.int .i64 0)),(.v (.int .i64 0)),(.v (.int .i64 0)),(.v (.int .i64 0)),(.v (.int .i64 0)),(.v (.int .i64 0)),(.v (.int .i64 0)),(.v (.int .i64 0)),(.v (.int .i64 0)),(.v (.int .i64 0)),(.v (.int .i64 0)),(.v (.int .i64 0)),(.v (.int .i64 0)),(.v (.int .i64 0))] [(0,(7,(.t 10))),(7,(7,(.t 11)))]),none⟩,⟨(some 13),(.mkSl 80 2 1 [(.v (.slice none 0 0)),(.v (.slice none 0 0))] [(0,(1,(.t 9))),(1,(1,(.t 12)))]),none⟩,⟨(some 14),(.build [(.v (.slice none 0 0)),(.v (.slice none 0 0))] [(0,(1,(.t 6))),(1,(1,(.t 13)))]),none⟩,⟨(some 1),(.new 25 [(.v (.slice none 0 0)),(.v (.slice none 0 0))]),none⟩,⟨none,(.st 2 (.t 1) (.t 14)),none⟩]) (.kill [6,7,8,9,10,11,12,13,14] (.seq (.ops [⟨(some 16),(.ld true 2 (.t 1)),none⟩,⟨(some 17),(.call 26 [(.t 16),(.k (.c (.v (.int .i64 1))))]),none⟩,⟨(some 15),(.mv (.t 17)),none⟩,⟨(some 18),(.ext 0 (.t 15)),none⟩,⟨(some 19),(.ext 1 (.t 15)),none⟩,⟨(some 2),(.mv (.t 18)),none⟩,⟨(some 3),(.mv (.t 19)),none⟩]) (.kill [15,16,17,18,19] (.seq (.ops [⟨(some 21),(.ld true 2 (.t 1)),none⟩,⟨(some 22),(.call 26 [(.t 21),(.k (.c (.v (.int .i64 2))))]),none⟩,⟨(some 20),(.mv (.t 22)),none⟩,⟨(some 23),(.ext 0 (.t 20)),none⟩,⟨(some 24),(.ext 1 (.t 20)),none⟩,⟨(some 4),(.mv (.t 23)),none⟩,⟨(some 5),(.mv (.t 24)),none⟩]) (.kill [1,20,21,22,23,24] (.seq (.ops [⟨(some 25),(.mv (.t 3)),none⟩,⟨(some 26),(.call 14 [(.t 25)]),none⟩,⟨(some 27),(.bin .eql (.t 26) (.k (.c (.v (.int .i64 0))))),none⟩,⟨(some 28),(.mv (.t 27)),none⟩,⟨(some 29),(.mv (.t 5)),(some (28,true))⟩,⟨(some 30),(.call 14 [(.t 29)]),(some (28,true))⟩,⟨(some 31),(.bin .eql (.t 30) (.k (.c (.v (.int .i64 0))))),(some (28,true))⟩,⟨(some 32),(.pick (.t 28) (.t 31) (.k (.c (.v (.bool false))))),none⟩,⟨(some 33),(.mv (.t 32)),none⟩,⟨(some 34),(.mv (.t 2)),(some (33,true))⟩,⟨(some 35),(.len (.t 34)),(some (33,true))⟩,⟨(some 36),(.bin .eql (.t 35) (.k (.c (.v (.int .i64 3))))),(some (33,true))⟩,⟨(some 37),(.pick (.t 33) (.t 36) (.k (.c (.v (.bool false))))),none⟩,⟨(some 38),(.mv (.t 37)),none⟩,⟨(some 39),(.mv (.t 4)),(some (38,true))⟩,⟨(some 40),(.len (.t 39)),(some (38,true))⟩,⟨(some 41),(.bin .eql (.t 40) (.k (.c (.v (.int .i64 4))))),(some (38,true))⟩,⟨(some 42),(.pick (.t 38) (.t 41) (.k (.c (.v (.bool false))))),none⟩,⟨(some 0),(.mv (.t 42)),none⟩]) (.kill [2,3,4,5,25,26,27,28,29,30,31,32,33,34,35,36,37,38,39,40,41,42] .ret))))))))))
def rs29:List RS:=[(.t 0)]
def nt29:Nat:=43
set_option maxRecDepth 100000 in
set_option maxHeartbeats 1000000 in
theorem awake_calls (w:World):Calls Try.prog 29 #[] w (RetV w (.bool true)):=by
 refine enter0 (A:=[]) (c:=ir29) (rs:=rs29) (nt:=nt29) [] #[] Try.func29 rfl (by kernel_rfl) (by kernel_rfl) rfl (fun E'=>rfl) (of_decide_eq_true rfl) ?_
 simp (maxSteps:=2000000) only [ir29,nt29,rs29,go_sem,↓reduceIte,Nat.reduceLT,Nat.reduceLeDiff,Nat.reduceAdd,Nat.reduceSub,Nat.reduceMul,Nat.reduceEqDiff,reduceCtorEq,Int.reduceToNat,Int.reduceEq,Int.reduceBEq,Int.reduceBNe,Int.reduceLT,Int.reduceLE,Int.reduceNeg,Int.reduceAdd,Int.reduceSub,Int.reduceMul,Int.reduceGE,Int.reduceGT,endO]
 repeat (with_reducible refine And.intro (by decide) ?_)
 obtain ⟨l1,b1,n1⟩:∃ l,bfs awL 1=some l∧(finsL awL (l.map (·.s))).length=3:=by
  have:=aw_1
  unfold awF at this
  cases e:bfs awL 1 with
  | none=>rw [e] at this;cases this
  | some l=>rw [e] at this;exact ⟨l,rfl,by simpa using this⟩
 obtain ⟨l2,b2,n2⟩:∃ l,bfs awL 2=some l∧(finsL awL (l.map (·.s))).length=4:=by
  have:=aw_2
  unfold awF at this
  cases e:bfs awL 2 with
  | none=>rw [e] at this;cases this
  | some l=>rw [e] at this;exact ⟨l,rfl,by simpa using this⟩
 have hl:∀ {C:Ctx} {E:Env} {S:St} {a:Act} {w' : World},Sat C.B C.W C.w0 E S a w'→look S.own 0=some (.one (.ar 2 1 (segs 1 [.v (.int .i64 0),.v (.int .i64 0)]) 3)) →
   look S.own 1=some (.one (.ar 2 7 (segs 7 [.v (.int .i64 2),.v (.int .i64 0),.v (.int .i64 0),.v (.int .i64 1),.v (.int .i64 (-1)),.v (.int .i64 0),.v (.int .i64 0),.v (.int .i64 1),.v (.int .i64 0),.v (.int .i64 1),.v (.int .i64 0),.v (.int .i64 0),.v (.int .i64 0),.v (.int .i64 0)]) 83)) →
   look S.own 2=some (.one (.ar 2 7 (segs 7 [.v (.int .i64 2),.v (.int .i64 0),.v (.int .i64 1),.v (.int .i64 1),.v (.int .i64 (-1)),.v (.int .i64 0),.v (.int .i64 0),.v (.int .i64 1),.v (.int .i64 0),.v (.int .i64 0),.v (.int .i64 0),.v (.int .i64 0),.v (.int .i64 0),.v (.int .i64 0)]) 83)) →
   look S.own 3=some (.one (.ar 2 1 (segs 1 [.sl (1,0,0) 7 0 2 none,.sl (2,0,0) 7 0 2 none]) 80))→LtR w' ((SV.agg [.sl (0,0,0) 1 0 2 none,.sl (3,0,0) 1 0 2 none]).den E) awL:=fun {C E S a w'} hs h0 h1 h2 h3=>by
  have two:∀ e:Nat,e<2→e=0∨e=1:=fun e he=>by omega
  refine ⟨(SC.sl (0,0,0) 1 0 2 none).den E,(SC.sl (3,0,0) 1 0 2 none).den E,by simp [SV.den],arr_ownX (d:=0) hs (0,0,0) _ _ _ (by simp only [atN,h0,Fm.get,and_self,if_true];rfl) rfl (Nat.le_refl _) (fun e he=>by rcases two e he with rfl | rfl <;> rfl),nest_ownH hs (3,0,0) (fun k=>(k+1,0,0)) 2 rfl _ (by simp only [atN,h3,Fm.get,and_self,if_true];rfl) (fun k hk=>by rcases two k hk with rfl | rfl <;> rfl) (fun k hk=>?_)⟩
  rcases two k hk with rfl | rfl
  ·exact arr_ownX (d:=in0) hs (1,0,0) _ _ _ (by simp only [atN,h1,Fm.get,and_self,if_true];rfl) rfl (Nat.le_refl _) (fun e he=>by rcases two e he with rfl | rfl <;> rfl)
  ·exact arr_ownX (d:=in0) hs (2,0,0) _ _ _ (by simp only [atN,h2,Fm.get,and_self,if_true];rfl) rfl (Nat.le_refl _) (fun e he=>by rcases two e he with rfl | rfl <;> rfl)
 have hF1:FinR awL 1=fun w=>RetN w 3 (leT 2 (finsL awL (l1.map (·.s))).length 0) (fun b=>foO b (finsL awL (l1.map (·.s)))):=by funext w e w';unfold FinR;rw [b1]
 have hF2:FinR awL 2=fun w=>RetN w 3 (leT 2 (finsL awL (l2.map (·.s))).length 0) (fun b=>foO b (finsL awL (l2.map (·.s)))):=by funext w e w';unfold FinR;rw [b2]
 generalize finsL awL (l1.map (·.s))=f1 at n1 hF1
 generalize finsL awL (l2.map (·.s))=f2 at n2 hF2
 refine callN 3 (leT 2 f1.length 0) (fun b=>foO b f1) (fun E a w' hs=>by
  have:=ifin_calls w' _ awL 1 aw_ok (by decide) awL_ok (hl hs rfl rfl rfl rfl)
  rw [hF1] at this
  exact this) ?_
 rw [n1]
 simp (maxSteps:=2000000) only [go_sem,↓reduceIte,Nat.reduceLT,Nat.reduceLeDiff,Nat.reduceAdd,Nat.reduceSub,Nat.reduceMul,Nat.reduceEqDiff,reduceCtorEq,Int.reduceToNat,Int.reduceEq,Int.reduceBEq,Int.reduceBNe,Int.reduceLT,Int.reduceLE,Int.reduceNeg,Int.reduceAdd,Int.reduceSub,Int.reduceMul,Int.reduceGE,Int.reduceGT,endO,leT,foO]
 refine callN 3 (leT 2 f2.length 0) (fun b=>foO b f2) (fun E a w' hs=>by
  have:=ifin_calls w' _ awL 2 aw_ok (by decide) awL_ok (hl hs rfl rfl rfl rfl)
  rw [hF2] at this
  exact this) ?_
 rw [n2]
 simp (maxSteps:=2000000) only [go_sem,↓reduceIte,Nat.reduceLT,Nat.reduceLeDiff,Nat.reduceAdd,Nat.reduceSub,Nat.reduceMul,Nat.reduceEqDiff,reduceCtorEq,Int.reduceToNat,Int.reduceEq,Int.reduceBEq,Int.reduceBNe,Int.reduceLT,Int.reduceLE,Int.reduceNeg,Int.reduceAdd,Int.reduceSub,Int.reduceMul,Int.reduceGE,Int.reduceGT,endO,leT,foO]
 refine callV (.c (.v (.int .i64 0))) _ (fun E=>rfl) (fun E a w' hs=>num_calls w' _) ?_
 simp (maxSteps:=2000000) only [go_sem,↓reduceIte,Nat.reduceLT,Nat.reduceLeDiff,Nat.reduceAdd,Nat.reduceSub,Nat.reduceMul,Nat.reduceEqDiff,reduceCtorEq,Int.reduceToNat,Int.reduceEq,Int.reduceBEq,Int.reduceBNe,Int.reduceLT,Int.reduceLE,Int.reduceNeg,Int.reduceAdd,Int.reduceSub,Int.reduceMul,Int.reduceGE,Int.reduceGT,endO]
 refine guardW (.c (.v (.int .i64 0))) _ (fun E=>rfl) (fun E a w' hs=>num_calls w' _) ?_
 simp (maxSteps:=2000000) only [go_sem,↓reduceIte,Nat.reduceLT,Nat.reduceLeDiff,Nat.reduceAdd,Nat.reduceSub,Nat.reduceMul,Nat.reduceEqDiff,reduceCtorEq,Int.reduceToNat,Int.reduceEq,Int.reduceBEq,Int.reduceBNe,Int.reduceLT,Int.reduceLE,Int.reduceNeg,Int.reduceAdd,Int.reduceSub,Int.reduceMul,Int.reduceGE,Int.reduceGT,endO]
 exact retV fun E=>by simp [SV.den,SC.den]
end Go.Proofs.Ytmcpdafmkkjlcaa.Z
namespace Go.Proofs.Ytmcpdafmkkjlcaa.Z
open Go Go.RowKit
theorem stN_app:∀ l m:List Ins,stN (l++m)=stN l+stN m
 | [],m=>by simp [stN]
 | c :: l,m=>by simp only [List.cons_append,stN,stN_app l m];omega
theorem stN_take {r:List Ins} {m:Nat} (h:m<r.length):stN (r.take (m+1))=stN (r.take m)+if (r.getD m in0).kind=2 then 1 else 0:=by
 rw [List.take_succ_eq_append_getElem h,stN_app,List.getD_eq_getElem?_getD,List.getElem?_eq_getElem h]
 simp [stN]
theorem stN_le:∀ r:List Ins,stN r≤r.length
 | []=>Nat.le_refl _
 | c :: r=>by have:=stN_le r;simp only [stN,List.length_cons];split <;> omega
end Go.Proofs.Ytmcpdafmkkjlcaa.Z
namespace Go.Proofs.Ytmcpdafmkkjlcaa.Z
open Go Go.RowKit
theorem loop_tm {C:Ctx} {nt nid:Nat} {t:List (Nat×SV)} {own:Own} {arrs:List (Nat×Fm ArrF)} {facts:List (Env→World→Prop)} {c:IR} {k:List KI} {ex:List KI→St→Prop} (T:Nat→List (Nat×SV)) (n:Nat) (h0:TmpsSub t (T 0))
  (hs:∀ (j:Nat) (hj:j≤n),ex (.code c :: .back { j:Nat // j≤n } (fun j=>⟨nt,T j.1,own,arrs,facts,nid⟩) (fun j=>n - j.1) ⟨j,hj⟩ :: k) ⟨nt,T j,own,arrs,facts,nid⟩):LoopVC C c k ⟨nt,t,own,arrs,facts,nid⟩ ex :=
 loopI (ι:={ j:Nat // j≤n }) (fun j=>⟨nt,T j.1,own,arrs,facts,nid⟩) (fun j=>n - j.1) ⟨0,Nat.zero_le _⟩ (le_tmps h0) (fun ⟨j,hj⟩=>hs j hj)
theorem fins_len {L:Lt} {o:Int} {l:List Sp} (hL:checkB L=true) (hb:bfs L o=some l):(finsL L (l.map (·.s))).length≤30000:=by
 have hk:=bfs_ok hL hb
 have hw:∀ s∈l.map (·.s),WfT L o s:=fun s hs=>by
  rw [List.mem_map] at hs
  obtain ⟨x,hx,rfl⟩:=hs
  exact hk.wf x hx
 have hp:=(finsL_ok hw hk.nd).1
 rw [hp.length_eq,List.length_map]
 have:=List.length_filter_le (finB L) (l.map (·.s))
 have:=hk.len.2
 rw [List.length_map] at *
 omega
def sT (L:Lt):Nat→Nat
 | 0=>0
 | n+1=>sT L n+stN (L.thr.getD n [])
theorem sT_le {L:Lt} (hL:checkB L=true):∀ n,n≤L.thr.length→sT L n≤10 * n
 | 0,_=>Nat.le_refl _
 | n+1,h=>by
  have:=sT_le hL n (by omega)
  have:=stN_le (L.thr.getD n [])
  have:=(fits_at hL (t:=n) (by omega)).1
  simp only [sT]
  omega
theorem stN_no:∀ {l:List Ins},stN l=0→∀ c∈l,c.kind≠2
 | [],_,c,hc=>by cases hc
 | d :: l,h,c,hc=>by
  simp only [stN] at h
  rcases List.mem_cons.1 hc with rfl | hc
  ·intro q
   rw [if_pos q] at h
   omega
  ·exact stN_no (by omega) c hc
theorem sT_no {L:Lt}:∀ {n:Nat},sT L n=0→∀ t,t<n→stN (L.thr.getD t [])=0
 | 0,_,t,ht=>by omega
 | n+1,h,t,ht=>by
  simp only [sT] at h
  by_cases e:t=n
  ·subst e;omega
  ·exact sT_no (n:=n) (by omega) t (by omega)
theorem no_st {L:Lt} (h:sT L L.thr.length=0):noSt L:=fun code hc c hm=>by
 obtain ⟨t,ht,rfl⟩:=List.getElem_of_mem hc
 have:=sT_no h t ht
 rw [List.getD_eq_getElem?_getD,List.getElem?_eq_getElem ht] at this
 exact stN_no this c hm
def ir9:IR:=(.seq (.ops [⟨(some 1),(.box 25 (.t 0)),none⟩,⟨(some 2),(.mv (.k (.c (.v (.bool false))))),none⟩]) (.kill [0,2,3,4,5,6,7,8,9,10,11] (.seq (.seq (.ops [⟨(some 13),(.call 29 []),none⟩,⟨(some 14),(.un .not (.t 13)),none⟩]) (.kill [13] (.cond (.t 14) (.seq (.ops [⟨(some 2),(.mv (.k (.c (.v (.bool false))))),none⟩]) (.kill [1,14] .ret)) .skip))) (.kill [2,14] (.seq (.seq (.ops [⟨(some 15),(.ld true 2 (.t 1)),none⟩,⟨(some 16),(.call 18 [(.t 15)]),none⟩,⟨(some 17),(.un .not (.t 16)),none⟩]) (.kill [15,16] (.cond (.t 17) (.seq (.ops [⟨(some 19),(.ld true 2 (.t 1)),none⟩,⟨(some 20),(.call 26 [(.t 19),(.k (.c (.v (.int .i64 1))))]),none⟩,⟨(some 18),(.mv (.t 20)),none⟩,⟨(some 21),(.ext 0 (.t 18)),none⟩,⟨(some 22),(.ext 1 (.t 18)),none⟩,⟨(some 3),(.mv (.t 21)),none⟩,⟨(some 4),(.mv (.t 22)),none⟩]) (.kill [1,3,17,18,19,20,21,22] (.seq (.ops [⟨(some 23),(.mv (.t 4)),none⟩,⟨(some 24),(.call 14 [(.t 23)]),none⟩,⟨(some 25),(.bin .eql (.t 24) (.k (.c (.v (.int .i64 190))))),none⟩,⟨(some 2),(.mv (.t 25)),none⟩]) (.kill [4,23,24,25] .ret)))) .skip))) (.kill [2,17] (.seq (.ops [⟨(some 5),(.mv (.k (.c (.v (.slice none 0 0))))),none⟩]) (.seq (.seq (.ops [⟨(some 6),(.mv (.k (.c (.v (.int .i64 1))))),none⟩]) (.blk 0 (.loop (.seq (.seq (.ops [⟨(some 26),(.mv (.t 6)),none⟩,⟨(some 27),(.bin .leq (.t 26) (.k (.c (.v (.int .i64 3))))),none⟩]) (.kill [2,7,8,9,26,28,29,30,31,32,33,34,35,36,37,38,39,40,41,42,43,44,45,46,47,48,49,50,51,52,53,54,55,56,57,58,59,60,61,62,63,64] (.cond (.t 27) .skip (.exit 0)))) (.kill [27] (.seq (.blk 1 (.seq (.ops [⟨(some 31),(.ld true 2 (.t 1)),none⟩,⟨(some 32),(.mv (.t 6)),none⟩,⟨(some 33),(.call 26 [(.t 31),(.t 32)]),none⟩,⟨(some 30),(.mv (.t 33)),none⟩,⟨(some 34),(.ext 0 (.t 30)),none⟩,⟨(some 35),(.ext 1 (.t 30)),none⟩,⟨(some 7),(.mv (.t 34)),none⟩,⟨(some 8),(.mv (.t 35)),none⟩]) (.kill [30,31,32,33,34,35] (.seq (.seq (.ops [⟨(some 36),(.mv (.t 8)),none⟩,⟨(some 37),(.call 14 [(.t 36)]),none⟩,⟨(some 38),(.bin .eql (.t 37) (.k (.c (.v (.int .i64 192))))),none⟩]) (.kill [36,37] (.cond (.t 38) (.seq (.ops [⟨(some 2),(.mv (.k (.c (.v (.bool true))))),none⟩]) (.kill [1,5,6,7,8,38] .ret)) .skip))) (.kill [2,38] (.seq (.seq (.ops [⟨(some 39),(.mv (.t 8)),none⟩,⟨(some 40),(.call 14 [(.t 39)]),none⟩,⟨(some 41),(.bin .neq (.t 40) (.k (.c (.v (.int .i64 0))))),none⟩,⟨(some 42),(.mv (.t 41)),none⟩,⟨(some 43),(.mv (.t 7)),(some (42,false))⟩,⟨(some 44),(.len (.t 43)),(some (42,false))⟩,⟨(some 45),(.bin .eql (.t 44) (.k (.c (.v (.int .i64 0))))),(some (42,false))⟩,⟨(some 46),(.pick (.t 42) (.k (.c (.v (.bool true)))) (.t 45)),none⟩]) (.kill [8,39,40,41,42,43,44,45] (.cond (.t 46) (.seq (.ops [⟨(some 2),(.mv (.k (.c (.v (.bool false))))),none⟩]) (.kill [1,5,6,7,46] .ret)) .skip))) (.kill [2,46] (.seq (.seq (.ops [⟨(some 9),(.mv (.k (.c (.v (.int .i64 0))))),none⟩]) (.blk 2 (.loop (.seq (.seq (.ops [⟨(some 47),(.mv (.t 9)),none⟩,⟨(some 48),(.mv (.t 7)),none⟩,⟨(some 49),(.len (.t 48)),none⟩,⟨(some 50),(.bin .lss (.t 47) (.t 49)),none⟩]) (.kill [2,47,48,49,51,52,53,54,55,56,57,58,59,60] (.cond (.t 50) .skip (.exit 2)))) (.kill [50] (.seq (.blk 3 (.seq (.draw [(⟨(some 53),(.ld true 2 (.t 1)),none⟩,([],[54,55,56,57,58])),(⟨(some 54),(.mv (.t 6)),none⟩,([0],[53,55,56,57,58])),(⟨(some 55),(.mv (.t 7)),none⟩,([0,1],[53,54,56])),(⟨(some 56),(.mv (.t 9)),none⟩,([0,1,2],[53,54,55])),(⟨(some 57),(.ia 2 (.t 55) (.t 56)),none⟩,([0,1],[53,54])),(⟨(some 58),(.ld true 2 (.t 57)),none⟩,([0,1],[53,54])),(⟨(some 59),(.call 37 [(.t 53),(.t 54),(.t 58)]),none⟩,([],[])),(⟨(some 60),(.un .not (.t 59)),none⟩,([],[]))]) (.kill [53,54,55,56,57,58,59] (.cond (.t 60) (.seq (.ops [⟨(some 2),(.mv (.k (.c (.v (.bool false))))),none⟩]) (.kill [1,5,6,7,9,60] .ret)) .skip)))) (.kill [2,53,54,55,56,57,58,59,60] (.ops [⟨(some 51),(.mv (.t 9)),none⟩,⟨(some 52),(.bin .add (.t 51) (.k (.c (.v (.int .i64 1))))),none⟩,⟨(some 9),(.mv (.t 52)),none⟩])))))))) (.kill [2,9,47,48,49,50,51,52,53,54,55,56,57,58,59,60] (.ops [⟨(some 61),(.mv (.t 5)),none⟩,⟨(some 62),(.mv (.t 7)),none⟩,⟨(some 63),(.mkSl 58 1 1 [(.v (.slice none 0 0))] [(0,(1,(.t 62)))]),none⟩,⟨(some 64),(.app 58 1 24 [(.v (.slice none 0 0))] (.t 61) (.t 63)),none⟩,⟨(some 5),(.mv (.t 64)),none⟩])))))))))) (.kill [2,7,8,9,30,31,32,33,34,35,36,37,38,39,40,41,42,43,44,45,46,47,48,49,50,51,52,53,54,55,56,57,58,59,60,61,62,63,64] (.ops [⟨(some 28),(.mv (.t 6)),none⟩,⟨(some 29),(.bin .add (.t 28) (.k (.c (.v (.int .i64 1))))),none⟩,⟨(some 6),(.mv (.t 29)),none⟩])))))))) (.kill [2,6,7,8,9,26,27,28,29,30,31,32,33,34,35,36,37,38,39,40,41,42,43,44,45,46,47,48,49,50,51,52,53,54,55,56,57,58,59,60,61,62,63,64] (.seq (.ops [⟨(some 10),(.mv (.k (.c (.v (.int .i64 0))))),none⟩]) (.seq (.seq (.ops [⟨(some 11),(.mv (.k (.c (.v (.int .i64 0))))),none⟩]) (.blk 4 (.loop (.seq (.seq (.ops [⟨(some 65),(.mv (.t 11)),none⟩,⟨(some 66),(.fa 1 (.t 1)),none⟩,⟨(some 67),(.ld false 1 (.t 66)),none⟩,⟨(some 68),(.len (.t 67)),none⟩,⟨(some 69),(.bin .lss (.t 65) (.t 68)),none⟩]) (.kill [12,65,66,67,68,70,71,72,73,74,75,76,77,78,79,80,81,82,83,84,85,86,87,88,89,90,91,92,93] (.cond (.t 69) .skip (.exit 4)))) (.kill [69] (.seq (.blk 5 (.seq (.ops [⟨(some 12),(.mv (.k (.c (.v (.int .i64 0))))),none⟩]) (.blk 6 (.loop (.seq (.seq (.ops [⟨(some 72),(.mv (.t 12)),none⟩,⟨(some 73),(.fa 1 (.t 1)),none⟩,⟨(some 74),(.ld false 1 (.t 73)),none⟩,⟨(some 75),(.mv (.t 11)),none⟩,⟨(some 76),(.ia 1 (.t 74) (.t 75)),none⟩,⟨(some 77),(.ld false 1 (.t 76)),none⟩,⟨(some 78),(.len (.t 77)),none⟩,⟨(some 79),(.bin .lss (.t 72) (.t 78)),none⟩]) (.kill [72,73,74,75,76,77,78,80,81,82,83,84,85,86,87,88,89,90,91,92,93] (.cond (.t 79) .skip (.exit 6)))) (.kill [79] (.seq (.blk 7 (.seq (.ops [⟨(some 82),(.fa 1 (.t 1)),none⟩,⟨(some 83),(.ld false 1 (.t 82)),none⟩,⟨(some 84),(.mv (.t 11)),none⟩,⟨(some 85),(.ia 1 (.t 83) (.t 84)),none⟩,⟨(some 86),(.ld false 1 (.t 85)),none⟩,⟨(some 87),(.mv (.t 12)),none⟩,⟨(some 88),(.ia 7 (.t 86) (.t 87)),none⟩,⟨(some 89),(.fa 0 (.t 88)),none⟩,⟨(some 90),(.ld false 1 (.t 89)),none⟩,⟨(some 91),(.bin .eql (.t 90) (.k (.c (.v (.int .i64 2))))),none⟩]) (.kill [82,83,84,85,86,87,88,89,90] (.cond (.t 91) (.ops [⟨(some 92),(.mv (.t 10)),none⟩,⟨(some 93),(.bin .add (.t 92) (.k (.c (.v (.int .i64 1))))),none⟩,⟨(some 10),(.mv (.t 93)),none⟩]) .skip)))) (.kill [82,83,84,85,86,87,88,89,90,91,92,93] (.ops [⟨(some 80),(.mv (.t 12)),none⟩,⟨(some 81),(.bin .add (.t 80) (.k (.c (.v (.int .i64 1))))),none⟩,⟨(some 12),(.mv (.t 81)),none⟩]))))))))) (.kill [12,72,73,74,75,76,77,78,79,80,81,82,83,84,85,86,87,88,89,90,91,92,93] (.ops [⟨(some 70),(.mv (.t 11)),none⟩,⟨(some 71),(.bin .add (.t 70) (.k (.c (.v (.int .i64 1))))),none⟩,⟨(some 11),(.mv (.t 71)),none⟩])))))))) (.kill [11,12,65,66,67,68,69,70,71,72,73,74,75,76,77,78,79,80,81,82,83,84,85,86,87,88,89,90,91,92,93] (.seq (.seq (.ops [⟨(some 94),(.fa 1 (.t 1)),none⟩,⟨(some 95),(.ld false 1 (.t 94)),none⟩,⟨(some 96),(.len (.t 95)),none⟩,⟨(some 97),(.bin .eql (.t 96) (.k (.c (.v (.int .i64 1))))),none⟩,⟨(some 98),(.mv (.t 97)),none⟩,⟨(some 99),(.mv (.t 5)),(some (98,true))⟩,⟨(some 100),(.ia 1 (.t 99) (.k (.c (.v (.int .i64 0))))),(some (98,true))⟩,⟨(some 101),(.ld false 1 (.t 100)),(some (98,true))⟩,⟨(some 102),(.len (.t 101)),(some (98,true))⟩,⟨(some 103),(.bin .neq (.t 102) (.k (.c (.v (.int .i64 1))))),(some (98,true))⟩,⟨(some 104),(.pick (.t 98) (.t 103) (.k (.c (.v (.bool false))))),none⟩]) (.kill [94,95,96,97,98,99,100,101,102,103] (.cond (.t 104) (.seq (.ops [⟨(some 2),(.mv (.k (.c (.v (.bool false))))),none⟩]) (.kill [1,5,10,104] .ret)) .skip))) (.kill [2,104] (.seq (.seq (.draw [(⟨(some 105),(.fa 1 (.t 1)),none⟩,([],[])),(⟨(some 106),(.ld false 1 (.t 105)),none⟩,([],[])),(⟨(some 107),(.len (.t 106)),none⟩,([],[])),(⟨(some 108),(.bin .eql (.t 107) (.k (.c (.v (.int .i64 1))))),none⟩,([],[])),(⟨(some 109),(.mv (.t 108)),none⟩,([],[])),(⟨(some 110),(.mv (.t 10)),(some (109,false))⟩,([],[])),(⟨(some 111),(.bin .eql (.t 110) (.k (.c (.v (.int .i64 0))))),(some (109,false))⟩,([],[])),(⟨(some 112),(.pick (.t 109) (.k (.c (.v (.bool true)))) (.t 111)),none⟩,([],[])),(⟨(some 113),(.mv (.t 112)),none⟩,([],[])),(⟨(some 114),(.mv (.t 5)),(some (113,true))⟩,([],[117,118,119])),(⟨(some 115),(.ia 1 (.t 114) (.k (.c (.v (.int .i64 0))))),(some (113,true))⟩,([],[117,118,119])),(⟨(some 116),(.ld false 1 (.t 115)),(some (113,true))⟩,([],[117,118,119])),(⟨(some 117),(.mv (.t 5)),(some (113,true))⟩,([9,10,11],[114,115,116])),(⟨(some 118),(.ia 1 (.t 117) (.k (.c (.v (.int .i64 1))))),(some (113,true))⟩,([9,10,11],[114,115,116])),(⟨(some 119),(.ld false 1 (.t 118)),(some (113,true))⟩,([9,10,11],[114,115,116])),(⟨(some 120),(.call 28 [(.t 116),(.t 119)]),(some (113,true))⟩,([],[])),(⟨(some 121),(.un .not (.t 120)),(some (113,true))⟩,([],[])),(⟨(some 122),(.mv (.t 121)),(some (113,true))⟩,([],[])),(⟨(some 123),(.mv (.t 5)),(some (122,false))⟩,([],[126,127,128])),(⟨(some 124),(.ia 1 (.t 123) (.k (.c (.v (.int .i64 0))))),(some (122,false))⟩,([],[126,127,128])),(⟨(some 125),(.ld false 1 (.t 124)),(some (122,false))⟩,([],[126,127,128])),(⟨(some 126),(.mv (.t 5)),(some (122,false))⟩,([18,19,20],[123,124,125])),(⟨(some 127),(.ia 1 (.t 126) (.k (.c (.v (.int .i64 2))))),(some (122,false))⟩,([18,19,20],[123,124,125])),(⟨(some 128),(.ld false 1 (.t 127)),(some (122,false))⟩,([18,19,20],[123,124,125])),(⟨(some 129),(.call 28 [(.t 125),(.t 128)]),(some (122,false))⟩,([],[])),(⟨(some 130),(.un .not (.t 129)),(some (122,false))⟩,([],[])),(⟨(some 131),(.pick (.t 122) (.k (.c (.v (.bool true)))) (.t 130)),(some (113,true))⟩,([],[])),(⟨(some 132),(.pick (.t 113) (.t 131) (.k (.c (.v (.bool false))))),none⟩,([],[]))]) (.kill [1,10,105,106,107,108,109,110,111,112,113,114,115,116,117,118,119,120,121,122,123,124,125,126,127,128,129,130,131] (.cond (.t 132) (.seq (.ops [⟨(some 2),(.mv (.k (.c (.v (.bool false))))),none⟩]) (.kill [5,132] .ret)) .skip))) (.kill [2,132] (.seq (.draw [(⟨(some 133),(.mv (.t 5)),none⟩,([],[136,137,138])),(⟨(some 134),(.ia 1 (.t 133) (.k (.c (.v (.int .i64 0))))),none⟩,([],[136,137,138])),(⟨(some 135),(.ld false 1 (.t 134)),none⟩,([],[136,137,138])),(⟨(some 136),(.mv (.t 5)),none⟩,([0,1,2],[133,134,135])),(⟨(some 137),(.ia 1 (.t 136) (.k (.c (.v (.int .i64 1))))),none⟩,([0,1,2],[133,134,135])),(⟨(some 138),(.ld false 1 (.t 137)),none⟩,([0,1,2],[133,134,135])),(⟨(some 139),(.call 38 [(.t 135),(.t 138)]),none⟩,([],[])),(⟨(some 140),(.mv (.t 139)),none⟩,([],[])),(⟨(some 141),(.mv (.t 5)),(some (140,true))⟩,([],[144,145,146])),(⟨(some 142),(.ia 1 (.t 141) (.k (.c (.v (.int .i64 1))))),(some (140,true))⟩,([],[144,145,146])),(⟨(some 143),(.ld false 1 (.t 142)),(some (140,true))⟩,([],[144,145,146])),(⟨(some 144),(.mv (.t 5)),(some (140,true))⟩,([8,9,10],[141,142,143])),(⟨(some 145),(.ia 1 (.t 144) (.k (.c (.v (.int .i64 2))))),(some (140,true))⟩,([8,9,10],[141,142,143])),(⟨(some 146),(.ld false 1 (.t 145)),(some (140,true))⟩,([8,9,10],[141,142,143])),(⟨(some 147),(.call 38 [(.t 143),(.t 146)]),(some (140,true))⟩,([],[])),(⟨(some 148),(.pick (.t 140) (.t 147) (.k (.c (.v (.bool false))))),none⟩,([],[])),(⟨(some 2),(.mv (.t 148)),none⟩,([],[]))]) (.kill [5,133,134,135,136,137,138,139,140,141,142,143,144,145,146,147,148] .ret))))))))))))))))))
def rs9:List RS:=[(.t 2)]
def nt9:Nat:=149
set_option maxRecDepth 100000 in
set_option maxHeartbeats 1000000 in
theorem orders_walk (w:World) (v:Value) (L:Lt) (hok:LtOk L) (h:LtR w v L):Calls Try.prog 9 #[v] w (RetV w (.bool true)):=by
 refine enterLt (A:=[]) (c:=ir9) (rs:=rs9) (nt:=nt9) h [.agg (ltS 0)] _ Try.func9 rfl (by kernel_rfl) (by kernel_rfl) rfl (fun E' h0=>by simp only [List.map_cons,List.map_nil,h0]) (of_decide_eq_true rfl) ?_
 simp (maxSteps:=2000000) only [ir9,nt9,rs9,go_sem,↓reduceIte,Nat.reduceLT,Nat.reduceLeDiff,Nat.reduceAdd,Nat.reduceSub,Nat.reduceMul,Nat.reduceEqDiff,reduceCtorEq,Int.reduceToNat,Int.reduceEq,Int.reduceBEq,Int.reduceBNe,Int.reduceLT,Int.reduceLE,Int.reduceNeg,Int.reduceAdd,Int.reduceSub,Int.reduceMul,Int.reduceGE,Int.reduceGT,endO,ltA,ltS]
 refine callV (.c (.v (.bool true))) _ (fun E=>rfl) (fun E a w' hs=>awake_calls w') ?_
 simp (maxSteps:=2000000) only [go_sem,↓reduceIte,Nat.reduceLT,Nat.reduceLeDiff,Nat.reduceAdd,Nat.reduceSub,Nat.reduceMul,Nat.reduceEqDiff,reduceCtorEq,Int.reduceToNat,Int.reduceEq,Int.reduceBEq,Int.reduceBNe,Int.reduceLT,Int.reduceLE,Int.reduceNeg,Int.reduceAdd,Int.reduceSub,Int.reduceMul,Int.reduceGE,Int.reduceGT,endO]
 by_cases hL:checkB L=true
 ·refine callV (.c (.v (.bool true))) _ (fun E=>rfl) (fun E a w' hs=>by
   have:=rcheck_calls w' _ L (ltL_at hs rfl rfl rfl)
   rw [hL] at this
   exact this) ?_
  simp (maxSteps:=2000000) only [go_sem,↓reduceIte,Nat.reduceLT,Nat.reduceLeDiff,Nat.reduceAdd,Nat.reduceSub,Nat.reduceMul,Nat.reduceEqDiff,reduceCtorEq,Int.reduceToNat,Int.reduceEq,Int.reduceBEq,Int.reduceBNe,Int.reduceLT,Int.reduceLE,Int.reduceNeg,Int.reduceAdd,Int.reduceSub,Int.reduceMul,Int.reduceGE,Int.reduceGT,endO]
  refine loop_unr 4 ?_
  intro ι1 I1 μ1 i1 hk1
  simp (maxSteps:=2000000) only [go_sem,↓reduceIte,Nat.reduceLT,Nat.reduceLeDiff,Nat.reduceAdd,Nat.reduceSub,Nat.reduceMul,Nat.reduceEqDiff,reduceCtorEq,Int.reduceToNat,Int.reduceEq,Int.reduceBEq,Int.reduceBNe,Int.reduceLT,Int.reduceLE,Int.reduceNeg,Int.reduceAdd,Int.reduceSub,Int.reduceMul,Int.reduceGE,Int.reduceGT,endO]
  cases hb1:bfs L 1 with
  | none =>
   refine callV (nilF 192) _ (nilF_den _) (fun E a w' hs=>by
    have:=ifin_calls w' _ L 1 hL ⟨by decide,by decide⟩ hok (ltL_at hs rfl rfl rfl)
    unfold FinR at this
    rw [hb1] at this
    exact this) ?_
   simp (maxSteps:=2000000) only [go_sem,↓reduceIte,Nat.reduceLT,Nat.reduceLeDiff,Nat.reduceAdd,Nat.reduceSub,Nat.reduceMul,Nat.reduceEqDiff,reduceCtorEq,Int.reduceToNat,Int.reduceEq,Int.reduceBEq,Int.reduceBNe,Int.reduceLT,Int.reduceLE,Int.reduceNeg,Int.reduceAdd,Int.reduceSub,Int.reduceMul,Int.reduceGE,Int.reduceGT,endO,nilF]
   refine callV (.c (.v (.int .i64 192))) _ (fun E=>rfl) (fun E a w' hs=>num_calls w' _) ?_
   simp (maxSteps:=2000000) only [go_sem,↓reduceIte,Nat.reduceLT,Nat.reduceLeDiff,Nat.reduceAdd,Nat.reduceSub,Nat.reduceMul,Nat.reduceEqDiff,reduceCtorEq,Int.reduceToNat,Int.reduceEq,Int.reduceBEq,Int.reduceBNe,Int.reduceLT,Int.reduceLE,Int.reduceNeg,Int.reduceAdd,Int.reduceSub,Int.reduceMul,Int.reduceGE,Int.reduceGT,endO]
   exact retV fun E=>by simp [SV.den,SC.den]
  | some l1 =>
   have hne1:0<(finsL L (l1.map (·.s))).length:=List.length_pos_iff.2 (fins_ne hL ⟨by decide,by decide⟩ hb1)
   have hrd1:∀ (w' : World) (u u' : Value) (f:Fn),f∈finsL L (l1.map (·.s))→LtR w' u L→FnR w' u' f→Calls Try.prog 37 #[u,.int .i64 1,u'] w' (RetV w' (.bool true)):=fun w' u u' f hf g g'=>reached_calls w' u u' L 1 f hL ⟨by decide,by decide⟩ hok g g' hb1 hf
   have hfc1:∀ (w' : World) (u:Value),LtR w' u L→Calls Try.prog 26 #[u,.int .i64 1] w' (RetN w' 3 (leT 2 (finsL L (l1.map (·.s))).length 0) (fun b=>foO b (finsL L (l1.map (·.s))))):=fun w' u g=>by
    have:=ifin_calls w' u L 1 hL ⟨by decide,by decide⟩ hok g
    unfold FinR at this
    rw [hb1] at this
    exact this
   generalize hf1:finsL L (l1.map (·.s))=f1 at hne1 hrd1 hfc1
   refine callN 3 (leT 2 f1.length 0) (fun b=>foO b f1) (fun E a w' hs=>hfc1 w' _ (ltL_at hs rfl rfl rfl)) ?_
   simp (maxSteps:=2000000) only [go_sem,↓reduceIte,Nat.reduceLT,Nat.reduceLeDiff,Nat.reduceAdd,Nat.reduceSub,Nat.reduceMul,Nat.reduceEqDiff,reduceCtorEq,Int.reduceToNat,Int.reduceEq,Int.reduceBEq,Int.reduceBNe,Int.reduceLT,Int.reduceLE,Int.reduceNeg,Int.reduceAdd,Int.reduceSub,Int.reduceMul,Int.reduceGE,Int.reduceGT,endO,leT,foO]
   refine callV (.c (.v (.int .i64 0))) _ (fun E=>rfl) (fun E a w' hs=>num_calls w' _) ?_
   simp (maxSteps:=2000000) only [go_sem,↓reduceIte,Nat.reduceLT,Nat.reduceLeDiff,Nat.reduceAdd,Nat.reduceSub,Nat.reduceMul,Nat.reduceEqDiff,reduceCtorEq,Int.reduceToNat,Int.reduceEq,Int.reduceBEq,Int.reduceBNe,Int.reduceLT,Int.reduceLE,Int.reduceNeg,Int.reduceAdd,Int.reduceSub,Int.reduceMul,Int.reduceGE,Int.reduceGT,endO]
   refine callV (.c (.v (.int .i64 0))) _ (fun E=>rfl) (fun E a w' hs=>num_calls w' _) ?_
   have hz1:((f1.length:Int) == 0)=false:=beq_eq_false_iff_ne.2 (by omega)
   have hml1:f1.length≤30000:=by
    rw [← hf1]
    exact fins_len hL hb1
   simp (maxSteps:=2000000) only [go_sem,↓reduceIte,Nat.reduceLT,Nat.reduceLeDiff,Nat.reduceAdd,Nat.reduceSub,Nat.reduceMul,Nat.reduceEqDiff,reduceCtorEq,Int.reduceToNat,Int.reduceEq,Int.reduceBEq,Int.reduceBNe,Int.reduceLT,Int.reduceLE,Int.reduceNeg,Int.reduceAdd,Int.reduceSub,Int.reduceMul,Int.reduceGE,Int.reduceGT,endO,hz1]
   refine loop_tm (fun j=>[(1,.c (.ptr (3,0,0) 0)),(5,.c (.v (.slice none 0 0))),(6,.c (.v (.int .i64 1))),(7,.c (.sl (4,0,0) 2 0 f1.length none)),(9,.c (.v (.int .i64 (j:Nat))))]) f1.length (by simp [TmpsSub,look]) ?_
   intro j hj
   simp (maxSteps:=2000000) only [go_sem,↓reduceIte,Nat.reduceLT,Nat.reduceLeDiff,Nat.reduceAdd,Nat.reduceSub,Nat.reduceMul,Nat.reduceEqDiff,reduceCtorEq,Int.reduceToNat,Int.reduceEq,Int.reduceBEq,Int.reduceBNe,Int.reduceLT,Int.reduceLE,Int.reduceNeg,Int.reduceAdd,Int.reduceSub,Int.reduceMul,Int.reduceGE,Int.reduceGT,endO]
   refine both (fun hlt=>?_) (fun hge=>?_)
   ·have hlt:j<f1.length:=by
     have:=of_decide_eq_true hlt
     omega
    refine draw_vc (by kernel_rfl) (mkTab_ok _ _) (of_decide_eq_true rfl) (of_decide_eq_true rfl) ?_
    repeat (first | simp (maxSteps:=2000000) only [go_sem,↓reduceIte,Nat.reduceLT,Nat.reduceLeDiff,Nat.reduceAdd,Nat.reduceSub,Nat.reduceMul,Nat.reduceEqDiff,reduceCtorEq,Int.reduceToNat,Int.reduceEq,Int.reduceBEq,Int.reduceBNe,Int.reduceLT,Int.reduceLE,Int.reduceNeg,Int.reduceAdd,Int.reduceSub,Int.reduceMul,Int.reduceGE,Int.reduceGT,endO,foC] | rw [dr_cons])
    refine And.intro ⟨hlt,Nat.le_refl _⟩ (And.intro hlt ?_)
    refine dcallV (.c (.v (.bool true))) _ (fun E=>rfl) (fun E a' w' hs=>hrd1 w' _ _ _ (getD_memE (d:=fn0) hlt) (ltL_at hs rfl rfl rfl) (fo_at hs 4 j hlt rfl rfl)) ?_
    repeat (first | simp (maxSteps:=2000000) only [go_sem,↓reduceIte,Nat.reduceLT,Nat.reduceLeDiff,Nat.reduceAdd,Nat.reduceSub,Nat.reduceMul,Nat.reduceEqDiff,reduceCtorEq,Int.reduceToNat,Int.reduceEq,Int.reduceBEq,Int.reduceBNe,Int.reduceLT,Int.reduceLE,Int.reduceNeg,Int.reduceAdd,Int.reduceSub,Int.reduceMul,Int.reduceGE,Int.reduceGT,endO] | rw [dr_cons])
    rw [wr_succ (by omega)]
    exact backI ⟨j+1,hlt⟩ (by simp only;omega) (le_tmps (by simp [TmpsSub,look]))
   ·refine And.intro (by decide) (And.intro (by decide) (hk1 _ ?_))
    intro ι2 I2 μ2 i2 hk2
    simp (maxSteps:=2000000) only [go_sem,↓reduceIte,Nat.reduceLT,Nat.reduceLeDiff,Nat.reduceAdd,Nat.reduceSub,Nat.reduceMul,Nat.reduceEqDiff,reduceCtorEq,Int.reduceToNat,Int.reduceEq,Int.reduceBEq,Int.reduceBNe,Int.reduceLT,Int.reduceLE,Int.reduceNeg,Int.reduceAdd,Int.reduceSub,Int.reduceMul,Int.reduceGE,Int.reduceGT,endO]
    cases hb2:bfs L 2 with
    | none =>
     refine callV (nilF 192) _ (nilF_den _) (fun E a w' hs=>by
      have:=ifin_calls w' _ L 2 hL ⟨by decide,by decide⟩ hok (ltL_at hs rfl rfl rfl)
      unfold FinR at this
      rw [hb2] at this
      exact this) ?_
     simp (maxSteps:=2000000) only [go_sem,↓reduceIte,Nat.reduceLT,Nat.reduceLeDiff,Nat.reduceAdd,Nat.reduceSub,Nat.reduceMul,Nat.reduceEqDiff,reduceCtorEq,Int.reduceToNat,Int.reduceEq,Int.reduceBEq,Int.reduceBNe,Int.reduceLT,Int.reduceLE,Int.reduceNeg,Int.reduceAdd,Int.reduceSub,Int.reduceMul,Int.reduceGE,Int.reduceGT,endO,nilF]
     refine callV (.c (.v (.int .i64 192))) _ (fun E=>rfl) (fun E a w' hs=>num_calls w' _) ?_
     simp (maxSteps:=2000000) only [go_sem,↓reduceIte,Nat.reduceLT,Nat.reduceLeDiff,Nat.reduceAdd,Nat.reduceSub,Nat.reduceMul,Nat.reduceEqDiff,reduceCtorEq,Int.reduceToNat,Int.reduceEq,Int.reduceBEq,Int.reduceBNe,Int.reduceLT,Int.reduceLE,Int.reduceNeg,Int.reduceAdd,Int.reduceSub,Int.reduceMul,Int.reduceGE,Int.reduceGT,endO]
     exact retV fun E=>by simp [SV.den,SC.den]
    | some l2 =>
     have hne2:0<(finsL L (l2.map (·.s))).length:=List.length_pos_iff.2 (fins_ne hL ⟨by decide,by decide⟩ hb2)
     have hrd2:∀ (w' : World) (u u' : Value) (f:Fn),f∈finsL L (l2.map (·.s))→LtR w' u L→FnR w' u' f→Calls Try.prog 37 #[u,.int .i64 2,u'] w' (RetV w' (.bool true)):=fun w' u u' f hf g g'=>reached_calls w' u u' L 2 f hL ⟨by decide,by decide⟩ hok g g' hb2 hf
     have hfc2:∀ (w' : World) (u:Value),LtR w' u L→Calls Try.prog 26 #[u,.int .i64 2] w' (RetN w' 3 (leT 2 (finsL L (l2.map (·.s))).length 0) (fun b=>foO b (finsL L (l2.map (·.s))))):=fun w' u g=>by
      have:=ifin_calls w' u L 2 hL ⟨by decide,by decide⟩ hok g
      unfold FinR at this
      rw [hb2] at this
      exact this
     generalize hf2:finsL L (l2.map (·.s))=f2 at hne2 hrd2 hfc2
     refine callN 3 (leT 2 f2.length 0) (fun b=>foO b f2) (fun E a w' hs=>hfc2 w' _ (ltL_at hs rfl rfl rfl)) ?_
     simp (maxSteps:=2000000) only [go_sem,↓reduceIte,Nat.reduceLT,Nat.reduceLeDiff,Nat.reduceAdd,Nat.reduceSub,Nat.reduceMul,Nat.reduceEqDiff,reduceCtorEq,Int.reduceToNat,Int.reduceEq,Int.reduceBEq,Int.reduceBNe,Int.reduceLT,Int.reduceLE,Int.reduceNeg,Int.reduceAdd,Int.reduceSub,Int.reduceMul,Int.reduceGE,Int.reduceGT,endO,leT,foO]
     refine callV (.c (.v (.int .i64 0))) _ (fun E=>rfl) (fun E a w' hs=>num_calls w' _) ?_
     simp (maxSteps:=2000000) only [go_sem,↓reduceIte,Nat.reduceLT,Nat.reduceLeDiff,Nat.reduceAdd,Nat.reduceSub,Nat.reduceMul,Nat.reduceEqDiff,reduceCtorEq,Int.reduceToNat,Int.reduceEq,Int.reduceBEq,Int.reduceBNe,Int.reduceLT,Int.reduceLE,Int.reduceNeg,Int.reduceAdd,Int.reduceSub,Int.reduceMul,Int.reduceGE,Int.reduceGT,endO]
     refine callV (.c (.v (.int .i64 0))) _ (fun E=>rfl) (fun E a w' hs=>num_calls w' _) ?_
     have hz2:((f2.length:Int) == 0)=false:=beq_eq_false_iff_ne.2 (by omega)
     have hml2:f2.length≤30000:=by
      rw [← hf2]
      exact fins_len hL hb2
     simp (maxSteps:=2000000) only [go_sem,↓reduceIte,Nat.reduceLT,Nat.reduceLeDiff,Nat.reduceAdd,Nat.reduceSub,Nat.reduceMul,Nat.reduceEqDiff,reduceCtorEq,Int.reduceToNat,Int.reduceEq,Int.reduceBEq,Int.reduceBNe,Int.reduceLT,Int.reduceLE,Int.reduceNeg,Int.reduceAdd,Int.reduceSub,Int.reduceMul,Int.reduceGE,Int.reduceGT,endO,hz2]
     refine loop_tm (fun j=>[(1,.c (.ptr (3,0,0) 0)),(5,.c (.sl (8,0,0) 1 0 1 none)),(6,.c (.v (.int .i64 2))),(7,.c (.sl (9,0,0) 2 0 f2.length none)),(9,.c (.v (.int .i64 (j:Nat))))]) f2.length (by simp [TmpsSub,look]) ?_
     intro j hj
     simp (maxSteps:=2000000) only [go_sem,↓reduceIte,Nat.reduceLT,Nat.reduceLeDiff,Nat.reduceAdd,Nat.reduceSub,Nat.reduceMul,Nat.reduceEqDiff,reduceCtorEq,Int.reduceToNat,Int.reduceEq,Int.reduceBEq,Int.reduceBNe,Int.reduceLT,Int.reduceLE,Int.reduceNeg,Int.reduceAdd,Int.reduceSub,Int.reduceMul,Int.reduceGE,Int.reduceGT,endO]
     refine both (fun hlt=>?_) (fun hge=>?_)
     ·have hlt:j<f2.length:=by
       have:=of_decide_eq_true hlt
       omega
      refine draw_vc (by kernel_rfl) (mkTab_ok _ _) (of_decide_eq_true rfl) (of_decide_eq_true rfl) ?_
      repeat (first | simp (maxSteps:=2000000) only [go_sem,↓reduceIte,Nat.reduceLT,Nat.reduceLeDiff,Nat.reduceAdd,Nat.reduceSub,Nat.reduceMul,Nat.reduceEqDiff,reduceCtorEq,Int.reduceToNat,Int.reduceEq,Int.reduceBEq,Int.reduceBNe,Int.reduceLT,Int.reduceLE,Int.reduceNeg,Int.reduceAdd,Int.reduceSub,Int.reduceMul,Int.reduceGE,Int.reduceGT,endO,foC] | rw [dr_cons])
      refine And.intro ⟨hlt,Nat.le_refl _⟩ (And.intro hlt ?_)
      refine dcallV (.c (.v (.bool true))) _ (fun E=>rfl) (fun E a' w' hs=>hrd2 w' _ _ _ (getD_memE (d:=fn0) hlt) (ltL_at hs rfl rfl rfl) (fo_at hs 9 j hlt rfl rfl)) ?_
      repeat (first | simp (maxSteps:=2000000) only [go_sem,↓reduceIte,Nat.reduceLT,Nat.reduceLeDiff,Nat.reduceAdd,Nat.reduceSub,Nat.reduceMul,Nat.reduceEqDiff,reduceCtorEq,Int.reduceToNat,Int.reduceEq,Int.reduceBEq,Int.reduceBNe,Int.reduceLT,Int.reduceLE,Int.reduceNeg,Int.reduceAdd,Int.reduceSub,Int.reduceMul,Int.reduceGE,Int.reduceGT,endO] | rw [dr_cons])
      rw [wr_succ (by omega)]
      exact backI ⟨j+1,hlt⟩ (by simp only;omega) (le_tmps (by simp [TmpsSub,look]))
     ·refine And.intro (by decide) (And.intro (by decide) (hk2 _ ?_))
      intro ι3 I3 μ3 i3 hk3
      simp (maxSteps:=2000000) only [go_sem,↓reduceIte,Nat.reduceLT,Nat.reduceLeDiff,Nat.reduceAdd,Nat.reduceSub,Nat.reduceMul,Nat.reduceEqDiff,reduceCtorEq,Int.reduceToNat,Int.reduceEq,Int.reduceBEq,Int.reduceBNe,Int.reduceLT,Int.reduceLE,Int.reduceNeg,Int.reduceAdd,Int.reduceSub,Int.reduceMul,Int.reduceGE,Int.reduceGT,endO]
      cases hb3:bfs L 3 with
      | none =>
       refine callV (nilF 192) _ (nilF_den _) (fun E a w' hs=>by
        have:=ifin_calls w' _ L 3 hL ⟨by decide,by decide⟩ hok (ltL_at hs rfl rfl rfl)
        unfold FinR at this
        rw [hb3] at this
        exact this) ?_
       simp (maxSteps:=2000000) only [go_sem,↓reduceIte,Nat.reduceLT,Nat.reduceLeDiff,Nat.reduceAdd,Nat.reduceSub,Nat.reduceMul,Nat.reduceEqDiff,reduceCtorEq,Int.reduceToNat,Int.reduceEq,Int.reduceBEq,Int.reduceBNe,Int.reduceLT,Int.reduceLE,Int.reduceNeg,Int.reduceAdd,Int.reduceSub,Int.reduceMul,Int.reduceGE,Int.reduceGT,endO,nilF]
       refine callV (.c (.v (.int .i64 192))) _ (fun E=>rfl) (fun E a w' hs=>num_calls w' _) ?_
       simp (maxSteps:=2000000) only [go_sem,↓reduceIte,Nat.reduceLT,Nat.reduceLeDiff,Nat.reduceAdd,Nat.reduceSub,Nat.reduceMul,Nat.reduceEqDiff,reduceCtorEq,Int.reduceToNat,Int.reduceEq,Int.reduceBEq,Int.reduceBNe,Int.reduceLT,Int.reduceLE,Int.reduceNeg,Int.reduceAdd,Int.reduceSub,Int.reduceMul,Int.reduceGE,Int.reduceGT,endO]
       exact retV fun E=>by simp [SV.den,SC.den]
      | some l3 =>
       have hne3:0<(finsL L (l3.map (·.s))).length:=List.length_pos_iff.2 (fins_ne hL ⟨by decide,by decide⟩ hb3)
       have hrd3:∀ (w' : World) (u u' : Value) (f:Fn),f∈finsL L (l3.map (·.s))→LtR w' u L→FnR w' u' f→Calls Try.prog 37 #[u,.int .i64 3,u'] w' (RetV w' (.bool true)):=fun w' u u' f hf g g'=>reached_calls w' u u' L 3 f hL ⟨by decide,by decide⟩ hok g g' hb3 hf
       have hfc3:∀ (w' : World) (u:Value),LtR w' u L→Calls Try.prog 26 #[u,.int .i64 3] w' (RetN w' 3 (leT 2 (finsL L (l3.map (·.s))).length 0) (fun b=>foO b (finsL L (l3.map (·.s))))):=fun w' u g=>by
        have:=ifin_calls w' u L 3 hL ⟨by decide,by decide⟩ hok g
        unfold FinR at this
        rw [hb3] at this
        exact this
       generalize hf3:finsL L (l3.map (·.s))=f3 at hne3 hrd3 hfc3
       refine callN 3 (leT 2 f3.length 0) (fun b=>foO b f3) (fun E a w' hs=>hfc3 w' _ (ltL_at hs rfl rfl rfl)) ?_
       simp (maxSteps:=2000000) only [go_sem,↓reduceIte,Nat.reduceLT,Nat.reduceLeDiff,Nat.reduceAdd,Nat.reduceSub,Nat.reduceMul,Nat.reduceEqDiff,reduceCtorEq,Int.reduceToNat,Int.reduceEq,Int.reduceBEq,Int.reduceBNe,Int.reduceLT,Int.reduceLE,Int.reduceNeg,Int.reduceAdd,Int.reduceSub,Int.reduceMul,Int.reduceGE,Int.reduceGT,endO,leT,foO]
       refine callV (.c (.v (.int .i64 0))) _ (fun E=>rfl) (fun E a w' hs=>num_calls w' _) ?_
       simp (maxSteps:=2000000) only [go_sem,↓reduceIte,Nat.reduceLT,Nat.reduceLeDiff,Nat.reduceAdd,Nat.reduceSub,Nat.reduceMul,Nat.reduceEqDiff,reduceCtorEq,Int.reduceToNat,Int.reduceEq,Int.reduceBEq,Int.reduceBNe,Int.reduceLT,Int.reduceLE,Int.reduceNeg,Int.reduceAdd,Int.reduceSub,Int.reduceMul,Int.reduceGE,Int.reduceGT,endO]
       refine callV (.c (.v (.int .i64 0))) _ (fun E=>rfl) (fun E a w' hs=>num_calls w' _) ?_
       have hz3:((f3.length:Int) == 0)=false:=beq_eq_false_iff_ne.2 (by omega)
       have hml3:f3.length≤30000:=by
        rw [← hf3]
        exact fins_len hL hb3
       simp (maxSteps:=2000000) only [go_sem,↓reduceIte,Nat.reduceLT,Nat.reduceLeDiff,Nat.reduceAdd,Nat.reduceSub,Nat.reduceMul,Nat.reduceEqDiff,reduceCtorEq,Int.reduceToNat,Int.reduceEq,Int.reduceBEq,Int.reduceBNe,Int.reduceLT,Int.reduceLE,Int.reduceNeg,Int.reduceAdd,Int.reduceSub,Int.reduceMul,Int.reduceGE,Int.reduceGT,endO,hz3]
       refine loop_tm (fun j=>[(1,.c (.ptr (3,0,0) 0)),(5,.c (.sl (13,0,0) 1 0 2 none)),(6,.c (.v (.int .i64 3))),(7,.c (.sl (14,0,0) 2 0 f3.length none)),(9,.c (.v (.int .i64 (j:Nat))))]) f3.length (by simp [TmpsSub,look]) ?_
       intro j hj
       simp (maxSteps:=2000000) only [go_sem,↓reduceIte,Nat.reduceLT,Nat.reduceLeDiff,Nat.reduceAdd,Nat.reduceSub,Nat.reduceMul,Nat.reduceEqDiff,reduceCtorEq,Int.reduceToNat,Int.reduceEq,Int.reduceBEq,Int.reduceBNe,Int.reduceLT,Int.reduceLE,Int.reduceNeg,Int.reduceAdd,Int.reduceSub,Int.reduceMul,Int.reduceGE,Int.reduceGT,endO]
       refine both (fun hlt=>?_) (fun hge=>?_)
       ·have hlt:j<f3.length:=by
         have:=of_decide_eq_true hlt
         omega
        refine draw_vc (by kernel_rfl) (mkTab_ok _ _) (of_decide_eq_true rfl) (of_decide_eq_true rfl) ?_
        repeat (first | simp (maxSteps:=2000000) only [go_sem,↓reduceIte,Nat.reduceLT,Nat.reduceLeDiff,Nat.reduceAdd,Nat.reduceSub,Nat.reduceMul,Nat.reduceEqDiff,reduceCtorEq,Int.reduceToNat,Int.reduceEq,Int.reduceBEq,Int.reduceBNe,Int.reduceLT,Int.reduceLE,Int.reduceNeg,Int.reduceAdd,Int.reduceSub,Int.reduceMul,Int.reduceGE,Int.reduceGT,endO,foC] | rw [dr_cons])
        refine And.intro ⟨hlt,Nat.le_refl _⟩ (And.intro hlt ?_)
        refine dcallV (.c (.v (.bool true))) _ (fun E=>rfl) (fun E a' w' hs=>hrd3 w' _ _ _ (getD_memE (d:=fn0) hlt) (ltL_at hs rfl rfl rfl) (fo_at hs 14 j hlt rfl rfl)) ?_
        repeat (first | simp (maxSteps:=2000000) only [go_sem,↓reduceIte,Nat.reduceLT,Nat.reduceLeDiff,Nat.reduceAdd,Nat.reduceSub,Nat.reduceMul,Nat.reduceEqDiff,reduceCtorEq,Int.reduceToNat,Int.reduceEq,Int.reduceBEq,Int.reduceBNe,Int.reduceLT,Int.reduceLE,Int.reduceNeg,Int.reduceAdd,Int.reduceSub,Int.reduceMul,Int.reduceGE,Int.reduceGT,endO] | rw [dr_cons])
        rw [wr_succ (by omega)]
        exact backI ⟨j+1,hlt⟩ (by simp only;omega) (le_tmps (by simp [TmpsSub,look]))
       ·refine And.intro (by decide) (And.intro (by decide) (hk3 _ ?_))
        intro ι4 I4 μ4 i4 hk4
        simp (maxSteps:=2000000) only [go_sem,↓reduceIte,Nat.reduceLT,Nat.reduceLeDiff,Nat.reduceAdd,Nat.reduceSub,Nat.reduceMul,Nat.reduceEqDiff,reduceCtorEq,Int.reduceToNat,Int.reduceEq,Int.reduceBEq,Int.reduceBNe,Int.reduceLT,Int.reduceLE,Int.reduceNeg,Int.reduceAdd,Int.reduceSub,Int.reduceMul,Int.reduceGE,Int.reduceGT,endO]
        clear hk1 hk2 hk3 hk4
        generalize hC:(appAt 2 (appAt 1 (fun e=>take' 1 (drop' (e * 1) [SC.sl (4,0,0) 2 0 f1.length none])) fun e=>take' 1 (drop' (e * 1) [SC.sl (9,0,0) 2 0 f2.length none])) fun e=>take' 1 (drop' (e * 1) [SC.sl (14,0,0) 2 0 f3.length none]))=C
        have c0:C 0=[SC.sl (4,0,0) 2 0 f1.length none]:=by rw [← hC];rfl
        have c1:C 1=[SC.sl (9,0,0) 2 0 f2.length none]:=by rw [← hC];rfl
        have c2:C 2=[SC.sl (14,0,0) 2 0 f3.length none]:=by rw [← hC];rfl
        clear hC
        refine loop_tm (fun t=>[(1,.c (.ptr (3,0,0) 0)),(5,.c (.sl (18,0,0) 1 0 3 none)),(10,.c (.v (.int .i64 (sT L t:Nat)))),(11,.c (.v (.int .i64 (t:Nat))))]) L.thr.length (by simp [TmpsSub,look,sT]) ?_
        intro t ht
        have hst:=sT_le hL t ht
        have hz4:=(sz_at hL).2.1
        simp (maxSteps:=2000000) only [go_sem,↓reduceIte,Nat.reduceLT,Nat.reduceLeDiff,Nat.reduceAdd,Nat.reduceSub,Nat.reduceMul,Nat.reduceEqDiff,reduceCtorEq,Int.reduceToNat,Int.reduceEq,Int.reduceBEq,Int.reduceBNe,Int.reduceLT,Int.reduceLE,Int.reduceNeg,Int.reduceAdd,Int.reduceSub,Int.reduceMul,Int.reduceGE,Int.reduceGT,endO,c0,c1,c2]
        refine both (fun hlt=>?_) (fun hge=>?_)
        ·have hlt:t<L.thr.length:=by
          have:=of_decide_eq_true hlt
          omega
         have hcl:=(fits_at hL hlt).1
         have hsu:sT L (t+1)=sT L t+stN (L.thr.getD t []):=rfl
         refine loop_tm (fun i=>[(1,.c (.ptr (3,0,0) 0)),(5,.c (.sl (18,0,0) 1 0 3 none)),(10,.c (.v (.int .i64 (sT L t+stN ((L.thr.getD t []).take i):Nat)))),(11,.c (.v (.int .i64 t))),(12,.c (.v (.int .i64 (i:Nat))))]) (L.thr.getD t []).length (by simp [TmpsSub,look,stN]) ?_
         intro i hi
         have hsn:=stN_le ((L.thr.getD t []).take i)
         rw [List.length_take] at hsn
         simp (maxSteps:=2000000) only [go_sem,↓reduceIte,Nat.reduceLT,Nat.reduceLeDiff,Nat.reduceAdd,Nat.reduceSub,Nat.reduceMul,Nat.reduceEqDiff,reduceCtorEq,Int.reduceToNat,Int.reduceEq,Int.reduceBEq,Int.reduceBNe,Int.reduceLT,Int.reduceLE,Int.reduceNeg,Int.reduceAdd,Int.reduceSub,Int.reduceMul,Int.reduceGE,Int.reduceGT,endO,Ins.enc]
         refine And.intro hlt (And.intro hlt (And.intro hlt (both (fun hli=>?_) (fun hgi=>?_))))
         ·have hli:i<(L.thr.getD t []).length:=by
           have:=of_decide_eq_true hli
           omega
          have hss:=stN_take hli
          refine And.intro hlt (And.intro hlt (And.intro ⟨hlt,hli⟩ (And.intro ⟨hlt,hli⟩ (And.intro ⟨hlt,hli⟩ (both (fun hk=>?_) (fun hk=>?_))))))
          ·rw [if_pos (by simpa using hk)] at hss
           have e:sT L t+stN ((L.thr.getD t []).take i)+1=sT L t+stN ((L.thr.getD t []).take (i+1)):=by omega
           rw [wr_succ (n:=sT L t+stN ((L.thr.getD t []).take i)) (by omega),wr_succ (n:=i) (by omega),e]
           exact backI ⟨i+1,hli⟩ (by simp only;omega) (le_tmps (by simp [TmpsSub,look]))
          ·rw [if_neg (by simpa using hk)] at hss
           have e:sT L t+stN ((L.thr.getD t []).take i)=sT L t+stN ((L.thr.getD t []).take (i+1)):=by omega
           rw [wr_succ (n:=i) (by omega),e]
           exact backI ⟨i+1,hli⟩ (by simp only;omega) (le_tmps (by simp [TmpsSub,look]))
         ·have hgi:i=(L.thr.getD t []).length:=by
           have:=of_decide_eq_false hgi
           omega
          subst hgi
          rw [List.take_length,← hsu,wr_succ (by omega)]
          exact backI ⟨t+1,hlt⟩ (by simp only;omega) (le_tmps (by simp [TmpsSub,look]))
        ·have hge:t=L.thr.length:=by
          have:=of_decide_eq_false hge
          omega
         subst hge
         have hs12:∀ x∈f1,x∈f2:=by
          rw [← hf1,← hf2]
          exact bfs_sub hL hb1 hb2 fun s h=>rch_12 hL h
         have hs23:∀ x∈f2,x∈f3:=by
          rw [← hf2,← hf3]
          exact bfs_sub hL hb2 hb3 fun s h=>rch_23 hL h
         have hsame:L.thr.length=1∨sT L L.thr.length=0→f1=f2∧f1=f3:=fun hc=>by
          rw [← hf1,← hf2,← hf3]
          rcases hc with h1 | h0
          ·exact ⟨fins_one hL h1 (Or.inl rfl) hb1 hb2 fun s h=>rch_12 hL h,fins_one hL h1 (Or.inr rfl) hb1 hb3 fun s h=>rch_23 hL (rch_12 hL h)⟩
          ·exact ⟨fins_no (o:=1) hL (no_st h0) hb1 hb2 fun s h=>rch_12 hL h,fins_no (o:=1) hL (no_st h0) hb1 hb3 fun s h=>rch_23 hL (rch_12 hL h)⟩
         have hone:L.thr.length=1→f1.length=1:=fun h1=>by
          rw [← hf1]
          exact fins_one1 hL h1 hb1
         refine both (fun hbad=>?_) (fun _=>?_)
         ·exfalso
          split at hbad
          ·next h1 =>
           have h1:L.thr.length=1:=by
            have:=eq_of_beq h1
            omega
           rw [hone h1] at hbad
           exact absurd hbad (by decide)
          ·cases hbad
         ·by_cases h1:L.thr.length=1
          ·have dA:((L.thr.length:Int) == 1)=true:=beq_iff_eq.2 (by omega)
           obtain ⟨q2,q3⟩:=hsame (Or.inl h1)
           refine draw_vc (by kernel_rfl) (mkTab_ok _ _) (of_decide_eq_true rfl) (of_decide_eq_true rfl) ?_
           repeat (first | simp (maxSteps:=2000000) only [go_sem,↓reduceIte,Nat.reduceLT,Nat.reduceLeDiff,Nat.reduceAdd,Nat.reduceSub,Nat.reduceMul,Nat.reduceEqDiff,reduceCtorEq,Int.reduceToNat,Int.reduceEq,Int.reduceBEq,Int.reduceBNe,Int.reduceLT,Int.reduceLE,Int.reduceNeg,Int.reduceAdd,Int.reduceSub,Int.reduceMul,Int.reduceGE,Int.reduceGT,endO,dA,c0,c1,c2] | rw [dr_cons])
           refine Or.inl ⟨.c (.v (.bool true)),crv_retV _ _ (fun E=>rfl) (fun E a w' hs=>by
            have:=sfinalsD_calls w' _ _ f1 f2 (fns_own hs 4 rfl rfl rfl) (fns_own hs 9 rfl rfl rfl)
            rw [decide_eq_true q2] at this
            exact this),?_⟩
           repeat (first | simp (maxSteps:=2000000) only [go_sem,↓reduceIte,Nat.reduceLT,Nat.reduceLeDiff,Nat.reduceAdd,Nat.reduceSub,Nat.reduceMul,Nat.reduceEqDiff,reduceCtorEq,Int.reduceToNat,Int.reduceEq,Int.reduceBEq,Int.reduceBNe,Int.reduceLT,Int.reduceLE,Int.reduceNeg,Int.reduceAdd,Int.reduceSub,Int.reduceMul,Int.reduceGE,Int.reduceGT,endO,dA,c0,c1,c2] | rw [dr_cons])
           refine dcallV (.c (.v (.bool true))) _ (fun E=>rfl) (fun E a w' hs=>by
            have:=sfinalsD_calls w' _ _ f1 f3 (fns_own hs 4 rfl rfl rfl) (fns_own hs 14 rfl rfl rfl)
            rw [decide_eq_true q3] at this
            exact this) ?_
           repeat (first | simp (maxSteps:=2000000) only [go_sem,↓reduceIte,Nat.reduceLT,Nat.reduceLeDiff,Nat.reduceAdd,Nat.reduceSub,Nat.reduceMul,Nat.reduceEqDiff,reduceCtorEq,Int.reduceToNat,Int.reduceEq,Int.reduceBEq,Int.reduceBNe,Int.reduceLT,Int.reduceLE,Int.reduceNeg,Int.reduceAdd,Int.reduceSub,Int.reduceMul,Int.reduceGE,Int.reduceGT,endO,dA,c0,c1,c2] | rw [dr_cons])
           refine draw_vc (by kernel_rfl) (mkTab_ok _ _) (of_decide_eq_true rfl) (of_decide_eq_true rfl) ?_
           repeat (first | simp (maxSteps:=2000000) only [go_sem,↓reduceIte,Nat.reduceLT,Nat.reduceLeDiff,Nat.reduceAdd,Nat.reduceSub,Nat.reduceMul,Nat.reduceEqDiff,reduceCtorEq,Int.reduceToNat,Int.reduceEq,Int.reduceBEq,Int.reduceBNe,Int.reduceLT,Int.reduceLE,Int.reduceNeg,Int.reduceAdd,Int.reduceSub,Int.reduceMul,Int.reduceGE,Int.reduceGT,endO,c0,c1,c2] | rw [dr_cons])
           refine dcallV (.c (.v (.bool true))) _ (fun E=>rfl) (fun E a w' hs=>among_calls w' _ _ f1 f2 hs12 (fns_own hs 4 rfl rfl rfl) (fns_own hs 9 rfl rfl rfl)) ?_
           repeat (first | simp (maxSteps:=2000000) only [go_sem,↓reduceIte,Nat.reduceLT,Nat.reduceLeDiff,Nat.reduceAdd,Nat.reduceSub,Nat.reduceMul,Nat.reduceEqDiff,reduceCtorEq,Int.reduceToNat,Int.reduceEq,Int.reduceBEq,Int.reduceBNe,Int.reduceLT,Int.reduceLE,Int.reduceNeg,Int.reduceAdd,Int.reduceSub,Int.reduceMul,Int.reduceGE,Int.reduceGT,endO,c0,c1,c2] | rw [dr_cons])
           refine dcallV (.c (.v (.bool true))) _ (fun E=>rfl) (fun E a w' hs=>among_calls w' _ _ f2 f3 hs23 (fns_own hs 9 rfl rfl rfl) (fns_own hs 14 rfl rfl rfl)) ?_
           repeat (first | simp (maxSteps:=2000000) only [go_sem,↓reduceIte,Nat.reduceLT,Nat.reduceLeDiff,Nat.reduceAdd,Nat.reduceSub,Nat.reduceMul,Nat.reduceEqDiff,reduceCtorEq,Int.reduceToNat,Int.reduceEq,Int.reduceBEq,Int.reduceBNe,Int.reduceLT,Int.reduceLE,Int.reduceNeg,Int.reduceAdd,Int.reduceSub,Int.reduceMul,Int.reduceGE,Int.reduceGT,endO,c0,c1,c2] | rw [dr_cons])
           exact retV fun E=>by simp [SV.den,SC.den]
          ·have dA:((L.thr.length:Int) == 1)=false:=beq_eq_false_iff_ne.2 (by omega)
           by_cases h0:sT L L.thr.length=0
           ·have dB:((sT L L.thr.length:Int) == 0)=true:=beq_iff_eq.2 (by omega)
            obtain ⟨q2,q3⟩:=hsame (Or.inr h0)
            refine draw_vc (by kernel_rfl) (mkTab_ok _ _) (of_decide_eq_true rfl) (of_decide_eq_true rfl) ?_
            repeat (first | simp (maxSteps:=2000000) only [go_sem,↓reduceIte,Nat.reduceLT,Nat.reduceLeDiff,Nat.reduceAdd,Nat.reduceSub,Nat.reduceMul,Nat.reduceEqDiff,reduceCtorEq,Int.reduceToNat,Int.reduceEq,Int.reduceBEq,Int.reduceBNe,Int.reduceLT,Int.reduceLE,Int.reduceNeg,Int.reduceAdd,Int.reduceSub,Int.reduceMul,Int.reduceGE,Int.reduceGT,endO,dA,dB,c0,c1,c2] | rw [dr_cons])
            refine Or.inl ⟨.c (.v (.bool true)),crv_retV _ _ (fun E=>rfl) (fun E a w' hs=>by
             have:=sfinalsD_calls w' _ _ f1 f2 (fns_own hs 4 rfl rfl rfl) (fns_own hs 9 rfl rfl rfl)
             rw [decide_eq_true q2] at this
             exact this),?_⟩
            repeat (first | simp (maxSteps:=2000000) only [go_sem,↓reduceIte,Nat.reduceLT,Nat.reduceLeDiff,Nat.reduceAdd,Nat.reduceSub,Nat.reduceMul,Nat.reduceEqDiff,reduceCtorEq,Int.reduceToNat,Int.reduceEq,Int.reduceBEq,Int.reduceBNe,Int.reduceLT,Int.reduceLE,Int.reduceNeg,Int.reduceAdd,Int.reduceSub,Int.reduceMul,Int.reduceGE,Int.reduceGT,endO,dA,dB,c0,c1,c2] | rw [dr_cons])
            refine dcallV (.c (.v (.bool true))) _ (fun E=>rfl) (fun E a w' hs=>by
             have:=sfinalsD_calls w' _ _ f1 f3 (fns_own hs 4 rfl rfl rfl) (fns_own hs 14 rfl rfl rfl)
             rw [decide_eq_true q3] at this
             exact this) ?_
            repeat (first | simp (maxSteps:=2000000) only [go_sem,↓reduceIte,Nat.reduceLT,Nat.reduceLeDiff,Nat.reduceAdd,Nat.reduceSub,Nat.reduceMul,Nat.reduceEqDiff,reduceCtorEq,Int.reduceToNat,Int.reduceEq,Int.reduceBEq,Int.reduceBNe,Int.reduceLT,Int.reduceLE,Int.reduceNeg,Int.reduceAdd,Int.reduceSub,Int.reduceMul,Int.reduceGE,Int.reduceGT,endO,dA,dB,c0,c1,c2] | rw [dr_cons])
            refine draw_vc (by kernel_rfl) (mkTab_ok _ _) (of_decide_eq_true rfl) (of_decide_eq_true rfl) ?_
            repeat (first | simp (maxSteps:=2000000) only [go_sem,↓reduceIte,Nat.reduceLT,Nat.reduceLeDiff,Nat.reduceAdd,Nat.reduceSub,Nat.reduceMul,Nat.reduceEqDiff,reduceCtorEq,Int.reduceToNat,Int.reduceEq,Int.reduceBEq,Int.reduceBNe,Int.reduceLT,Int.reduceLE,Int.reduceNeg,Int.reduceAdd,Int.reduceSub,Int.reduceMul,Int.reduceGE,Int.reduceGT,endO,c0,c1,c2] | rw [dr_cons])
            refine dcallV (.c (.v (.bool true))) _ (fun E=>rfl) (fun E a w' hs=>among_calls w' _ _ f1 f2 hs12 (fns_own hs 4 rfl rfl rfl) (fns_own hs 9 rfl rfl rfl)) ?_
            repeat (first | simp (maxSteps:=2000000) only [go_sem,↓reduceIte,Nat.reduceLT,Nat.reduceLeDiff,Nat.reduceAdd,Nat.reduceSub,Nat.reduceMul,Nat.reduceEqDiff,reduceCtorEq,Int.reduceToNat,Int.reduceEq,Int.reduceBEq,Int.reduceBNe,Int.reduceLT,Int.reduceLE,Int.reduceNeg,Int.reduceAdd,Int.reduceSub,Int.reduceMul,Int.reduceGE,Int.reduceGT,endO,c0,c1,c2] | rw [dr_cons])
            refine dcallV (.c (.v (.bool true))) _ (fun E=>rfl) (fun E a w' hs=>among_calls w' _ _ f2 f3 hs23 (fns_own hs 9 rfl rfl rfl) (fns_own hs 14 rfl rfl rfl)) ?_
            repeat (first | simp (maxSteps:=2000000) only [go_sem,↓reduceIte,Nat.reduceLT,Nat.reduceLeDiff,Nat.reduceAdd,Nat.reduceSub,Nat.reduceMul,Nat.reduceEqDiff,reduceCtorEq,Int.reduceToNat,Int.reduceEq,Int.reduceBEq,Int.reduceBNe,Int.reduceLT,Int.reduceLE,Int.reduceNeg,Int.reduceAdd,Int.reduceSub,Int.reduceMul,Int.reduceGE,Int.reduceGT,endO,c0,c1,c2] | rw [dr_cons])
            exact retV fun E=>by simp [SV.den,SC.den]
           ·have dB:((sT L L.thr.length:Int) == 0)=false:=beq_eq_false_iff_ne.2 (by omega)
            refine draw_vc (by kernel_rfl) (mkTab_ok _ _) (of_decide_eq_true rfl) (of_decide_eq_true rfl) ?_
            repeat (first | simp (maxSteps:=2000000) only [go_sem,↓reduceIte,Nat.reduceLT,Nat.reduceLeDiff,Nat.reduceAdd,Nat.reduceSub,Nat.reduceMul,Nat.reduceEqDiff,reduceCtorEq,Int.reduceToNat,Int.reduceEq,Int.reduceBEq,Int.reduceBNe,Int.reduceLT,Int.reduceLE,Int.reduceNeg,Int.reduceAdd,Int.reduceSub,Int.reduceMul,Int.reduceGE,Int.reduceGT,endO,dA,dB,c0,c1,c2] | rw [dr_cons])
            refine Or.inl ⟨.c (.bo true),?_⟩
            repeat (first | simp (maxSteps:=2000000) only [go_sem,↓reduceIte,Nat.reduceLT,Nat.reduceLeDiff,Nat.reduceAdd,Nat.reduceSub,Nat.reduceMul,Nat.reduceEqDiff,reduceCtorEq,Int.reduceToNat,Int.reduceEq,Int.reduceBEq,Int.reduceBNe,Int.reduceLT,Int.reduceLE,Int.reduceNeg,Int.reduceAdd,Int.reduceSub,Int.reduceMul,Int.reduceGE,Int.reduceGT,endO,dA,dB,c0,c1,c2] | rw [dr_cons])
            refine ⟨.c (.bo true),?_⟩
            repeat (first | simp (maxSteps:=2000000) only [go_sem,↓reduceIte,Nat.reduceLT,Nat.reduceLeDiff,Nat.reduceAdd,Nat.reduceSub,Nat.reduceMul,Nat.reduceEqDiff,reduceCtorEq,Int.reduceToNat,Int.reduceEq,Int.reduceBEq,Int.reduceBNe,Int.reduceLT,Int.reduceLE,Int.reduceNeg,Int.reduceAdd,Int.reduceSub,Int.reduceMul,Int.reduceGE,Int.reduceGT,endO,dA,dB,c0,c1,c2] | rw [dr_cons])
            refine draw_vc (by kernel_rfl) (mkTab_ok _ _) (of_decide_eq_true rfl) (of_decide_eq_true rfl) ?_
            repeat (first | simp (maxSteps:=2000000) only [go_sem,↓reduceIte,Nat.reduceLT,Nat.reduceLeDiff,Nat.reduceAdd,Nat.reduceSub,Nat.reduceMul,Nat.reduceEqDiff,reduceCtorEq,Int.reduceToNat,Int.reduceEq,Int.reduceBEq,Int.reduceBNe,Int.reduceLT,Int.reduceLE,Int.reduceNeg,Int.reduceAdd,Int.reduceSub,Int.reduceMul,Int.reduceGE,Int.reduceGT,endO,c0,c1,c2] | rw [dr_cons])
            refine dcallV (.c (.v (.bool true))) _ (fun E=>rfl) (fun E a w' hs=>among_calls w' _ _ f1 f2 hs12 (fns_own hs 4 rfl rfl rfl) (fns_own hs 9 rfl rfl rfl)) ?_
            repeat (first | simp (maxSteps:=2000000) only [go_sem,↓reduceIte,Nat.reduceLT,Nat.reduceLeDiff,Nat.reduceAdd,Nat.reduceSub,Nat.reduceMul,Nat.reduceEqDiff,reduceCtorEq,Int.reduceToNat,Int.reduceEq,Int.reduceBEq,Int.reduceBNe,Int.reduceLT,Int.reduceLE,Int.reduceNeg,Int.reduceAdd,Int.reduceSub,Int.reduceMul,Int.reduceGE,Int.reduceGT,endO,c0,c1,c2] | rw [dr_cons])
            refine dcallV (.c (.v (.bool true))) _ (fun E=>rfl) (fun E a w' hs=>among_calls w' _ _ f2 f3 hs23 (fns_own hs 9 rfl rfl rfl) (fns_own hs 14 rfl rfl rfl)) ?_
            repeat (first | simp (maxSteps:=2000000) only [go_sem,↓reduceIte,Nat.reduceLT,Nat.reduceLeDiff,Nat.reduceAdd,Nat.reduceSub,Nat.reduceMul,Nat.reduceEqDiff,reduceCtorEq,Int.reduceToNat,Int.reduceEq,Int.reduceBEq,Int.reduceBNe,Int.reduceLT,Int.reduceLE,Int.reduceNeg,Int.reduceAdd,Int.reduceSub,Int.reduceMul,Int.reduceGE,Int.reduceGT,endO,c0,c1,c2] | rw [dr_cons])
            exact retV fun E=>by simp [SV.den,SC.den]
 ·have hL:checkB L=false:=by simpa using hL
  refine callV (.c (.v (.bool false))) _ (fun E=>rfl) (fun E a w' hs=>by
   have:=rcheck_calls w' _ L (ltL_at hs rfl rfl rfl)
   rw [hL] at this
   exact this) ?_
  simp (maxSteps:=2000000) only [go_sem,↓reduceIte,Nat.reduceLT,Nat.reduceLeDiff,Nat.reduceAdd,Nat.reduceSub,Nat.reduceMul,Nat.reduceEqDiff,reduceCtorEq,Int.reduceToNat,Int.reduceEq,Int.reduceBEq,Int.reduceBNe,Int.reduceLT,Int.reduceLE,Int.reduceNeg,Int.reduceAdd,Int.reduceSub,Int.reduceMul,Int.reduceGE,Int.reduceGT,endO]
  have hre:refE L 1=190:=by unfold refE;rw [if_neg (by rw [hL];exact Bool.false_ne_true)]
  refine callV (nilF 190) _ (nilF_den _) (fun E a w' hs=>by
   have:=ifin_err w' _ L 1 hok (by rw [hre];decide) (ltL_at hs rfl rfl rfl)
   rw [hre] at this
   exact this) ?_
  simp (maxSteps:=2000000) only [go_sem,↓reduceIte,Nat.reduceLT,Nat.reduceLeDiff,Nat.reduceAdd,Nat.reduceSub,Nat.reduceMul,Nat.reduceEqDiff,reduceCtorEq,Int.reduceToNat,Int.reduceEq,Int.reduceBEq,Int.reduceBNe,Int.reduceLT,Int.reduceLE,Int.reduceNeg,Int.reduceAdd,Int.reduceSub,Int.reduceMul,Int.reduceGE,Int.reduceGT,endO,nilF]
  refine callV (.c (.v (.int .i64 190))) _ (fun E=>rfl) (fun E a w' hs=>num_calls w' _) ?_
  simp (maxSteps:=2000000) only [go_sem,↓reduceIte,Nat.reduceLT,Nat.reduceLeDiff,Nat.reduceAdd,Nat.reduceSub,Nat.reduceMul,Nat.reduceEqDiff,reduceCtorEq,Int.reduceToNat,Int.reduceEq,Int.reduceBEq,Int.reduceBNe,Int.reduceLT,Int.reduceLE,Int.reduceNeg,Int.reduceAdd,Int.reduceSub,Int.reduceMul,Int.reduceGE,Int.reduceGT,endO]
  exact retV fun E=>by simp [SV.den,SC.den]
end Go.Proofs.Ytmcpdafmkkjlcaa.Z
