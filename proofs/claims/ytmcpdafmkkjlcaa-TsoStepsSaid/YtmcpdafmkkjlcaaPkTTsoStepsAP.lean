/- TsoStepsSaid: what its proof is made of. No condition. -/
import Derived.Test.YtmcpdafmkkjlcaaPkTTsoStepsAO
set_option linter.unusedSimpArgs false
set_option linter.unusedVariables false
namespace Go.Proofs.Ytmcpdafmkkjlcaa.Z
open Go Go.RowKit
theorem lt_ownB {C:Ctx} {E:Env} {S:St} {a:Act} {w:World} (hs:Sat C.B C.W C.w0 E S a w) {L:Lt} (b:Nat) (h5:look S.own b=some (.one (.ar L.words.length 1 (ats eI L.words 0) 3))) (h6:look S.own (b+1)=some (.one (.ar L.thr.length 1 (thC (b+2) L) 80))) (h7:look S.own (b+2)=some (.fam L.thr.length (thO L))):LtR w ((SV.agg (twS b L)).den E) L :=
 ⟨(SC.sl (b,0,0) 1 0 L.words.length none).den E,(SC.sl (b+1,0,0) 1 0 L.thr.length none).den E,by simp [SV.den,twS],own_at (d:=0) hs b _ h5 rfl,nest_own (d:=in0) hs (b+1,0,0) (b+2) _ rfl (thC (b+2) L) (by simp [atN,h6,Fm.get];rfl) (fun _ _=>rfl) (fun k hk=>by simp [atN,h7,Fm.get,hk,thO];rfl)⟩
theorem st_ownE {C:Ctx} {E:Env} {S:St} {a:Act} {w:World} (hs:Sat C.B C.W C.w0 E S a w) {s:LS} (b n:Nat) (h6:look S.own b=some (.one (.ar s.words.length 1 (ats eI s.words 0) 3))) (h7:look S.own (b+1)=some (.one (.ar s.regs.length 4 (ats R4.enc s.regs r40) 68))) (h8:look S.own (b+2)=some (.one (.ar s.places.length 1 (ats eI s.places 0) 3)))
  (h9:look S.own (b+3)=some (.one (.ar s.bufs.length 1 (bfC n s) 86))) (h10:look S.own n=some (.fam s.bufs.length (bfO s))):StR w ((SV.agg (stC b s)).den E) s :=
 ⟨_,_,_,_,by simp [stC,SV.den],own_at (d:=0) hs b _ h6 rfl,own_at (d:=r40) hs (b+1) _ h7 rfl,own_at (d:=0) hs (b+2) _ h8 rfl,nest_own (d:=pd0) hs (b+3,0,0) n _ rfl (bfC n s) (by simp [atN,h9,Fm.get];rfl) (fun _ _=>rfl) (fun k hk=>by simp [atN,h10,Fm.get,hk,bfO];rfl)⟩
theorem arrLe_nestR {p:Nat→Prop} {τ:Nat→Nat} {i j n lw:Nat} (hp:p j) (hτ:τ j=i):ArrLe p (idσ τ) (nestF i n lw) (nestF j n lw):=by
 refine ⟨rfl,rfl,fun e _=>⟨?_,?_⟩,Nat.le_refl _⟩
 ·simp [nestF,SC.renL,SC.ren,idσ,hτ]
 ·simp [nestF,SC.okL,SC.okN,hp]
def lawτ (i:Nat):Nat:=if i=5 then 38 else if i=55 then 9 else if i=56 then 8 else if i<6 then i else if i≤10 then i+33 else if i<50 then i else i - 47
def ir4:IR:=(.seq (.ops [⟨(some 4),(.box 25 (.t 0)),none⟩,⟨(some 6),(.box 32 (.t 2)),none⟩,⟨(some 7),(.box 44 (.t 3)),none⟩,⟨(some 8),(.mv (.k (.c (.v (.bool false))))),none⟩]) (.kill [0,2,3,5,8,9,10,11] (.seq (.ops [⟨(some 21),(.ld true 2 (.t 4)),none⟩,⟨(some 22),(.call 10 [(.t 21)]),none⟩,⟨(some 9),(.new 25 [(.v (.slice none 0 0)),(.v (.slice none 0 0))]),none⟩,⟨none,(.st 2 (.t 9) (.t 22)),none⟩]) (.kill [21,22] (.seq (.ops [⟨(some 23),(.ld true 2 (.t 9)),none⟩,⟨(some 24),(.call 17 [(.t 23)]),none⟩,⟨(some 10),(.mv (.t 24)),none⟩]) (.kill [23,24] (.seq (.ops [⟨(some 25),(.ld true 2 (.t 4)),none⟩,⟨(some 26),(.call 18 [(.t 25)]),none⟩,⟨(some 11),(.mv (.t 26)),none⟩]) (.kill [25,26] (.seq (.ops [⟨(some 28),(.ld true 2 (.t 9)),none⟩,⟨(some 29),(.call 19 [(.t 28)]),none⟩,⟨(some 27),(.mv (.t 29)),none⟩,⟨(some 30),(.ext 0 (.t 27)),none⟩,⟨(some 31),(.ext 1 (.t 27)),none⟩,⟨(some 12),(.new 32 [(.v (.slice none 0 0)),(.v (.slice none 0 0)),(.v (.slice none 0 0)),(.v (.slice none 0 0))]),none⟩,⟨none,(.st 4 (.t 12) (.t 30)),none⟩,⟨(some 13),(.mv (.t 31)),none⟩]) (.kill [27,28,29,30,31] (.seq (.seq (.draw [(⟨(some 32),(.mv (.t 11)),none⟩,([],[33,34,35])),(⟨(some 33),(.mv (.t 10)),none⟩,([0],[32])),(⟨(some 34),(.call 14 [(.t 33)]),none⟩,([0],[32])),(⟨(some 35),(.bin .eql (.t 34) (.k (.c (.v (.int .i64 0))))),none⟩,([0],[32])),(⟨(some 36),(.eqb true (.t 32) (.t 35)),none⟩,([],[])),(⟨(some 37),(.mv (.t 36)),none⟩,([],[])),(⟨(some 38),(.mv (.t 10)),(some (37,false))⟩,([],[39])),(⟨(some 39),(.mv (.t 13)),(some (37,false))⟩,([6],[38])),(⟨(some 40),(.bin .neq (.t 38) (.t 39)),(some (37,false))⟩,([],[])),(⟨(some 41),(.pick (.t 37) (.k (.c (.v (.bool true)))) (.t 40)),none⟩,([],[])),(⟨(some 42),(.mv (.t 41)),none⟩,([],[])),(⟨(some 43),(.mv (.t 11)),(some (42,false))⟩,([],[])),(⟨(some 44),(.un .not (.t 43)),(some (42,false))⟩,([],[])),(⟨(some 45),(.mv (.t 44)),(some (42,false))⟩,([],[])),(⟨(some 46),(.mv (.t 10)),(some (45,true))⟩,([],[])),(⟨(some 47),(.call 14 [(.t 46)]),(some (45,true))⟩,([],[])),(⟨(some 48),(.bin .neq (.t 47) (.k (.c (.v (.int .i64 190))))),(some (45,true))⟩,([],[])),(⟨(some 49),(.pick (.t 45) (.t 48) (.k (.c (.v (.bool false))))),(some (42,false))⟩,([],[])),(⟨(some 50),(.pick (.t 42) (.k (.c (.v (.bool true)))) (.t 49)),none⟩,([],[])),(⟨(some 51),(.mv (.t 50)),none⟩,([],[])),(⟨(some 52),(.mv (.t 11)),(some (51,false))⟩,([],[])),(⟨(some 53),(.un .not (.t 52)),(some (51,false))⟩,([],[])),(⟨(some 54),(.mv (.t 53)),(some (51,false))⟩,([],[])),(⟨(some 55),(.ld true 4 (.t 12)),(some (54,true))⟩,([],[56])),(⟨(some 56),(.build [(.v (.slice none 0 0)),(.v (.slice none 0 0)),(.v (.slice none 0 0)),(.v (.slice none 0 0))] []),(some (54,true))⟩,([23],[55])),(⟨(some 57),(.call 13 [(.t 55),(.t 56)]),(some (54,true))⟩,([],[])),(⟨(some 58),(.un .not (.t 57)),(some (54,true))⟩,([],[])),(⟨(some 59),(.pick (.t 54) (.t 58) (.k (.c (.v (.bool false))))),(some (51,false))⟩,([],[])),(⟨(some 60),(.pick (.t 51) (.k (.c (.v (.bool true)))) (.t 59)),none⟩,([],[])),(⟨(some 61),(.mv (.t 60)),none⟩,([],[])),(⟨(some 62),(.mv (.t 11)),(some (61,false))⟩,([],[])),(⟨(some 63),(.mv (.t 62)),(some (61,false))⟩,([],[])),(⟨(some 64),(.ld true 4 (.t 12)),(some (63,true))⟩,([],[65,66])),(⟨(some 65),(.ld true 2 (.t 4)),(some (63,true))⟩,([32],[64])),(⟨(some 66),(.call 20 [(.t 65)]),(some (63,true))⟩,([32],[64])),(⟨(some 67),(.call 13 [(.t 64),(.t 66)]),(some (63,true))⟩,([],[])),(⟨(some 68),(.un .not (.t 67)),(some (63,true))⟩,([],[])),(⟨(some 69),(.pick (.t 63) (.t 68) (.k (.c (.v (.bool false))))),(some (61,false))⟩,([],[])),(⟨(some 70),(.pick (.t 61) (.k (.c (.v (.bool true)))) (.t 69)),none⟩,([],[]))]) (.kill [10,12,13,32,33,34,35,36,37,38,39,40,41,42,43,44,45,46,47,48,49,50,51,52,53,54,55,56,57,58,59,60,61,62,63,64,65,66,67,68,69] (.cond (.t 70) (.seq (.ops [⟨(some 8),(.mv (.k (.c (.v (.bool false))))),none⟩]) (.kill [1,4,6,7,9,11,70] .ret)) .skip))) (.kill [8,70] (.seq (.ops [⟨(some 71),(.ld true 4 (.t 6)),none⟩,⟨(some 72),(.call 21 [(.t 71)]),none⟩,⟨(some 14),(.new 32 [(.v (.slice none 0 0)),(.v (.slice none 0 0)),(.v (.slice none 0 0)),(.v (.slice none 0 0))]),none⟩,⟨none,(.st 4 (.t 14) (.t 72)),none⟩]) (.kill [71,72] (.seq (.ops [⟨(some 74),(.ld true 2 (.t 9)),none⟩,⟨(some 75),(.mv (.t 1)),none⟩,⟨(some 76),(.ld true 4 (.t 14)),none⟩,⟨(some 77),(.ld true 3 (.t 7)),none⟩,⟨(some 78),(.call 22 [(.t 74),(.t 75),(.t 76),(.t 77)]),none⟩,⟨(some 73),(.mv (.t 78)),none⟩,⟨(some 79),(.ext 0 (.t 73)),none⟩,⟨(some 80),(.ext 1 (.t 73)),none⟩,⟨(some 81),(.ext 2 (.t 73)),none⟩,⟨(some 15),(.new 32 [(.v (.slice none 0 0)),(.v (.slice none 0 0)),(.v (.slice none 0 0)),(.v (.slice none 0 0))]),none⟩,⟨none,(.st 4 (.t 15) (.t 79)),none⟩,⟨(some 16),(.mv (.t 80)),none⟩,⟨(some 17),(.mv (.t 81)),none⟩]) (.kill [73,74,75,76,77,78,79,80,81] (.seq (.ops [⟨(some 18),(.mv (.k (.c (.v (.int .i64 0))))),none⟩]) (.seq (.ops [⟨(some 19),(.new 32 [(.v (.slice none 0 0)),(.v (.slice none 0 0)),(.v (.slice none 0 0)),(.v (.slice none 0 0))]),none⟩]) (.seq (.ops [⟨(some 20),(.mv (.k (.c (.v (.bool false))))),none⟩]) (.seq (.blk 0 (.seq (.ops [⟨(some 89),(.mv (.t 11)),none⟩,⟨(some 90),(.un .not (.t 89)),none⟩,⟨(some 88),(.mv (.t 90)),none⟩]) (.kill [11,89,90] (.cond (.t 88) (.ops [⟨(some 18),(.mv (.k (.c (.v (.int .i64 190))))),none⟩]) (.seq (.ops [⟨(some 92),(.mv (.t 1)),none⟩,⟨(some 93),(.call 23 [(.t 92)]),none⟩,⟨(some 94),(.un .not (.t 93)),none⟩,⟨(some 91),(.mv (.t 94)),none⟩]) (.kill [88,92,93,94] (.cond (.t 91) (.ops [⟨(some 18),(.mv (.k (.c (.v (.int .i64 191))))),none⟩]) (.seq (.ops [⟨(some 96),(.ld true 2 (.t 4)),none⟩,⟨(some 97),(.mv (.t 1)),none⟩,⟨(some 98),(.ld true 4 (.t 6)),none⟩,⟨(some 99),(.call 24 [(.t 96),(.t 97),(.t 98)]),none⟩,⟨(some 100),(.un .not (.t 99)),none⟩,⟨(some 95),(.mv (.t 100)),none⟩]) (.kill [91,96,97,98,99,100] (.cond (.t 95) (.ops [⟨(some 18),(.mv (.k (.c (.v (.int .i64 2))))),none⟩]) (.seq (.ops [⟨(some 82),(.ld true 4 (.t 6)),none⟩,⟨(some 83),(.call 21 [(.t 82)]),none⟩,⟨none,(.st 4 (.t 19) (.t 83)),none⟩]) (.kill [20,82,83,95] (.ops [⟨(some 84),(.ld true 2 (.t 4)),none⟩,⟨(some 85),(.mv (.t 1)),none⟩,⟨(some 86),(.ld true 3 (.t 7)),none⟩,⟨(some 87),(.call 25 [(.t 84),(.t 85),(.t 19),(.t 86)]),none⟩,⟨(some 20),(.mv (.t 87)),none⟩]))))))))))))) (.kill [1,7,11,82,83,84,85,86,87,88,89,90,91,92,93,94,95,96,97,98,99,100] (.seq (.ops [⟨(some 101),(.mv (.t 17)),none⟩,⟨(some 102),(.call 14 [(.t 101)]),none⟩,⟨(some 103),(.mv (.t 18)),none⟩,⟨(some 104),(.bin .eql (.t 102) (.t 103)),none⟩,⟨(some 105),(.mv (.t 104)),none⟩,⟨(some 106),(.mv (.t 16)),(some (105,true))⟩,⟨(some 107),(.mv (.t 20)),(some (105,true))⟩,⟨(some 108),(.eqb false (.t 106) (.t 107)),(some (105,true))⟩,⟨(some 109),(.pick (.t 105) (.t 108) (.k (.c (.v (.bool false))))),none⟩,⟨(some 110),(.mv (.t 109)),none⟩,⟨(some 111),(.ld true 4 (.t 15)),(some (110,true))⟩,⟨(some 112),(.ld true 4 (.t 19)),(some (110,true))⟩,⟨(some 113),(.call 13 [(.t 111),(.t 112)]),(some (110,true))⟩,⟨(some 114),(.pick (.t 110) (.t 113) (.k (.c (.v (.bool false))))),none⟩,⟨(some 115),(.mv (.t 114)),none⟩,⟨(some 116),(.ld true 4 (.t 14)),(some (115,true))⟩,⟨(some 117),(.ld true 4 (.t 6)),(some (115,true))⟩,⟨(some 118),(.call 13 [(.t 116),(.t 117)]),(some (115,true))⟩,⟨(some 119),(.pick (.t 115) (.t 118) (.k (.c (.v (.bool false))))),none⟩,⟨(some 120),(.mv (.t 119)),none⟩,⟨(some 121),(.ld true 2 (.t 9)),(some (120,true))⟩,⟨(some 122),(.ld true 2 (.t 4)),(some (120,true))⟩,⟨(some 123),(.call 15 [(.t 121),(.t 122)]),(some (120,true))⟩,⟨(some 124),(.pick (.t 120) (.t 123) (.k (.c (.v (.bool false))))),none⟩,⟨(some 8),(.mv (.t 124)),none⟩]) (.kill [4,6,9,14,15,16,17,18,19,20,101,102,103,104,105,106,107,108,109,110,111,112,113,114,115,116,117,118,119,120,121,122,123,124] .ret)))))))))))))))))))))))
def rs4:List RS:=[(.t 8)]
def nt4:Nat:=125
set_option maxRecDepth 100000 in
set_option maxHeartbeats 1000000 in
theorem steps_walk (w:World) (v v' : Value) (L:Lt) (o:Int) (s:LS) (t:Tn) (hok:LtOk L) (hszL:LtSz L) (hsz:LsSz s) (h:LtR w v L) (h' : StR w v' s):Calls Try.prog 4 #[v,.int .i64 o,v',.agg t.enc.toArray] w (RetV w (.bool true)):=by
 refine enterLtSt (A:=[]) (c:=ir4) (rs:=rs4) (nt:=nt4) h h' [.agg (ltS 0),.c (.v (.int .i64 o)),.agg (stS 3),.agg (t.enc.map .v)] _ Try.func4 rfl (by kernel_rfl) (by kernel_rfl) rfl (fun E' h0 h1=>by simp only [List.map_cons,List.map_nil,h0,h1];simp [SV.den,SC.den,Tn.enc]) (of_decide_eq_true rfl) ?_
 simp (maxSteps:=2000000) only [ir4,nt4,rs4,go_sem,↓reduceIte,Nat.reduceLT,Nat.reduceLeDiff,Nat.reduceAdd,Nat.reduceSub,Nat.reduceMul,Nat.reduceEqDiff,reduceCtorEq,Int.reduceToNat,Int.reduceEq,Int.reduceBEq,Int.reduceBNe,Int.reduceLT,Int.reduceLE,Int.reduceNeg,Int.reduceAdd,Int.reduceSub,Int.reduceMul,Int.reduceGE,Int.reduceGT,endO,ltA,ltS,stA,stS,Tn.enc]
 refine callN 3 (fun b=>.agg (twS b L)) (fun b=>twO b L) (fun E a w' hs=>twin_calls w' _ L hszL (ltL_at hs rfl rfl rfl)) ?_
 simp (maxSteps:=2000000) only [go_sem,↓reduceIte,Nat.reduceLT,Nat.reduceLeDiff,Nat.reduceAdd,Nat.reduceSub,Nat.reduceMul,Nat.reduceEqDiff,reduceCtorEq,Int.reduceToNat,Int.reduceEq,Int.reduceBEq,Int.reduceBNe,Int.reduceLT,Int.reduceLE,Int.reduceNeg,Int.reduceAdd,Int.reduceSub,Int.reduceMul,Int.reduceGE,Int.reduceGT,endO,twS,twO]
 by_cases hL:checkB L=true
 ·refine callV (.c (.v (.int .i64 0))) _ (fun E=>rfl) (fun E a w' hs=>by
   have:=check_calls w' _ L hok (lt_ownB hs 11 rfl rfl rfl)
   rw [hL] at this
   exact this) ?_
  simp (maxSteps:=2000000) only [go_sem,↓reduceIte,Nat.reduceLT,Nat.reduceLeDiff,Nat.reduceAdd,Nat.reduceSub,Nat.reduceMul,Nat.reduceEqDiff,reduceCtorEq,Int.reduceToNat,Int.reduceEq,Int.reduceBEq,Int.reduceBNe,Int.reduceLT,Int.reduceLE,Int.reduceNeg,Int.reduceAdd,Int.reduceSub,Int.reduceMul,Int.reduceGE,Int.reduceGT,endO]
  refine callV (.c (.v (.bool true))) _ (fun E=>rfl) (fun E a w' hs=>by
   have:=rcheck_calls w' _ L (ltL_at hs rfl rfl rfl)
   rw [hL] at this
   exact this) ?_
  simp (maxSteps:=2000000) only [go_sem,↓reduceIte,Nat.reduceLT,Nat.reduceLeDiff,Nat.reduceAdd,Nat.reduceSub,Nat.reduceMul,Nat.reduceEqDiff,reduceCtorEq,Int.reduceToNat,Int.reduceEq,Int.reduceBEq,Int.reduceBNe,Int.reduceLT,Int.reduceLE,Int.reduceNeg,Int.reduceAdd,Int.reduceSub,Int.reduceMul,Int.reduceGE,Int.reduceGT,endO]
  refine callN 5 (bgT L) (fun b=>stO b (beginS L)) (fun E a w' hs=>begin_calls w' _ L hL hok (lt_ownB hs 11 rfl rfl rfl)) ?_
  simp (maxSteps:=2000000) only [go_sem,↓reduceIte,Nat.reduceLT,Nat.reduceLeDiff,Nat.reduceAdd,Nat.reduceSub,Nat.reduceMul,Nat.reduceEqDiff,reduceCtorEq,Int.reduceToNat,Int.reduceEq,Int.reduceBEq,Int.reduceBNe,Int.reduceLT,Int.reduceLE,Int.reduceNeg,Int.reduceAdd,Int.reduceSub,Int.reduceMul,Int.reduceGE,Int.reduceGT,endO,bgT,stO,stC]
  refine draw_vc (by kernel_rfl) (mkTab_ok _ _) (of_decide_eq_true rfl) (of_decide_eq_true rfl) ?_
  repeat (first | simp (maxSteps:=2000000) only [go_sem,↓reduceIte,Nat.reduceLT,Nat.reduceLeDiff,Nat.reduceAdd,Nat.reduceSub,Nat.reduceMul,Nat.reduceEqDiff,reduceCtorEq,Int.reduceToNat,Int.reduceEq,Int.reduceBEq,Int.reduceBNe,Int.reduceLT,Int.reduceLE,Int.reduceNeg,Int.reduceAdd,Int.reduceSub,Int.reduceMul,Int.reduceGE,Int.reduceGT,endO] | rw [dr_cons])
  refine dcallV (.c (.v (.int .i64 0))) _ (fun E=>rfl) (fun E a w' hs=>num_calls w' _) ?_
  repeat (first | simp (maxSteps:=2000000) only [go_sem,↓reduceIte,Nat.reduceLT,Nat.reduceLeDiff,Nat.reduceAdd,Nat.reduceSub,Nat.reduceMul,Nat.reduceEqDiff,reduceCtorEq,Int.reduceToNat,Int.reduceEq,Int.reduceBEq,Int.reduceBNe,Int.reduceLT,Int.reduceLE,Int.reduceNeg,Int.reduceAdd,Int.reduceSub,Int.reduceMul,Int.reduceGE,Int.reduceGT,endO,stO,stC] | rw [dr_cons])
  refine dcallN 5 (fun b=>.agg (stC b (beginS L))) (fun b=>stO b (beginS L)) (fun E a w' hs=>rbegin_calls w' _ L hL (ltL_at hs rfl rfl rfl)) ?_ ?_
  ·simp [newOk,keysL,stO]
  repeat (first | simp (maxSteps:=2000000) only [go_sem,↓reduceIte,Nat.reduceLT,Nat.reduceLeDiff,Nat.reduceAdd,Nat.reduceSub,Nat.reduceMul,Nat.reduceEqDiff,reduceCtorEq,Int.reduceToNat,Int.reduceEq,Int.reduceBEq,Int.reduceBNe,Int.reduceLT,Int.reduceLE,Int.reduceNeg,Int.reduceAdd,Int.reduceSub,Int.reduceMul,Int.reduceGE,Int.reduceGT,endO,stO,stC] | rw [dr_cons])
  refine dcallV (.c (.v (.bool true))) _ (fun E=>rfl) (fun E a w' hs=>sstate_calls w' _ _ (beginS L) (st_own hs 15 rfl rfl rfl rfl rfl) (st_own hs 21 rfl rfl rfl rfl rfl)) ?_
  repeat (first | simp (maxSteps:=2000000) only [go_sem,↓reduceIte,Nat.reduceLT,Nat.reduceLeDiff,Nat.reduceAdd,Nat.reduceSub,Nat.reduceMul,Nat.reduceEqDiff,reduceCtorEq,Int.reduceToNat,Int.reduceEq,Int.reduceBEq,Int.reduceBNe,Int.reduceLT,Int.reduceLE,Int.reduceNeg,Int.reduceAdd,Int.reduceSub,Int.reduceMul,Int.reduceGE,Int.reduceGT,endO] | rw [dr_cons])
  refine callN 5 (fun b=>.agg (stC b s)) (fun b=>stO b s) (fun E a w' hs=>rcopy_calls w' _ s hsz (st_at hs 3 rfl rfl rfl rfl rfl)) ?_
  simp (maxSteps:=2000000) only [go_sem,↓reduceIte,Nat.reduceLT,Nat.reduceLeDiff,Nat.reduceAdd,Nat.reduceSub,Nat.reduceMul,Nat.reduceEqDiff,reduceCtorEq,Int.reduceToNat,Int.reduceEq,Int.reduceBEq,Int.reduceBNe,Int.reduceLT,Int.reduceLE,Int.reduceNeg,Int.reduceAdd,Int.reduceSub,Int.reduceMul,Int.reduceGE,Int.reduceGT,endO,stO,stC]
  by_cases he:nxE L o s=0
  ·have hc:(1≤o∧o≤3)∧belongsB L o s=true:=by
    unfold nxE at he
    rw [if_pos hL] at he
    split at he
    ·next h2 =>
     split at he
     ·next h3=>exact ⟨h2,h3⟩
     ·cases he
    ·cases he
   obtain ⟨ho,hb⟩:=hc
   refine callN 5 (nxT (turnS L o s t).1 (turnS L o s t).2) (fun b=>stO b (turnS L o s t).1) (fun E a w' hs=>next_calls w' _ _ L o s t hL hok ho hb hsz (lt_ownB hs 11 rfl rfl rfl) (st_own hs 26 rfl rfl rfl rfl rfl)) ?_
   simp (maxSteps:=2000000) only [go_sem,↓reduceIte,Nat.reduceLT,Nat.reduceLeDiff,Nat.reduceAdd,Nat.reduceSub,Nat.reduceMul,Nat.reduceEqDiff,reduceCtorEq,Int.reduceToNat,Int.reduceEq,Int.reduceBEq,Int.reduceBNe,Int.reduceLT,Int.reduceLE,Int.reduceNeg,Int.reduceAdd,Int.reduceSub,Int.reduceMul,Int.reduceGE,Int.reduceGT,endO,nxT,stO,stC]
   refine callV (.c (.v (.bool true))) _ (fun E=>rfl) (fun E a w' hs=>by
    have:=isorder_calls w' o
    rw [decide_eq_true ho] at this
    exact this) ?_
   simp (maxSteps:=2000000) only [go_sem,↓reduceIte,Nat.reduceLT,Nat.reduceLeDiff,Nat.reduceAdd,Nat.reduceSub,Nat.reduceMul,Nat.reduceEqDiff,reduceCtorEq,Int.reduceToNat,Int.reduceEq,Int.reduceBEq,Int.reduceBNe,Int.reduceLT,Int.reduceLE,Int.reduceNeg,Int.reduceAdd,Int.reduceSub,Int.reduceMul,Int.reduceGE,Int.reduceGT,endO]
   refine callV (.c (.v (.bool true))) _ (fun E=>rfl) (fun E a w' hs=>by
    have:=rbelongs_calls w' _ _ L o s hL (ltL_at hs rfl rfl rfl) (st_at hs 3 rfl rfl rfl rfl rfl)
    rw [hb] at this
    exact this) ?_
   simp (maxSteps:=2000000) only [go_sem,↓reduceIte,Nat.reduceLT,Nat.reduceLeDiff,Nat.reduceAdd,Nat.reduceSub,Nat.reduceMul,Nat.reduceEqDiff,reduceCtorEq,Int.reduceToNat,Int.reduceEq,Int.reduceBEq,Int.reduceBNe,Int.reduceLT,Int.reduceLE,Int.reduceNeg,Int.reduceAdd,Int.reduceSub,Int.reduceMul,Int.reduceGE,Int.reduceGT,endO]
   refine callN 5 (fun b=>.agg (stC b s)) (fun b=>stO b s) (fun E a w' hs=>rcopy_calls w' _ s hsz (st_at hs 3 rfl rfl rfl rfl rfl)) ?_
   simp (maxSteps:=2000000) only [go_sem,↓reduceIte,Nat.reduceLT,Nat.reduceLeDiff,Nat.reduceAdd,Nat.reduceSub,Nat.reduceMul,Nat.reduceEqDiff,reduceCtorEq,Int.reduceToNat,Int.reduceEq,Int.reduceBEq,Int.reduceBNe,Int.reduceLT,Int.reduceLE,Int.reduceNeg,Int.reduceAdd,Int.reduceSub,Int.reduceMul,Int.reduceGE,Int.reduceGT,endO,stO,stC]
   have hwf:=belongs_wf hb
   generalize hq:turnS L o s t=q
   refine call_leT (S':=⟨125,[(4,.c (.ptr (56,0,0) 0)),(6,.c (.ptr (55,0,0) 0)),(9,.c (.ptr (14,0,0) 0)),(14,.c (.ptr (31,0,0) 0)),(15,.c (.ptr (37,0,0) 0)),(16,.c (.bo q.2)),(17,.c (.v (.int .i64 0))),(18,.c (.v (.int .i64 0))),(19,.c (.ptr (5,0,0) 0)),(84,.agg (ltS 0)),(85,.c (.v (.int .i64 o))),(86,.agg (t.enc.map .v))],
     stP s++[(55,.one (.bk [.xv (50,0,0),.xv (51,0,0),.xv (52,0,0),.xv (53,0,0)] 32)),(56,.one (.bk [.xv (0,0,0),.xv (1,0,0)] 25)),
      (11,.one (.ar L.words.length 1 (ats eI L.words 0) 3)),(12,.one (.ar L.thr.length 1 (thC 13 L) 80)),(13,.fam L.thr.length (thO L)),(14,.one (.bk [.sl (11,0,0) 1 0 L.words.length none,.sl (12,0,0) 1 0 L.thr.length none] 25)),
      (26,.one (.ar s.words.length 1 (ats eI s.words 0) 3)),(27,.one (.ar s.regs.length 4 (ats R4.enc s.regs r40) 68)),(28,.one (.ar s.places.length 1 (ats eI s.places 0) 3)),(29,.one (.ar s.bufs.length 1 (bfC 30 s) 86)),(30,.fam s.bufs.length (bfO s)),(31,.one (.bk (stC 26 s) 32)),
      (32,.one (.ar q.1.words.length 1 (ats eI q.1.words 0) 3)),(33,.one (.ar q.1.regs.length 4 (ats R4.enc q.1.regs r40) 68)),(34,.one (.ar q.1.places.length 1 (ats eI q.1.places 0) 3)),(35,.one (.ar q.1.bufs.length 1 (bfC 36 q.1) 86)),(36,.fam q.1.bufs.length (bfO q.1)),(37,.one (.bk (stC 32 q.1) 32))],
     ltA 0 L++stA 50 s,[],60⟩) (vs':=[.agg (ltS 0),.c (.v (.int .i64 o)),.c (.ptr (5,0,0) 0),.agg (t.enc.map .v)]) [84,85,19,86]
    ?_ ⟨rfl,rfl,rfl,rfl,trivial⟩ ⟨rfl,rfl,rfl,rfl,trivial⟩ ?_
   ·refine le_ren lawτ rfl rfl (by simp [TmpsLe,look,SV.ren,SC.ren,SC.renL,idσ,SV.okN,SC.okN,SC.okL,ltS,Tn.enc,lawτ]) ?_ ?_ rfl
    ·simp +contextual [stP,stO,stC,OwnLe,BlkLeO,BlkLe,atN,look,Fm.get,idσ,SC.renL,SC.ren,SC.okL,SC.okN,renL_v,okL_v,ren_ats,ok_ats,bfC,bfO,thC,thO,lawτ]
    ·simp +contextual [ltA,stA,ArrsLe,ArrLeO,atN,look,Fm.get,idσ,arrLe_of,arrLe_0,lawτ]
     exact ⟨arrLe_nestR (by decide) rfl,arrLe_nestR (by decide) rfl⟩
   refine call_intro (cr_own 11 (stP s) (ltA 0 L) (show 11≤60 by decide) (stP_plain _) (stP_le (fun i h=>h) (fun _ _=>rfl) rfl rfl rfl rfl rfl rfl) (by simp +contextual [ltA,stA,ArrsLe,ArrLeO,atN,look,Fm.get,idσ,arrLe_of,arrLe_0,arrLe_nest]) stE_key (fun E w h=>rturn_own w E L o _ t 10 hL hwf (by omega) h)) (lt11 (show 11≤60 by decide)) ?_
   rw [hq]
   simp (maxSteps:=2000000) only [go_sem,↓reduceIte,Nat.reduceLT,Nat.reduceLeDiff,Nat.reduceAdd,Nat.reduceSub,Nat.reduceMul,Nat.reduceEqDiff,reduceCtorEq,Int.reduceToNat,Int.reduceEq,Int.reduceBEq,Int.reduceBNe,Int.reduceLT,Int.reduceLE,Int.reduceNeg,Int.reduceAdd,Int.reduceSub,Int.reduceMul,Int.reduceGE,Int.reduceGT,endO,killO,stE,stC,stP,stO,ltA,ltS,stA,stS,Tn.enc]
   refine callV (.c (.v (.int .i64 0))) _ (fun E=>rfl) (fun E a w' hs=>num_calls w' _) ?_
   simp (maxSteps:=2000000) only [go_sem,↓reduceIte,Nat.reduceLT,Nat.reduceLeDiff,Nat.reduceAdd,Nat.reduceSub,Nat.reduceMul,Nat.reduceEqDiff,reduceCtorEq,Int.reduceToNat,Int.reduceEq,Int.reduceBEq,Int.reduceBNe,Int.reduceLT,Int.reduceLE,Int.reduceNeg,Int.reduceAdd,Int.reduceSub,Int.reduceMul,Int.reduceGE,Int.reduceGT,endO]
   refine guardW (.c (.v (.bool true))) _ (fun E=>rfl) (fun E a w' hs=>sstate_calls w' _ _ q.1 (st_own hs 32 rfl rfl rfl rfl rfl) (st_ownE hs 6 60 rfl rfl rfl rfl rfl)) ?_
   simp (maxSteps:=2000000) only [go_sem,↓reduceIte,Nat.reduceLT,Nat.reduceLeDiff,Nat.reduceAdd,Nat.reduceSub,Nat.reduceMul,Nat.reduceEqDiff,reduceCtorEq,Int.reduceToNat,Int.reduceEq,Int.reduceBEq,Int.reduceBNe,Int.reduceLT,Int.reduceLE,Int.reduceNeg,Int.reduceAdd,Int.reduceSub,Int.reduceMul,Int.reduceGE,Int.reduceGT,endO]
   refine guardW (.c (.v (.bool true))) _ (fun E=>rfl) (fun E a w' hs=>sstate_calls w' _ _ s (st_own hs 26 rfl rfl rfl rfl rfl) (st_at hs 50 rfl rfl rfl rfl rfl)) ?_
   simp (maxSteps:=2000000) only [go_sem,↓reduceIte,Nat.reduceLT,Nat.reduceLeDiff,Nat.reduceAdd,Nat.reduceSub,Nat.reduceMul,Nat.reduceEqDiff,reduceCtorEq,Int.reduceToNat,Int.reduceEq,Int.reduceBEq,Int.reduceBNe,Int.reduceLT,Int.reduceLE,Int.reduceNeg,Int.reduceAdd,Int.reduceSub,Int.reduceMul,Int.reduceGE,Int.reduceGT,endO]
   refine guardW (.c (.v (.bool true))) _ (fun E=>rfl) (fun E a w' hs=>slitmus_calls w' _ _ L (lt_ownB hs 11 rfl rfl rfl) (ltL_at hs rfl rfl rfl)) ?_
   simp (maxSteps:=2000000) only [go_sem,↓reduceIte,Nat.reduceLT,Nat.reduceLeDiff,Nat.reduceAdd,Nat.reduceSub,Nat.reduceMul,Nat.reduceEqDiff,reduceCtorEq,Int.reduceToNat,Int.reduceEq,Int.reduceBEq,Int.reduceBNe,Int.reduceLT,Int.reduceLE,Int.reduceNeg,Int.reduceAdd,Int.reduceSub,Int.reduceMul,Int.reduceGE,Int.reduceGT,endO]
   exact retV fun E=>by simp [SV.den,SC.den]
  ·refine callV (nilN (nxE L o s)) _ (nilN_den _) (fun E a w' hs=>next_err w' _ _ L o s t hok he (lt_ownB hs 11 rfl rfl rfl) (st_own hs 26 rfl rfl rfl rfl rfl)) ?_
   unfold nxE at he ⊢
   rw [if_pos hL] at he ⊢
   by_cases ho:1≤o∧o≤3
   ·rw [if_pos ho] at he ⊢
    by_cases hb:belongsB L o s=true
    ·rw [if_pos hb] at he;exact absurd rfl he
    rw [if_neg hb]
    simp (maxSteps:=2000000) only [go_sem,↓reduceIte,Nat.reduceLT,Nat.reduceLeDiff,Nat.reduceAdd,Nat.reduceSub,Nat.reduceMul,Nat.reduceEqDiff,reduceCtorEq,Int.reduceToNat,Int.reduceEq,Int.reduceBEq,Int.reduceBNe,Int.reduceLT,Int.reduceLE,Int.reduceNeg,Int.reduceAdd,Int.reduceSub,Int.reduceMul,Int.reduceGE,Int.reduceGT,endO,nilN]
    refine callV (.c (.v (.bool true))) _ (fun E=>rfl) (fun E a w' hs=>by
     have:=isorder_calls w' o
     rw [decide_eq_true ho] at this
     exact this) ?_
    simp (maxSteps:=2000000) only [go_sem,↓reduceIte,Nat.reduceLT,Nat.reduceLeDiff,Nat.reduceAdd,Nat.reduceSub,Nat.reduceMul,Nat.reduceEqDiff,reduceCtorEq,Int.reduceToNat,Int.reduceEq,Int.reduceBEq,Int.reduceBNe,Int.reduceLT,Int.reduceLE,Int.reduceNeg,Int.reduceAdd,Int.reduceSub,Int.reduceMul,Int.reduceGE,Int.reduceGT,endO]
    refine callV (.c (.v (.bool false))) _ (fun E=>rfl) (fun E a w' hs=>by
     have:=rbelongs_calls w' _ _ L o s hL (ltL_at hs rfl rfl rfl) (st_at hs 3 rfl rfl rfl rfl rfl)
     rw [Bool.eq_false_iff.2 hb] at this
     exact this) ?_
    simp (maxSteps:=2000000) only [go_sem,↓reduceIte,Nat.reduceLT,Nat.reduceLeDiff,Nat.reduceAdd,Nat.reduceSub,Nat.reduceMul,Nat.reduceEqDiff,reduceCtorEq,Int.reduceToNat,Int.reduceEq,Int.reduceBEq,Int.reduceBNe,Int.reduceLT,Int.reduceLE,Int.reduceNeg,Int.reduceAdd,Int.reduceSub,Int.reduceMul,Int.reduceGE,Int.reduceGT,endO]
    refine callV (.c (.v (.int .i64 2))) _ (fun E=>rfl) (fun E a w' hs=>num_calls w' _) ?_
    simp (maxSteps:=2000000) only [go_sem,↓reduceIte,Nat.reduceLT,Nat.reduceLeDiff,Nat.reduceAdd,Nat.reduceSub,Nat.reduceMul,Nat.reduceEqDiff,reduceCtorEq,Int.reduceToNat,Int.reduceEq,Int.reduceBEq,Int.reduceBNe,Int.reduceLT,Int.reduceLE,Int.reduceNeg,Int.reduceAdd,Int.reduceSub,Int.reduceMul,Int.reduceGE,Int.reduceGT,endO]
    refine guardW (.c (.v (.bool true))) _ (fun E=>rfl) (fun E a w' hs=>sstate_calls w' _ _ _ (st_nil w') (st_nil w')) ?_
    simp (maxSteps:=2000000) only [go_sem,↓reduceIte,Nat.reduceLT,Nat.reduceLeDiff,Nat.reduceAdd,Nat.reduceSub,Nat.reduceMul,Nat.reduceEqDiff,reduceCtorEq,Int.reduceToNat,Int.reduceEq,Int.reduceBEq,Int.reduceBNe,Int.reduceLT,Int.reduceLE,Int.reduceNeg,Int.reduceAdd,Int.reduceSub,Int.reduceMul,Int.reduceGE,Int.reduceGT,endO]
    refine guardW (.c (.v (.bool true))) _ (fun E=>rfl) (fun E a w' hs=>sstate_calls w' _ _ s (st_own hs 26 rfl rfl rfl rfl rfl) (st_at hs 3 rfl rfl rfl rfl rfl)) ?_
    simp (maxSteps:=2000000) only [go_sem,↓reduceIte,Nat.reduceLT,Nat.reduceLeDiff,Nat.reduceAdd,Nat.reduceSub,Nat.reduceMul,Nat.reduceEqDiff,reduceCtorEq,Int.reduceToNat,Int.reduceEq,Int.reduceBEq,Int.reduceBNe,Int.reduceLT,Int.reduceLE,Int.reduceNeg,Int.reduceAdd,Int.reduceSub,Int.reduceMul,Int.reduceGE,Int.reduceGT,endO]
    refine guardW (.c (.v (.bool true))) _ (fun E=>rfl) (fun E a w' hs=>slitmus_calls w' _ _ L (lt_ownB hs 11 rfl rfl rfl) (ltL_at hs rfl rfl rfl)) ?_
    simp (maxSteps:=2000000) only [go_sem,↓reduceIte,Nat.reduceLT,Nat.reduceLeDiff,Nat.reduceAdd,Nat.reduceSub,Nat.reduceMul,Nat.reduceEqDiff,reduceCtorEq,Int.reduceToNat,Int.reduceEq,Int.reduceBEq,Int.reduceBNe,Int.reduceLT,Int.reduceLE,Int.reduceNeg,Int.reduceAdd,Int.reduceSub,Int.reduceMul,Int.reduceGE,Int.reduceGT,endO]
    exact retV fun E=>by simp [SV.den,SC.den]
   ·rw [if_neg ho]
    simp (maxSteps:=2000000) only [go_sem,↓reduceIte,Nat.reduceLT,Nat.reduceLeDiff,Nat.reduceAdd,Nat.reduceSub,Nat.reduceMul,Nat.reduceEqDiff,reduceCtorEq,Int.reduceToNat,Int.reduceEq,Int.reduceBEq,Int.reduceBNe,Int.reduceLT,Int.reduceLE,Int.reduceNeg,Int.reduceAdd,Int.reduceSub,Int.reduceMul,Int.reduceGE,Int.reduceGT,endO,nilN]
    refine callV (.c (.v (.bool false))) _ (fun E=>rfl) (fun E a w' hs=>by
     have:=isorder_calls w' o
     rw [decide_eq_false ho] at this
     exact this) ?_
    simp (maxSteps:=2000000) only [go_sem,↓reduceIte,Nat.reduceLT,Nat.reduceLeDiff,Nat.reduceAdd,Nat.reduceSub,Nat.reduceMul,Nat.reduceEqDiff,reduceCtorEq,Int.reduceToNat,Int.reduceEq,Int.reduceBEq,Int.reduceBNe,Int.reduceLT,Int.reduceLE,Int.reduceNeg,Int.reduceAdd,Int.reduceSub,Int.reduceMul,Int.reduceGE,Int.reduceGT,endO]
    refine callV (.c (.v (.int .i64 191))) _ (fun E=>rfl) (fun E a w' hs=>num_calls w' _) ?_
    simp (maxSteps:=2000000) only [go_sem,↓reduceIte,Nat.reduceLT,Nat.reduceLeDiff,Nat.reduceAdd,Nat.reduceSub,Nat.reduceMul,Nat.reduceEqDiff,reduceCtorEq,Int.reduceToNat,Int.reduceEq,Int.reduceBEq,Int.reduceBNe,Int.reduceLT,Int.reduceLE,Int.reduceNeg,Int.reduceAdd,Int.reduceSub,Int.reduceMul,Int.reduceGE,Int.reduceGT,endO]
    refine guardW (.c (.v (.bool true))) _ (fun E=>rfl) (fun E a w' hs=>sstate_calls w' _ _ _ (st_nil w') (st_nil w')) ?_
    simp (maxSteps:=2000000) only [go_sem,↓reduceIte,Nat.reduceLT,Nat.reduceLeDiff,Nat.reduceAdd,Nat.reduceSub,Nat.reduceMul,Nat.reduceEqDiff,reduceCtorEq,Int.reduceToNat,Int.reduceEq,Int.reduceBEq,Int.reduceBNe,Int.reduceLT,Int.reduceLE,Int.reduceNeg,Int.reduceAdd,Int.reduceSub,Int.reduceMul,Int.reduceGE,Int.reduceGT,endO]
    refine guardW (.c (.v (.bool true))) _ (fun E=>rfl) (fun E a w' hs=>sstate_calls w' _ _ s (st_own hs 26 rfl rfl rfl rfl rfl) (st_at hs 3 rfl rfl rfl rfl rfl)) ?_
    simp (maxSteps:=2000000) only [go_sem,↓reduceIte,Nat.reduceLT,Nat.reduceLeDiff,Nat.reduceAdd,Nat.reduceSub,Nat.reduceMul,Nat.reduceEqDiff,reduceCtorEq,Int.reduceToNat,Int.reduceEq,Int.reduceBEq,Int.reduceBNe,Int.reduceLT,Int.reduceLE,Int.reduceNeg,Int.reduceAdd,Int.reduceSub,Int.reduceMul,Int.reduceGE,Int.reduceGT,endO]
    refine guardW (.c (.v (.bool true))) _ (fun E=>rfl) (fun E a w' hs=>slitmus_calls w' _ _ L (lt_ownB hs 11 rfl rfl rfl) (ltL_at hs rfl rfl rfl)) ?_
    simp (maxSteps:=2000000) only [go_sem,↓reduceIte,Nat.reduceLT,Nat.reduceLeDiff,Nat.reduceAdd,Nat.reduceSub,Nat.reduceMul,Nat.reduceEqDiff,reduceCtorEq,Int.reduceToNat,Int.reduceEq,Int.reduceBEq,Int.reduceBNe,Int.reduceLT,Int.reduceLE,Int.reduceNeg,Int.reduceAdd,Int.reduceSub,Int.reduceMul,Int.reduceGE,Int.reduceGT,endO]
    exact retV fun E=>by simp [SV.den,SC.den]
 ·have hLf:checkB L=false:=by simpa using hL
  refine callV (.c (.v (.int .i64 190))) _ (fun E=>rfl) (fun E a w' hs=>by
   have:=check_calls w' _ L hok (lt_ownB hs 11 rfl rfl rfl)
   rw [hLf] at this
   exact this) ?_
  simp (maxSteps:=2000000) only [go_sem,↓reduceIte,Nat.reduceLT,Nat.reduceLeDiff,Nat.reduceAdd,Nat.reduceSub,Nat.reduceMul,Nat.reduceEqDiff,reduceCtorEq,Int.reduceToNat,Int.reduceEq,Int.reduceBEq,Int.reduceBNe,Int.reduceLT,Int.reduceLE,Int.reduceNeg,Int.reduceAdd,Int.reduceSub,Int.reduceMul,Int.reduceGE,Int.reduceGT,endO]
  refine callV (.c (.v (.bool false))) _ (fun E=>rfl) (fun E a w' hs=>by
   have:=rcheck_calls w' _ L (ltL_at hs rfl rfl rfl)
   rw [hLf] at this
   exact this) ?_
  simp (maxSteps:=2000000) only [go_sem,↓reduceIte,Nat.reduceLT,Nat.reduceLeDiff,Nat.reduceAdd,Nat.reduceSub,Nat.reduceMul,Nat.reduceEqDiff,reduceCtorEq,Int.reduceToNat,Int.reduceEq,Int.reduceBEq,Int.reduceBNe,Int.reduceLT,Int.reduceLE,Int.reduceNeg,Int.reduceAdd,Int.reduceSub,Int.reduceMul,Int.reduceGE,Int.reduceGT,endO]
  refine callV (.tup [(true,[.v (.slice none 0 0),.v (.slice none 0 0),.v (.slice none 0 0),.v (.slice none 0 0)]),(false,[.v (.int .i64 190)])]) _ (fun E=>rfl) (fun E a w' hs=>begin_err w' _ L hLf hok (lt_ownB hs 11 rfl rfl rfl)) ?_
  simp (maxSteps:=2000000) only [go_sem,↓reduceIte,Nat.reduceLT,Nat.reduceLeDiff,Nat.reduceAdd,Nat.reduceSub,Nat.reduceMul,Nat.reduceEqDiff,reduceCtorEq,Int.reduceToNat,Int.reduceEq,Int.reduceBEq,Int.reduceBNe,Int.reduceLT,Int.reduceLE,Int.reduceNeg,Int.reduceAdd,Int.reduceSub,Int.reduceMul,Int.reduceGE,Int.reduceGT,endO]
  refine draw_vc (by kernel_rfl) (mkTab_ok _ _) (of_decide_eq_true rfl) (of_decide_eq_true rfl) ?_
  repeat (first | simp (maxSteps:=2000000) only [go_sem,↓reduceIte,Nat.reduceLT,Nat.reduceLeDiff,Nat.reduceAdd,Nat.reduceSub,Nat.reduceMul,Nat.reduceEqDiff,reduceCtorEq,Int.reduceToNat,Int.reduceEq,Int.reduceBEq,Int.reduceBNe,Int.reduceLT,Int.reduceLE,Int.reduceNeg,Int.reduceAdd,Int.reduceSub,Int.reduceMul,Int.reduceGE,Int.reduceGT,endO] | rw [dr_cons])
  refine dcallV (.c (.v (.int .i64 190))) _ (fun E=>rfl) (fun E a w' hs=>num_calls w' _) ?_
  repeat (first | simp (maxSteps:=2000000) only [go_sem,↓reduceIte,Nat.reduceLT,Nat.reduceLeDiff,Nat.reduceAdd,Nat.reduceSub,Nat.reduceMul,Nat.reduceEqDiff,reduceCtorEq,Int.reduceToNat,Int.reduceEq,Int.reduceBEq,Int.reduceBNe,Int.reduceLT,Int.reduceLE,Int.reduceNeg,Int.reduceAdd,Int.reduceSub,Int.reduceMul,Int.reduceGE,Int.reduceGT,endO] | rw [dr_cons])
  refine dcallV (.c (.v (.int .i64 190))) _ (fun E=>rfl) (fun E a w' hs=>num_calls w' _) ?_
  repeat (first | simp (maxSteps:=2000000) only [go_sem,↓reduceIte,Nat.reduceLT,Nat.reduceLeDiff,Nat.reduceAdd,Nat.reduceSub,Nat.reduceMul,Nat.reduceEqDiff,reduceCtorEq,Int.reduceToNat,Int.reduceEq,Int.reduceBEq,Int.reduceBNe,Int.reduceLT,Int.reduceLE,Int.reduceNeg,Int.reduceAdd,Int.reduceSub,Int.reduceMul,Int.reduceGE,Int.reduceGT,endO] | rw [dr_cons])
  refine dcallV (.c (.v (.bool true))) _ (fun E=>rfl) (fun E a w' hs=>sstate_calls w' _ _ _ (st_nil w') (st_nil w')) ?_
  repeat (first | simp (maxSteps:=2000000) only [go_sem,↓reduceIte,Nat.reduceLT,Nat.reduceLeDiff,Nat.reduceAdd,Nat.reduceSub,Nat.reduceMul,Nat.reduceEqDiff,reduceCtorEq,Int.reduceToNat,Int.reduceEq,Int.reduceBEq,Int.reduceBNe,Int.reduceLT,Int.reduceLE,Int.reduceNeg,Int.reduceAdd,Int.reduceSub,Int.reduceMul,Int.reduceGE,Int.reduceGT,endO] | rw [dr_cons])
  refine callN 5 (fun b=>.agg (stC b s)) (fun b=>stO b s) (fun E a w' hs=>rcopy_calls w' _ s hsz (st_at hs 3 rfl rfl rfl rfl rfl)) ?_
  simp (maxSteps:=2000000) only [go_sem,↓reduceIte,Nat.reduceLT,Nat.reduceLeDiff,Nat.reduceAdd,Nat.reduceSub,Nat.reduceMul,Nat.reduceEqDiff,reduceCtorEq,Int.reduceToNat,Int.reduceEq,Int.reduceBEq,Int.reduceBNe,Int.reduceLT,Int.reduceLE,Int.reduceNeg,Int.reduceAdd,Int.reduceSub,Int.reduceMul,Int.reduceGE,Int.reduceGT,endO,stO,stC]
  have he:nxE L o s=190:=by unfold nxE;rw [if_neg hL]
  refine callV (nilN 190) _ (nilN_den _) (fun E a w' hs=>by
   have:=next_err w' _ _ L o s t hok (by rw [he];decide) (lt_ownB hs 11 rfl rfl rfl) (st_own hs 16 rfl rfl rfl rfl rfl)
   rw [he] at this
   exact this) ?_
  simp (maxSteps:=2000000) only [go_sem,↓reduceIte,Nat.reduceLT,Nat.reduceLeDiff,Nat.reduceAdd,Nat.reduceSub,Nat.reduceMul,Nat.reduceEqDiff,reduceCtorEq,Int.reduceToNat,Int.reduceEq,Int.reduceBEq,Int.reduceBNe,Int.reduceLT,Int.reduceLE,Int.reduceNeg,Int.reduceAdd,Int.reduceSub,Int.reduceMul,Int.reduceGE,Int.reduceGT,endO,nilN]
  refine callV (.c (.v (.int .i64 190))) _ (fun E=>rfl) (fun E a w' hs=>num_calls w' _) ?_
  simp (maxSteps:=2000000) only [go_sem,↓reduceIte,Nat.reduceLT,Nat.reduceLeDiff,Nat.reduceAdd,Nat.reduceSub,Nat.reduceMul,Nat.reduceEqDiff,reduceCtorEq,Int.reduceToNat,Int.reduceEq,Int.reduceBEq,Int.reduceBNe,Int.reduceLT,Int.reduceLE,Int.reduceNeg,Int.reduceAdd,Int.reduceSub,Int.reduceMul,Int.reduceGE,Int.reduceGT,endO]
  refine guardW (.c (.v (.bool true))) _ (fun E=>rfl) (fun E a w' hs=>sstate_calls w' _ _ _ (st_nil w') (st_nil w')) ?_
  simp (maxSteps:=2000000) only [go_sem,↓reduceIte,Nat.reduceLT,Nat.reduceLeDiff,Nat.reduceAdd,Nat.reduceSub,Nat.reduceMul,Nat.reduceEqDiff,reduceCtorEq,Int.reduceToNat,Int.reduceEq,Int.reduceBEq,Int.reduceBNe,Int.reduceLT,Int.reduceLE,Int.reduceNeg,Int.reduceAdd,Int.reduceSub,Int.reduceMul,Int.reduceGE,Int.reduceGT,endO]
  refine guardW (.c (.v (.bool true))) _ (fun E=>rfl) (fun E a w' hs=>sstate_calls w' _ _ s (st_own hs 16 rfl rfl rfl rfl rfl) (st_at hs 3 rfl rfl rfl rfl rfl)) ?_
  simp (maxSteps:=2000000) only [go_sem,↓reduceIte,Nat.reduceLT,Nat.reduceLeDiff,Nat.reduceAdd,Nat.reduceSub,Nat.reduceMul,Nat.reduceEqDiff,reduceCtorEq,Int.reduceToNat,Int.reduceEq,Int.reduceBEq,Int.reduceBNe,Int.reduceLT,Int.reduceLE,Int.reduceNeg,Int.reduceAdd,Int.reduceSub,Int.reduceMul,Int.reduceGE,Int.reduceGT,endO]
  refine guardW (.c (.v (.bool true))) _ (fun E=>rfl) (fun E a w' hs=>slitmus_calls w' _ _ L (lt_ownB hs 11 rfl rfl rfl) (ltL_at hs rfl rfl rfl)) ?_
  simp (maxSteps:=2000000) only [go_sem,↓reduceIte,Nat.reduceLT,Nat.reduceLeDiff,Nat.reduceAdd,Nat.reduceSub,Nat.reduceMul,Nat.reduceEqDiff,reduceCtorEq,Int.reduceToNat,Int.reduceEq,Int.reduceBEq,Int.reduceBNe,Int.reduceLT,Int.reduceLE,Int.reduceNeg,Int.reduceAdd,Int.reduceSub,Int.reduceMul,Int.reduceGE,Int.reduceGT,endO]
  exact retV fun E=>by simp [SV.den,SC.den]
end Go.Proofs.Ytmcpdafmkkjlcaa.Z
namespace Go.Proofs.Ytmcpdafmkkjlcaa.Z
open Go Go.RowKit Go.ChangeShapes Go.WideShapes Go.ChangeAt
theorem own:ownKnob Try.prog.godebug=none:=by kernel_rfl
theorem laidOut:laidOutB Try.prog=true:=by kernel_rfl
section
variable {H:Type} {enc:TypeId×Value→H} {P:Program} {w:World} {base:Nat} {spare:Nat→Bool} {held:Bool}
theorem leaf_sliceW {α:Type} {b:Nat} {ws:List Nat} {u e:TypeId} {c:Value} (hu:P.underlying u=some (.slice e)) {s:Nat} (hpos:0<s) (hc:P.cellsOf e=s) (encA:α→List Value) (Q:α→Prop)
  (helem:∀ (m:Nat) (cs:List Value) (y:DataW H×List MemPlace),cs.length=s→DataW.trod enc P w base spare held m e cs=some y→(∀ k∈y.1.weights P e,k∈ws)→∃ x:α,cs=encA x∧Q x)
  (h:LeafAt enc P w base spare held b ws u c):∃ xs:List α,Arr w encA s c xs∧(∀ x∈xs,Q x)∧xs.length+1≤b∧(xs=[]∨∃ k∈ws,xs.length * P.bytesOf e≤k):=by
 obtain ⟨m,y,h1,hb,hw⟩:=h
 rcases DataW.trod_slice hu h1 with ⟨hcs,rfl⟩ | ⟨a,len,cap,elems,rest,n,_,hcs,rfl,hba,hl,hm,hlen,hel,hsp,hns⟩
 ·simp only [List.cons.injEq,and_true] at hcs
  subst hcs
  refine ⟨[],Arr.nil _ _ _,by simp,?_,Or.inl rfl⟩
  simp only [Rows.uptoBulk] at hb
  simpa using hb
 ·simp only [List.cons.injEq,and_true] at hcs
  subst hcs
  have each:∀ i,i<len→∃ x:α,(∃ cs,w.cells? base (a.add (i * s)) s=some cs∧cs=encA x)∧Q x:=by
   intro i hi
   have h2:=hel i hi
   rw [List.getElem?_eq_getElem (by omega),hc] at h2
   obtain ⟨cs,h3,h4⟩:=Option.bind_eq_some_iff.1 h2
   obtain ⟨x,h5,h6⟩:=helem n cs _ (World.cells?_some h3).2.1 h4 (fun k hk=>hw k (by
    simp only [DataW.weights,hu]
    exact List.mem_cons_of_mem _ (List.mem_append_left _ (weightsAll_mem (List.mem_map.2 ⟨_,List.getElem_mem (by omega),rfl⟩) k hk))))
   exact ⟨x,⟨cs,h3,h5⟩,h6⟩
  obtain ⟨xs,hxl,hx⟩:=choose_list len each
  refine ⟨xs,?_,?_,?_,?_⟩
  ·refine ⟨some a,cap,by rw [hxl],by omega,hm,?_⟩
   by_cases h0:xs=[]
   ·exact Or.inl h0
   ·right
    by_cases hspot:a.spot=none
    ·obtain ⟨ab,ao,sp⟩:=a
     simp only at hspot
     subst hspot
     refine ⟨ab,ao,rfl,fun k x hk j u hj=>?_⟩
     obtain ⟨⟨cs,h3,rfl⟩,_⟩:=hx k x hk
     obtain ⟨_,hlc,hcell⟩:=World.cells?_some h3
     have hjs:j<s:=by rw [← hlc];exact (List.getElem?_eq_some_iff.1 hj).1
     have h4:=hcell j hjs
     rw [hj] at h4
     rw [← h4]
     congr 1
     unfold Addr.add
     split <;> split <;> simp_all
    ·exfalso
     obtain ⟨x0,hx0⟩:∃ x0,xs[0]? = some x0:=by cases xs with | nil=>exact absurd rfl h0 | cons y _=>exact ⟨y,rfl⟩
     obtain ⟨⟨cs,h3,_⟩,_⟩:=hx 0 x0 hx0
     obtain ⟨_,hlc,hcell⟩:=World.cells?_some h3
     have h4:=hcell 0 hpos
     rw [Nat.zero_mul] at h4
     have e:(a.add 0).add 0=a:=by simp [Addr.add]
     rw [e,List.getElem?_eq_getElem (by omega)] at h4
     unfold World.cell? at h4
     split at h4
     ·cases hs:a.spot with
      | none=>exact hspot hs
      | some q=>rw [hs] at h4;simp at h4
     ·cases h4
  ·intro x hx'
   obtain ⟨i,hi⟩:=List.getElem?_of_mem hx'
   exact (hx i x hi).2
  ·have h2:=length_le_bulk (elems.map (·.1))
   simp only [Rows.uptoBulk,List.length_map] at hb h2
   omega
  ·right
   refine ⟨_,hw (((elems.map (·.1)).length+(rest.map (·.1)).length) * P.bytesOf e) ?_,?_⟩
   ·simp only [DataW.weights,hu]
    exact List.mem_cons_self
   ·rw [hxl,List.length_map,hlen]
    exact Nat.mul_le_mul_right _ (by omega)
end
section
variable {H:Type} {enc:TypeId×Value→H} {w:World}
theorem reach_len {α:Type} {x:List α} {s:Nat} {ws:List Nat} (hr:∀ k∈ws,k≤reachBytes) (h:x=[]∨∃ k∈ws,x.length * s≤k):x.length * s≤140737488351232:=by
 rcases h with rfl | ⟨k,hk,h⟩
 ·simp
 ·have:=hr k hk
  unfold reachBytes at this
  omega
theorem lit_rng {n:Int} (h:(Lit.int .i64 n).wf=true) : -9223372036854775808≤n∧n≤9223372036854775807:=by
 simp [Lit.wf,IntKind.min,IntKind.max,IntKind.signed,IntKind.bits] at h
 omega
theorem leavesIs:leavesIn Try.prog 9 83=some [81,3,3,3,3,3,3]:=by kernel_rfl
theorem cellsIs:Try.prog.cellsOf 83=7:=by kernel_rfl
theorem bytesIs:Try.prog.bytesOf 83=56:=by kernel_rfl
theorem leavesLt:leavesIn Try.prog 9 25=some [22,23]:=by kernel_rfl
theorem cellsLt:Try.prog.cellsOf 25=2:=by kernel_rfl
theorem leavesTn:leavesIn Try.prog 9 44=some [3,4,3]:=by kernel_rfl
theorem cellsTn:Try.prog.cellsOf 44=3:=by kernel_rfl
theorem cellsI1:Try.prog.cellsOf 3=1:=by kernel_rfl
theorem bytesI1:Try.prog.bytesOf 3=8:=by kernel_rfl
theorem cellsIl:Try.prog.cellsOf 80=1:=by kernel_rfl
theorem bytesIl:Try.prog.bytesOf 80=24:=by kernel_rfl
theorem leavesIl:leavesIn Try.prog 9 80=some [80]:=by kernel_rfl
theorem leaf_ints {b:Nat} {ws:List Nat} {c:Value} (h:LeafAt enc Try.prog w 0 (fun _=>true) true b ws 22 c) :
  ∃ xs:List Int,Arr w eI 1 c xs∧(xs=[]∨∃ k∈ws,xs.length * 8≤k):=by
 obtain ⟨xs,h1,h4,h2,h3⟩:=h.slice (α:=Int) Try.underlying22 (by decide) cellsI1 eI (fun x=>True) (fun m cs y hl ht=>by
  match cs,hl with
  | [c0],_ =>
   have L:=leaf_of 9 _ _ (show leavesIn Try.prog 9 3=some [3] by kernel_rfl) m _ _ ht
   obtain ⟨x0,rfl,r0⟩:=(L 0 _ c0 rfl rfl).int Try.underlying3
   exact ⟨x0,rfl,trivial⟩)
 rw [bytesI1] at h3
 exact ⟨xs,h1,h3⟩
theorem leaf_code {b:Nat} {ws:List Nat} {c:Value} (h:LeafAt enc Try.prog w 0 (fun _=>true) true b ws 80 c) :
  ∃ xs:List Ins,Arr w Ins.enc 7 c xs∧(∀ c∈xs,InR c)∧(xs=[]∨∃ k∈ws,xs.length * 56≤k):=by
 obtain ⟨xs,h1,h4,h2,h3⟩:=h.slice (α:=Ins) Try.underlying80 (by decide) cellsIs Ins.enc InR (fun m cs y hl ht=>by
  match cs,hl with
  | [c0,c1,c2,c3,c4,c5,c6],_ =>
   have L:=leaf_of 9 _ _ leavesIs m _ _ ht
   obtain ⟨x0,rfl,_⟩:=(L 0 _ c0 rfl rfl).int Try.underlying81
   obtain ⟨x1,rfl,_⟩:=(L 1 _ c1 rfl rfl).int Try.underlying3
   obtain ⟨x2,rfl,_⟩:=(L 2 _ c2 rfl rfl).int Try.underlying3
   obtain ⟨x3,rfl,_⟩:=(L 3 _ c3 rfl rfl).int Try.underlying3
   obtain ⟨x4,rfl,r4⟩:=(L 4 _ c4 rfl rfl).int Try.underlying3
   obtain ⟨x5,rfl,_⟩:=(L 5 _ c5 rfl rfl).int Try.underlying3
   obtain ⟨x6,rfl,_⟩:=(L 6 _ c6 rfl rfl).int Try.underlying3
   exact ⟨⟨x0,x1,x2,x3,x4,x5,x6⟩,rfl,lit_rng r4⟩)
 rw [bytesIs] at h3
 exact ⟨xs,h1,h4,h3⟩
theorem leaf_codes {b:Nat} {ws:List Nat} {c:Value} (h:LeafAt enc Try.prog w 0 (fun _=>true) true b ws 23 c) :
  ∃ ls:List (List Ins),Nest w Ins.enc 7 c ls∧(∀ code∈ls,∀ c∈code,InR c)∧(ls=[]∨∃ k∈ws,ls.length * 24≤k)∧(∀ code∈ls,code=[]∨∃ k∈ws,code.length * 56≤k):=by
 obtain ⟨vs,h1,h4,_,h3⟩:=leaf_sliceW (h:=h) (α:=Value) Try.underlying23 (by decide) cellsIl one1' (fun v=>∃ is:List Ins,Arr w Ins.enc 7 v is∧(∀ c∈is,InR c)∧(is=[]∨∃ k∈ws,is.length * 56≤k)) (fun m cs y hl ht hw=>by
  match cs,hl with
  | [c0],_ =>
   have L:=leaf_of 9 _ _ leavesIl m _ _ ht
   obtain ⟨is,g1,g2,g3⟩:=leaf_code (L 0 _ c0 rfl rfl)
   exact ⟨c0,rfl,is,g1,g2,g3.imp id fun ⟨k,hk,h⟩=>⟨k,hw k hk,h⟩⟩)
 rw [bytesIl] at h3
 obtain ⟨ls,hl,hls⟩:=choose_list (R:=fun i is=>Arr w Ins.enc 7 (vs.getD i nest0) is∧(∀ c∈is,InR c)∧(is=[]∨∃ k∈ws,is.length * 56≤k)) vs.length (fun i hi=>by
  obtain ⟨is,g⟩:=h4 (vs.getD i nest0) (by rw [List.getD_eq_getElem?_getD,List.getElem?_eq_getElem hi];exact List.getElem_mem hi)
  exact ⟨is,g⟩)
 refine ⟨ls,⟨vs,h1,hl.symm,fun k hk=>?_⟩,fun code hc=>?_,?_,fun code hc=>?_⟩
 ·rw [List.getD_eq_getElem?_getD (l:=ls),List.getElem?_eq_getElem hk]
  exact (hls k _ (List.getElem?_eq_getElem hk)).1
 ·obtain ⟨i,hi⟩:=List.getElem?_of_mem hc
  exact (hls i _ hi).2.1
 ·rw [hl]
  refine h3.imp (fun e=>?_) id
  subst e
  exact List.eq_nil_of_length_eq_zero hl
 ·obtain ⟨i,hi⟩:=List.getElem?_of_mem hc
  exact (hls i _ hi).2.2
set_option maxRecDepth 100000 in
theorem open_litmus {base:Nat} {v:Value} {d:DataW H} {p:List MemPlace} (hv:Value.okWide Try.prog w .any base 25 v) (h:DataW.Trod enc Try.prog w 0 (fun _=>true) true 25 v d p) :
  ∃ L,LtR w v L∧LtOk L∧((∀ k∈d.weights Try.prog 25,k≤reachBytes)→LtSz L):=by
 obtain ⟨cs,rfl,hsz⟩:=okWide_struct Try.underlying25 hv
 obtain ⟨l⟩:=cs
 obtain ⟨fuel,hf⟩:=h
 match l,hsz.trans cellsLt with
 | [c0,c1],_ =>
  have L:=leaf_of 9 _ _ leavesLt fuel _ _ hf
  obtain ⟨xs,h1,h2⟩:=leaf_ints (L 0 22 c0 rfl rfl)
  obtain ⟨ls,g1,g2,g3,g4⟩:=leaf_codes (L 1 23 c1 rfl rfl)
  refine ⟨⟨xs,ls⟩,⟨c0,c1,rfl,h1,g1⟩,g2,fun hr=>⟨reach_len hr h2,reach_len hr g3,fun k hk=>?_⟩⟩
  have hm:ls.getD k []∈ls:=by rw [List.getD_eq_getElem?_getD,List.getElem?_eq_getElem hk];exact List.getElem_mem hk
  exact reach_len hr (g4 _ hm)
end
end Go.Proofs.Ytmcpdafmkkjlcaa.Z
namespace Go.Proofs.Ytmcpdafmkkjlcaa.Z
open Go Go.RowKit Go.ChangeShapes Go.WideShapes Go.ChangeAt
section
variable {H:Type} {enc:TypeId×Value→H} {w:World}
theorem leavesR4:leavesIn Try.prog 9 68=some [3,3,3,3]:=by kernel_rfl
theorem cellsR4:Try.prog.cellsOf 68=4:=by kernel_rfl
theorem bytesR4:Try.prog.bytesOf 68=32:=by kernel_rfl
theorem leavesPd:leavesIn Try.prog 9 88=some [3,3]:=by kernel_rfl
theorem cellsPd:Try.prog.cellsOf 88=2:=by kernel_rfl
theorem bytesPd:Try.prog.bytesOf 88=16:=by kernel_rfl
theorem leavesPl:leavesIn Try.prog 9 86=some [86]:=by kernel_rfl
theorem cellsPl:Try.prog.cellsOf 86=1:=by kernel_rfl
theorem bytesPl:Try.prog.bytesOf 86=24:=by kernel_rfl
theorem leavesSt:leavesIn Try.prog 9 32=some [22,29,22,30]:=by kernel_rfl
theorem cellsSt:Try.prog.cellsOf 32=4:=by kernel_rfl
theorem leaf_regs {b:Nat} {ws:List Nat} {c:Value} (h:LeafAt enc Try.prog w 0 (fun _=>true) true b ws 29 c) :
  ∃ xs:List R4,Arr w R4.enc 4 c xs∧(xs=[]∨∃ k∈ws,xs.length * 32≤k):=by
 obtain ⟨xs,h1,h4,h2,h3⟩:=h.slice (α:=R4) Try.underlying29 (by decide) cellsR4 R4.enc (fun _=>True) (fun m cs y hl ht=>by
  match cs,hl with
  | [c0,c1,c2,c3],_ =>
   have L:=leaf_of 9 _ _ leavesR4 m _ _ ht
   obtain ⟨x0,rfl,_⟩:=(L 0 _ c0 rfl rfl).int Try.underlying3
   obtain ⟨x1,rfl,_⟩:=(L 1 _ c1 rfl rfl).int Try.underlying3
   obtain ⟨x2,rfl,_⟩:=(L 2 _ c2 rfl rfl).int Try.underlying3
   obtain ⟨x3,rfl,_⟩:=(L 3 _ c3 rfl rfl).int Try.underlying3
   exact ⟨⟨x0,x1,x2,x3⟩,rfl,trivial⟩)
 rw [bytesR4] at h3
 exact ⟨xs,h1,h3⟩
theorem leaf_pend {b:Nat} {ws:List Nat} {c:Value} (h:LeafAt enc Try.prog w 0 (fun _=>true) true b ws 86 c) :
  ∃ xs:List Pd,Arr w Pd.enc 2 c xs∧(xs=[]∨∃ k∈ws,xs.length * 16≤k):=by
 obtain ⟨xs,h1,h4,h2,h3⟩:=h.slice (α:=Pd) Try.underlying86 (by decide) cellsPd Pd.enc (fun _=>True) (fun m cs y hl ht=>by
  match cs,hl with
  | [c0,c1],_ =>
   have L:=leaf_of 9 _ _ leavesPd m _ _ ht
   obtain ⟨x0,rfl,_⟩:=(L 0 _ c0 rfl rfl).int Try.underlying3
   obtain ⟨x1,rfl,_⟩:=(L 1 _ c1 rfl rfl).int Try.underlying3
   exact ⟨⟨x0,x1⟩,rfl,trivial⟩)
 rw [bytesPd] at h3
 exact ⟨xs,h1,h3⟩
theorem leaf_pends {b:Nat} {ws:List Nat} {c:Value} (h:LeafAt enc Try.prog w 0 (fun _=>true) true b ws 30 c) :
  ∃ ls:List (List Pd),Nest w Pd.enc 2 c ls∧(ls=[]∨∃ k∈ws,ls.length * 24≤k)∧(∀ l∈ls,l=[]∨∃ k∈ws,l.length * 16≤k):=by
 obtain ⟨vs,h1,h4,_,h3⟩:=leaf_sliceW (h:=h) (α:=Value) Try.underlying30 (by decide) cellsPl one1' (fun v=>∃ is:List Pd,Arr w Pd.enc 2 v is∧(is=[]∨∃ k∈ws,is.length * 16≤k)) (fun m cs y hl ht hw=>by
  match cs,hl with
  | [c0],_ =>
   have L:=leaf_of 9 _ _ leavesPl m _ _ ht
   obtain ⟨is,g1,g3⟩:=leaf_pend (L 0 _ c0 rfl rfl)
   exact ⟨c0,rfl,is,g1,g3.imp id fun ⟨k,hk,h⟩=>⟨k,hw k hk,h⟩⟩)
 rw [bytesPl] at h3
 obtain ⟨ls,hl,hls⟩:=choose_list (R:=fun i is=>Arr w Pd.enc 2 (vs.getD i nest0) is∧(is=[]∨∃ k∈ws,is.length * 16≤k)) vs.length (fun i hi=>by
  obtain ⟨is,g⟩:=h4 (vs.getD i nest0) (by rw [List.getD_eq_getElem?_getD,List.getElem?_eq_getElem hi];exact List.getElem_mem hi)
  exact ⟨is,g⟩)
 refine ⟨ls,⟨vs,h1,hl.symm,fun k hk=>?_⟩,?_,fun code hc=>?_⟩
 ·rw [List.getD_eq_getElem?_getD (l:=ls),List.getElem?_eq_getElem hk]
  exact (hls k _ (List.getElem?_eq_getElem hk)).1
 ·rw [hl]
  refine h3.imp (fun e=>?_) id
  subst e
  exact List.eq_nil_of_length_eq_zero hl
 ·obtain ⟨i,hi⟩:=List.getElem?_of_mem hc
  exact (hls i _ hi).2
set_option maxRecDepth 100000 in
theorem open_lstate {base:Nat} {v:Value} {d:DataW H} {p:List MemPlace} (hv:Value.okWide Try.prog w .any base 32 v) (h:DataW.Trod enc Try.prog w 0 (fun _=>true) true 32 v d p) :
  ∃ s,StR w v s∧((∀ k∈d.weights Try.prog 32,k≤reachBytes)→LsSz s):=by
 obtain ⟨cs,rfl,hsz⟩:=okWide_struct Try.underlying32 hv
 obtain ⟨l⟩:=cs
 obtain ⟨fuel,hf⟩:=h
 match l,hsz.trans cellsSt with
 | [c0,c1,c2,c3],_ =>
  have L:=leaf_of 9 _ _ leavesSt fuel _ _ hf
  obtain ⟨xs,h1,h2⟩:=leaf_ints (L 0 22 c0 rfl rfl)
  obtain ⟨rs,r1,r2⟩:=leaf_regs (L 1 29 c1 rfl rfl)
  obtain ⟨ps,p1,p2⟩:=leaf_ints (L 2 22 c2 rfl rfl)
  obtain ⟨ls,g1,g3,g4⟩:=leaf_pends (L 3 30 c3 rfl rfl)
  refine ⟨⟨xs,rs,ps,ls⟩,⟨c0,c1,c2,c3,rfl,h1,r1,p1,g1⟩,fun hr=>⟨reach_len hr h2,reach_len hr r2,reach_len hr p2,reach_len hr g3,fun k hk=>?_⟩⟩
  have hm:ls.getD k []∈ls:=by rw [List.getD_eq_getElem?_getD,List.getElem?_eq_getElem hk];exact List.getElem_mem hk
  exact reach_len hr (g4 _ hm)
set_option maxRecDepth 100000 in
theorem open_turn {base:Nat} {v:Value} {d:DataW H} {p:List MemPlace} (hv:Value.okWide Try.prog w .any base 44 v) (h:DataW.Trod enc Try.prog w 0 (fun _=>true) true 44 v d p) :
  ∃ t:Tn,v = .agg t.enc.toArray:=by
 obtain ⟨cs,rfl,hsz⟩:=okWide_struct Try.underlying44 hv
 obtain ⟨l⟩:=cs
 obtain ⟨fuel,hf⟩:=h
 match l,hsz.trans cellsTn with
 | [c0,c1,c2],_ =>
  have L:=leaf_of 9 _ _ leavesTn fuel _ _ hf
  obtain ⟨x0,rfl,r0⟩:=(L 0 _ c0 rfl rfl).int Try.underlying3
  obtain ⟨x1,rfl⟩:=(L 1 _ c1 rfl rfl).bool Try.underlying4
  obtain ⟨x2,rfl,r2⟩:=(L 2 _ c2 rfl rfl).int Try.underlying3
  exact ⟨⟨x0,x1,x2⟩,rfl⟩
end
end Go.Proofs.Ytmcpdafmkkjlcaa.Z
