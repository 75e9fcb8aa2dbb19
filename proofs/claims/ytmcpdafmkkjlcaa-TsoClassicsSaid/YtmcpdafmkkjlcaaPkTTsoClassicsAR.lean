/- TsoClassicsSaid: what its proof is made of. No condition. -/
import Derived.Test.YtmcpdafmkkjlcaaPkTTsoClassicsAQ
set_option linter.unusedSimpArgs false
set_option linter.unusedVariables false
namespace Go.Proofs.Ytmcpdafmkkjlcaa.Z
open Go Go.RowKit
def clNo:Value:=.tuple #[.agg #[.slice none 0 0,.slice none 0 0],.bool false]
def clNoS:SV:=.tup [(true,[.v (.slice none 0 0),.v (.slice none 0 0)]),(false,[.v (.bool false)])]
theorem clNoS_den (E:Env):clNoS.den E=clNo:=by simp [clNoS,clNo,SV.den,den1,SC.den]
theorem classic_any (a:ByteArray):(∃ i,i<10∧(∀ w,Calls Try.prog 34 #[.string a] w (RetN w 3 (clsTp (clL i)) (fun b=>twO b (clL i))))∧∀ w,Calls Try.prog 35 #[.string a] w (RetN w 3 (clsTp (clL i)) (fun b=>twO b (clL i)))) ∨
  ((∀ w,Calls Try.prog 34 #[.string a] w (RetV w clNo))∧∀ w,Calls Try.prog 35 #[.string a] w (RetV w clNo)):=by
 by_cases h0:(a.toList == (⟨#[83,66]⟩:ByteArray).toList)=true
 ·exact Or.inl ⟨0,by decide,fun w=>pclassic_0 w a h0,fun w=>rclassic_0 w a h0⟩
 rw [Bool.not_eq_true] at h0
 by_cases h1:(a.toList == (⟨#[77,80]⟩:ByteArray).toList)=true
 ·exact Or.inl ⟨1,by decide,fun w=>pclassic_1 w a h0 h1,fun w=>rclassic_1 w a h0 h1⟩
 rw [Bool.not_eq_true] at h1
 by_cases h2:(a.toList == (⟨#[76,66]⟩:ByteArray).toList)=true
 ·exact Or.inl ⟨2,by decide,fun w=>pclassic_2 w a h0 h1 h2,fun w=>rclassic_2 w a h0 h1 h2⟩
 rw [Bool.not_eq_true] at h2
 by_cases h3:(a.toList == (⟨#[73,82,73,87]⟩:ByteArray).toList)=true
 ·exact Or.inl ⟨3,by decide,fun w=>pclassic_3 w a h0 h1 h2 h3,fun w=>rclassic_3 w a h0 h1 h2 h3⟩
 rw [Bool.not_eq_true] at h3
 by_cases h4:(a.toList == (⟨#[82]⟩:ByteArray).toList)=true
 ·exact Or.inl ⟨4,by decide,fun w=>pclassic_4 w a h0 h1 h2 h3 h4,fun w=>rclassic_4 w a h0 h1 h2 h3 h4⟩
 rw [Bool.not_eq_true] at h4
 by_cases h5:(a.toList == (⟨#[83]⟩:ByteArray).toList)=true
 ·exact Or.inl ⟨5,by decide,fun w=>pclassic_5 w a h0 h1 h2 h3 h4 h5,fun w=>rclassic_5 w a h0 h1 h2 h3 h4 h5⟩
 rw [Bool.not_eq_true] at h5
 by_cases h6:(a.toList == (⟨#[50,43,50,87]⟩:ByteArray).toList)=true
 ·exact Or.inl ⟨6,by decide,fun w=>pclassic_6 w a h0 h1 h2 h3 h4 h5 h6,fun w=>rclassic_6 w a h0 h1 h2 h3 h4 h5 h6⟩
 rw [Bool.not_eq_true] at h6
 by_cases h7:(a.toList == (⟨#[83,66,43,102,101,110,99,101]⟩:ByteArray).toList)=true
 ·exact Or.inl ⟨7,by decide,fun w=>pclassic_7 w a h0 h1 h2 h3 h4 h5 h6 h7,fun w=>rclassic_7 w a h0 h1 h2 h3 h4 h5 h6 h7⟩
 rw [Bool.not_eq_true] at h7
 by_cases h8:(a.toList == (⟨#[112,114,111,116,101,99,116]⟩:ByteArray).toList)=true
 ·exact Or.inl ⟨8,by decide,fun w=>pclassic_8 w a h0 h1 h2 h3 h4 h5 h6 h7 h8,fun w=>rclassic_8 w a h0 h1 h2 h3 h4 h5 h6 h7 h8⟩
 rw [Bool.not_eq_true] at h8
 by_cases h9:(a.toList == (⟨#[112,114,111,116,101,99,116,43,102,101,110,99,101]⟩:ByteArray).toList)=true
 ·exact Or.inl ⟨9,by decide,fun w=>pclassic_9 w a h0 h1 h2 h3 h4 h5 h6 h7 h8 h9,fun w=>rclassic_9 w a h0 h1 h2 h3 h4 h5 h6 h7 h8 h9⟩
 rw [Bool.not_eq_true] at h9
 exact Or.inr ⟨fun w=>pclassic_no w a h0 h1 h2 h3 h4 h5 h6 h7 h8 h9,fun w=>rclassic_no w a h0 h1 h2 h3 h4 h5 h6 h7 h8 h9⟩
def ir8:IR:=(.seq (.ops [⟨(some 2),(.mv (.k (.c (.v (.bool false))))),none⟩]) (.kill [1,2,3,4,5,6,7,8,9,10,11] (.seq (.ops [⟨(some 14),(.call 32 []),none⟩,⟨(some 3),(.mv (.t 14)),none⟩]) (.kill [14] (.seq (.ops [⟨(some 15),(.call 33 []),none⟩,⟨(some 4),(.mv (.t 15)),none⟩]) (.kill [15] (.seq (.seq (.ops [⟨(some 16),(.mv (.t 3)),none⟩,⟨(some 17),(.len (.t 16)),none⟩,⟨(some 18),(.mv (.t 4)),none⟩,⟨(some 19),(.len (.t 18)),none⟩,⟨(some 20),(.bin .neq (.t 17) (.t 19)),none⟩]) (.kill [16,17,18,19] (.cond (.t 20) (.seq (.ops [⟨(some 2),(.mv (.k (.c (.v (.bool false))))),none⟩]) (.kill [0,3,4,20] .ret)) .skip))) (.kill [2,20] (.seq (.seq (.ops [⟨(some 5),(.mv (.k (.c (.v (.int .i64 0))))),none⟩]) (.blk 0 (.loop (.seq (.seq (.ops [⟨(some 21),(.mv (.t 5)),none⟩,⟨(some 22),(.mv (.t 4)),none⟩,⟨(some 23),(.len (.t 22)),none⟩,⟨(some 24),(.bin .lss (.t 21) (.t 23)),none⟩]) (.kill [2,6,7,8,9,21,22,23,25,26,27,28,29,30,31,32,33,34,35,36,37,38,39,40,41,42,43,44,45,46,47,48,49,50,51,52,53,54,55,56,57,58,59,60,61,62,63,64,65] (.cond (.t 24) .skip (.exit 0)))) (.kill [24] (.seq (.blk 1 (.seq (.ops [⟨(some 28),(.mv (.t 4)),none⟩,⟨(some 29),(.mv (.t 5)),none⟩,⟨(some 30),(.ia 1 (.t 28) (.t 29)),none⟩,⟨(some 31),(.ld false 1 (.t 30)),none⟩,⟨(some 32),(.call 34 [(.t 31)]),none⟩,⟨(some 27),(.mv (.t 32)),none⟩,⟨(some 33),(.ext 0 (.t 27)),none⟩,⟨(some 34),(.ext 1 (.t 27)),none⟩,⟨(some 6),(.new 25 [(.v (.slice none 0 0)),(.v (.slice none 0 0))]),none⟩,⟨none,(.st 2 (.t 6) (.t 33)),none⟩,⟨(some 7),(.mv (.t 34)),none⟩]) (.kill [27,28,29,30,31,32,33,34] (.seq (.ops [⟨(some 36),(.mv (.t 4)),none⟩,⟨(some 37),(.mv (.t 5)),none⟩,⟨(some 38),(.ia 1 (.t 36) (.t 37)),none⟩,⟨(some 39),(.ld false 1 (.t 38)),none⟩,⟨(some 40),(.call 35 [(.t 39)]),none⟩,⟨(some 35),(.mv (.t 40)),none⟩,⟨(some 41),(.ext 0 (.t 35)),none⟩,⟨(some 42),(.ext 1 (.t 35)),none⟩,⟨(some 8),(.new 25 [(.v (.slice none 0 0)),(.v (.slice none 0 0))]),none⟩,⟨none,(.st 2 (.t 8) (.t 41)),none⟩,⟨(some 9),(.mv (.t 42)),none⟩]) (.kill [35,36,37,38,39,40,41,42] (.seq (.draw [(⟨(some 43),(.mv (.t 3)),none⟩,([],[44,47,48,49,50])),(⟨(some 44),(.mv (.t 5)),none⟩,([0],[43,47,48,49,50])),(⟨(some 45),(.ia 1 (.t 43) (.t 44)),none⟩,([],[47,48,49,50])),(⟨(some 46),(.ld false 1 (.t 45)),none⟩,([],[47,48,49,50])),(⟨(some 47),(.mv (.t 4)),none⟩,([0,1,2,3],[43,44,45,46,48])),(⟨(some 48),(.mv (.t 5)),none⟩,([0,1,2,3,4],[43,44,45,46,47])),(⟨(some 49),(.ia 1 (.t 47) (.t 48)),none⟩,([0,1,2,3],[43,44,45,46])),(⟨(some 50),(.ld false 1 (.t 49)),none⟩,([0,1,2,3],[43,44,45,46])),(⟨(some 51),(.eqs true (.t 46) (.t 50)),none⟩,([],[])),(⟨(some 52),(.mv (.t 51)),none⟩,([],[])),(⟨(some 53),(.mv (.t 7)),(some (52,false))⟩,([],[])),(⟨(some 54),(.un .not (.t 53)),(some (52,false))⟩,([],[])),(⟨(some 55),(.pick (.t 52) (.k (.c (.v (.bool true)))) (.t 54)),none⟩,([],[])),(⟨(some 56),(.mv (.t 55)),none⟩,([],[])),(⟨(some 57),(.mv (.t 9)),(some (56,false))⟩,([],[])),(⟨(some 58),(.un .not (.t 57)),(some (56,false))⟩,([],[])),(⟨(some 59),(.pick (.t 56) (.k (.c (.v (.bool true)))) (.t 58)),none⟩,([],[])),(⟨(some 60),(.mv (.t 59)),none⟩,([],[])),(⟨(some 61),(.ld true 2 (.t 6)),(some (60,false))⟩,([],[62])),(⟨(some 62),(.ld true 2 (.t 8)),(some (60,false))⟩,([18],[61])),(⟨(some 63),(.call 15 [(.t 61),(.t 62)]),(some (60,false))⟩,([],[])),(⟨(some 64),(.un .not (.t 63)),(some (60,false))⟩,([],[])),(⟨(some 65),(.pick (.t 60) (.k (.c (.v (.bool true)))) (.t 64)),none⟩,([],[]))]) (.kill [6,7,8,9,43,44,45,46,47,48,49,50,51,52,53,54,55,56,57,58,59,60,61,62,63,64] (.cond (.t 65) (.seq (.ops [⟨(some 2),(.mv (.k (.c (.v (.bool false))))),none⟩]) (.kill [0,3,4,5,65] .ret)) .skip)))))))) (.kill [2,6,7,8,9,27,28,29,30,31,32,33,34,35,36,37,38,39,40,41,42,43,44,45,46,47,48,49,50,51,52,53,54,55,56,57,58,59,60,61,62,63,64,65] (.ops [⟨(some 25),(.mv (.t 5)),none⟩,⟨(some 26),(.bin .add (.t 25) (.k (.c (.v (.int .i64 1))))),none⟩,⟨(some 5),(.mv (.t 26)),none⟩])))))))) (.kill [2,3,4,5,6,7,8,9,21,22,23,24,25,26,27,28,29,30,31,32,33,34,35,36,37,38,39,40,41,42,43,44,45,46,47,48,49,50,51,52,53,54,55,56,57,58,59,60,61,62,63,64,65] (.seq (.ops [⟨(some 67),(.mv (.t 0)),none⟩,⟨(some 68),(.call 34 [(.t 67)]),none⟩,⟨(some 66),(.mv (.t 68)),none⟩,⟨(some 69),(.ext 0 (.t 66)),none⟩,⟨(some 70),(.ext 1 (.t 66)),none⟩,⟨(some 10),(.new 25 [(.v (.slice none 0 0)),(.v (.slice none 0 0))]),none⟩,⟨none,(.st 2 (.t 10) (.t 69)),none⟩,⟨(some 11),(.mv (.t 70)),none⟩]) (.kill [66,67,68,69,70] (.seq (.ops [⟨(some 72),(.mv (.t 0)),none⟩,⟨(some 73),(.call 35 [(.t 72)]),none⟩,⟨(some 71),(.mv (.t 73)),none⟩,⟨(some 74),(.ext 0 (.t 71)),none⟩,⟨(some 75),(.ext 1 (.t 71)),none⟩,⟨(some 12),(.new 25 [(.v (.slice none 0 0)),(.v (.slice none 0 0))]),none⟩,⟨none,(.st 2 (.t 12) (.t 74)),none⟩,⟨(some 13),(.mv (.t 75)),none⟩]) (.kill [0,71,72,73,74,75] (.seq (.ops [⟨(some 76),(.mv (.t 11)),none⟩,⟨(some 77),(.mv (.t 13)),none⟩,⟨(some 78),(.eqb false (.t 76) (.t 77)),none⟩,⟨(some 79),(.mv (.t 78)),none⟩,⟨(some 80),(.ld true 2 (.t 10)),(some (79,true))⟩,⟨(some 81),(.ld true 2 (.t 12)),(some (79,true))⟩,⟨(some 82),(.call 15 [(.t 80),(.t 81)]),(some (79,true))⟩,⟨(some 83),(.pick (.t 79) (.t 82) (.k (.c (.v (.bool false))))),none⟩,⟨(some 84),(.mv (.t 83)),none⟩,⟨(some 85),(.call 36 []),(some (84,true))⟩,⟨(some 86),(.pick (.t 84) (.t 85) (.k (.c (.v (.bool false))))),none⟩,⟨(some 2),(.mv (.t 86)),none⟩]) (.kill [10,11,12,13,76,77,78,79,80,81,82,83,84,85,86] .ret))))))))))))))))
def rs8:List RS:=[(.t 2)]
def nt8:Nat:=87
set_option maxRecDepth 100000 in
set_option maxHeartbeats 2000000 in
theorem classics_walk (w:World) (a:ByteArray):Calls Try.prog 8 #[.string a] w (RetV w (.bool true)):=by
 refine enter0 (A:=[]) (c:=ir8) (rs:=rs8) (nt:=nt8) [.c (.v (.string a))] #[.string a] Try.func8 rfl (by kernel_rfl) (by kernel_rfl) rfl (fun E'=>by simp [SV.den,SC.den]) (of_decide_eq_true rfl) ?_
 simp (maxSteps:=2000000) only [ir8,nt8,rs8,go_sem,↓reduceIte,Nat.reduceLT,Nat.reduceLeDiff,Nat.reduceAdd,Nat.reduceSub,Nat.reduceMul,Nat.reduceEqDiff,reduceCtorEq,Int.reduceToNat,Int.reduceEq,Int.reduceBEq,Int.reduceBNe,Int.reduceLT,Int.reduceLE,Int.reduceNeg,Int.reduceAdd,Int.reduceSub,Int.reduceMul,Int.reduceGE,Int.reduceGT,endO]
 refine callN 1 (fun b=>.c (.sl (b,0,0) 1 0 10 none)) nmO (fun E a w' hs=>pnames_calls w') ?_
 simp (maxSteps:=2000000) only [go_sem,↓reduceIte,Nat.reduceLT,Nat.reduceLeDiff,Nat.reduceAdd,Nat.reduceSub,Nat.reduceMul,Nat.reduceEqDiff,reduceCtorEq,Int.reduceToNat,Int.reduceEq,Int.reduceBEq,Int.reduceBNe,Int.reduceLT,Int.reduceLE,Int.reduceNeg,Int.reduceAdd,Int.reduceSub,Int.reduceMul,Int.reduceGE,Int.reduceGT,endO,nmO]
 refine callN 1 (fun b=>.c (.sl (b,0,0) 1 0 10 none)) nmO (fun E a w' hs=>rnames_calls w') ?_
 simp (maxSteps:=2000000) only [go_sem,↓reduceIte,Nat.reduceLT,Nat.reduceLeDiff,Nat.reduceAdd,Nat.reduceSub,Nat.reduceMul,Nat.reduceEqDiff,reduceCtorEq,Int.reduceToNat,Int.reduceEq,Int.reduceBEq,Int.reduceBNe,Int.reduceLT,Int.reduceLE,Int.reduceNeg,Int.reduceAdd,Int.reduceSub,Int.reduceMul,Int.reduceGE,Int.reduceGT,endO,nmO]
 refine loopI (ι:={ i:Nat // i≤10 }) (fun i=>⟨87,[(0,.c (.v (.string a))),(3,.c (.sl (0,0,0) 1 0 10 none)),(4,.c (.sl (1,0,0) 1 0 10 none)),(5,.c (.v (.int .i64 (i.1:Nat))))],nmO 0++nmO 1,[],[],2⟩) (fun i=>10 - i.1) ⟨0,by omega⟩ (le_ren id rfl rfl (by simp [TmpsLe,look,SV.ren,SC.ren,SC.renL,ren1L,ren1,idσ,SV.okN,SC.okN,SC.okL,ok1L]) ⟨⟨show 0<2 by decide,arLe_same⟩,⟨show 1<2 by decide,arLe_same⟩,trivial⟩ trivial rfl) ?_
 rintro ⟨i,hi⟩
 simp (maxSteps:=2000000) only [go_sem,↓reduceIte,Nat.reduceLT,Nat.reduceLeDiff,Nat.reduceAdd,Nat.reduceSub,Nat.reduceMul,Nat.reduceEqDiff,reduceCtorEq,Int.reduceToNat,Int.reduceEq,Int.reduceBEq,Int.reduceBNe,Int.reduceLT,Int.reduceLE,Int.reduceNeg,Int.reduceAdd,Int.reduceSub,Int.reduceMul,Int.reduceGE,Int.reduceGT,endO,nmO,List.cons_append,List.nil_append,eS]
 refine both (fun hlt=>?_) (fun hge=>?_)
 ·rw [decide_eq_true_eq] at hlt
  have hlt:i<10:=by omega
  refine And.intro (by omega) (And.intro hlt ?_)
  refine callN 3 (clsTp (clL i)) (fun b=>twO b (clL i)) (fun E a w' hs=>pclassic_nm w' i hlt) ?_
  simp (maxSteps:=2000000) only [go_sem,↓reduceIte,Nat.reduceLT,Nat.reduceLeDiff,Nat.reduceAdd,Nat.reduceSub,Nat.reduceMul,Nat.reduceEqDiff,reduceCtorEq,Int.reduceToNat,Int.reduceEq,Int.reduceBEq,Int.reduceBNe,Int.reduceLT,Int.reduceLE,Int.reduceNeg,Int.reduceAdd,Int.reduceSub,Int.reduceMul,Int.reduceGE,Int.reduceGT,endO,clsTp,twS,twO,eS]
  refine And.intro (by omega) (And.intro hlt ?_)
  refine callN 3 (clsTp (clL i)) (fun b=>twO b (clL i)) (fun E a w' hs=>rclassic_nm w' i hlt) ?_
  simp (maxSteps:=2000000) only [go_sem,↓reduceIte,Nat.reduceLT,Nat.reduceLeDiff,Nat.reduceAdd,Nat.reduceSub,Nat.reduceMul,Nat.reduceEqDiff,reduceCtorEq,Int.reduceToNat,Int.reduceEq,Int.reduceBEq,Int.reduceBNe,Int.reduceLT,Int.reduceLE,Int.reduceNeg,Int.reduceAdd,Int.reduceSub,Int.reduceMul,Int.reduceGE,Int.reduceGT,endO,clsTp,twS,twO,eS]
  refine draw_vc (by kernel_rfl) (mkTab_ok _ _) (of_decide_eq_true rfl) (of_decide_eq_true rfl) ?_
  repeat (first | simp (maxSteps:=2000000) only [go_sem,↓reduceIte,Nat.reduceLT,Nat.reduceLeDiff,Nat.reduceAdd,Nat.reduceSub,Nat.reduceMul,Nat.reduceEqDiff,reduceCtorEq,Int.reduceToNat,Int.reduceEq,Int.reduceBEq,Int.reduceBNe,Int.reduceLT,Int.reduceLE,Int.reduceNeg,Int.reduceAdd,Int.reduceSub,Int.reduceMul,Int.reduceGE,Int.reduceGT,endO,eS,ats,beq_self_eq_true,bne_self_eq_false] | rw [dr_cons])
  refine And.intro (by omega) (And.intro hlt (And.intro (by omega) (And.intro hlt ?_)))
  refine Or.inl ⟨.c (.bo true),crv_retV _ _ (fun E=>rfl) (fun E a w' hs=>slitmus_calls w' _ _ (clL i) (lt_ownG hs 2 rfl rfl rfl) (lt_ownG hs 6 rfl rfl rfl)),?_⟩
  repeat (first | simp (maxSteps:=2000000) only [go_sem,↓reduceIte,Nat.reduceLT,Nat.reduceLeDiff,Nat.reduceAdd,Nat.reduceSub,Nat.reduceMul,Nat.reduceEqDiff,reduceCtorEq,Int.reduceToNat,Int.reduceEq,Int.reduceBEq,Int.reduceBNe,Int.reduceLT,Int.reduceLE,Int.reduceNeg,Int.reduceAdd,Int.reduceSub,Int.reduceMul,Int.reduceGE,Int.reduceGT,endO,eS,ats] | rw [dr_cons])
  rw [wr_succ (by omega)]
  exact backI ⟨i+1,by omega⟩ (by simp only;omega) (le_ren id rfl rfl (by simp [TmpsLe,look,SV.ren,SC.ren,SC.renL,ren1L,ren1,idσ,SV.okN,SC.okN,SC.okL,ok1L]) ⟨⟨show 0<2 by decide,arLe_same⟩,⟨show 1<2 by decide,arLe_same⟩,trivial⟩ trivial rfl)
 ·obtain ⟨j,hj,hp,hr⟩ | ⟨hp,hr⟩:=classic_any a
  ·refine callN 3 (clsTp (clL j)) (fun b=>twO b (clL j)) (fun E a w' hs=>hp w') ?_
   simp (maxSteps:=2000000) only [go_sem,↓reduceIte,Nat.reduceLT,Nat.reduceLeDiff,Nat.reduceAdd,Nat.reduceSub,Nat.reduceMul,Nat.reduceEqDiff,reduceCtorEq,Int.reduceToNat,Int.reduceEq,Int.reduceBEq,Int.reduceBNe,Int.reduceLT,Int.reduceLE,Int.reduceNeg,Int.reduceAdd,Int.reduceSub,Int.reduceMul,Int.reduceGE,Int.reduceGT,endO,clsTp,twS,twO]
   refine callN 3 (clsTp (clL j)) (fun b=>twO b (clL j)) (fun E a w' hs=>hr w') ?_
   simp (maxSteps:=2000000) only [go_sem,↓reduceIte,Nat.reduceLT,Nat.reduceLeDiff,Nat.reduceAdd,Nat.reduceSub,Nat.reduceMul,Nat.reduceEqDiff,reduceCtorEq,Int.reduceToNat,Int.reduceEq,Int.reduceBEq,Int.reduceBNe,Int.reduceLT,Int.reduceLE,Int.reduceNeg,Int.reduceAdd,Int.reduceSub,Int.reduceMul,Int.reduceGE,Int.reduceGT,endO,clsTp,twS,twO]
   refine guardW (.c (.v (.bool true))) _ (fun E=>rfl) (fun E a w' hs=>slitmus_calls w' _ _ (clL j) (lt_ownG hs 2 rfl rfl rfl) (lt_ownG hs 6 rfl rfl rfl)) ?_
   simp (maxSteps:=2000000) only [go_sem,↓reduceIte,Nat.reduceLT,Nat.reduceLeDiff,Nat.reduceAdd,Nat.reduceSub,Nat.reduceMul,Nat.reduceEqDiff,reduceCtorEq,Int.reduceToNat,Int.reduceEq,Int.reduceBEq,Int.reduceBNe,Int.reduceLT,Int.reduceLE,Int.reduceNeg,Int.reduceAdd,Int.reduceSub,Int.reduceMul,Int.reduceGE,Int.reduceGT,endO]
   refine guardW (.c (.v (.bool true))) _ (fun E=>rfl) (fun E a w' hs=>leaves_calls w') ?_
   simp (maxSteps:=2000000) only [go_sem,↓reduceIte,Nat.reduceLT,Nat.reduceLeDiff,Nat.reduceAdd,Nat.reduceSub,Nat.reduceMul,Nat.reduceEqDiff,reduceCtorEq,Int.reduceToNat,Int.reduceEq,Int.reduceBEq,Int.reduceBNe,Int.reduceLT,Int.reduceLE,Int.reduceNeg,Int.reduceAdd,Int.reduceSub,Int.reduceMul,Int.reduceGE,Int.reduceGT,endO]
   exact retV fun E=>by simp [SV.den,SC.den]
  ·refine callV clNoS _ clNoS_den (fun E a w' hs=>hp w') ?_
   simp (maxSteps:=2000000) only [go_sem,↓reduceIte,Nat.reduceLT,Nat.reduceLeDiff,Nat.reduceAdd,Nat.reduceSub,Nat.reduceMul,Nat.reduceEqDiff,reduceCtorEq,Int.reduceToNat,Int.reduceEq,Int.reduceBEq,Int.reduceBNe,Int.reduceLT,Int.reduceLE,Int.reduceNeg,Int.reduceAdd,Int.reduceSub,Int.reduceMul,Int.reduceGE,Int.reduceGT,endO,clNoS]
   refine callV clNoS _ clNoS_den (fun E a w' hs=>hr w') ?_
   simp (maxSteps:=2000000) only [go_sem,↓reduceIte,Nat.reduceLT,Nat.reduceLeDiff,Nat.reduceAdd,Nat.reduceSub,Nat.reduceMul,Nat.reduceEqDiff,reduceCtorEq,Int.reduceToNat,Int.reduceEq,Int.reduceBEq,Int.reduceBNe,Int.reduceLT,Int.reduceLE,Int.reduceNeg,Int.reduceAdd,Int.reduceSub,Int.reduceMul,Int.reduceGE,Int.reduceGT,endO,clNoS]
   refine guardW (.c (.v (.bool true))) _ (fun E=>rfl) (fun E a w' hs=>slitmus_calls w' _ _ ⟨[],[]⟩ (lt_nil w') (lt_nil w')) ?_
   simp (maxSteps:=2000000) only [go_sem,↓reduceIte,Nat.reduceLT,Nat.reduceLeDiff,Nat.reduceAdd,Nat.reduceSub,Nat.reduceMul,Nat.reduceEqDiff,reduceCtorEq,Int.reduceToNat,Int.reduceEq,Int.reduceBEq,Int.reduceBNe,Int.reduceLT,Int.reduceLE,Int.reduceNeg,Int.reduceAdd,Int.reduceSub,Int.reduceMul,Int.reduceGE,Int.reduceGT,endO]
   refine guardW (.c (.v (.bool true))) _ (fun E=>rfl) (fun E a w' hs=>leaves_calls w') ?_
   simp (maxSteps:=2000000) only [go_sem,↓reduceIte,Nat.reduceLT,Nat.reduceLeDiff,Nat.reduceAdd,Nat.reduceSub,Nat.reduceMul,Nat.reduceEqDiff,reduceCtorEq,Int.reduceToNat,Int.reduceEq,Int.reduceBEq,Int.reduceBNe,Int.reduceLT,Int.reduceLE,Int.reduceNeg,Int.reduceAdd,Int.reduceSub,Int.reduceMul,Int.reduceGE,Int.reduceGT,endO]
   exact retV fun E=>by simp [SV.den,SC.den]
end Go.Proofs.Ytmcpdafmkkjlcaa.Z
namespace Go.Proofs.Ytmcpdafmkkjlcaa.Z
open Go Go.RowKit Go.ChangeShapes Go.WideShapes Go.ChangeAt
theorem own:ownKnob Try.prog.godebug=none:=by kernel_rfl
theorem laidOut:laidOutB Try.prog=true:=by kernel_rfl
section
variable {H:Type} {enc:TypeId×Value→H} {P:Program} {w:World} {base:Nat} {spare:Nat→Bool} {held:Bool}
end
section
variable {H:Type} {enc:TypeId×Value→H} {w:World}
end
end Go.Proofs.Ytmcpdafmkkjlcaa.Z
