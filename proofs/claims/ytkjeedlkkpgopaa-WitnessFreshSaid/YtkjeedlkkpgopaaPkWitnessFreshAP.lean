/- WitnessFreshSaid: what its proof is made of. No condition. -/
import Derived.Test.YtkjeedlkkpgopaaPkWitnessFreshAO
set_option linter.unusedSimpArgs false
set_option linter.unusedVariables false
namespace Go.Proofs.Ytkjeedlkkpgopaa.Z
open Go Go.RowKit
theorem chkE_may {xs:List Cl} {o:List Int} (h:mayQ xs=false):chkE xs o=120:=by
 unfold chkE;rw [← mayQ_pB,h];simp
theorem chkE_ord {xs:List Cl} {o:List Int} (h:mayQ xs=true) (h2:pB (IsO xs o)=false):chkE xs o=121:=by
 unfold chkE;rw [← mayQ_pB,h,h2];simp
theorem chkE_tim {xs:List Cl} {o:List Int} (h:mayQ xs=true) (h2:pB (IsO xs o)=true) (h3:pB (InT xs o)=false):chkE xs o=122:=by
 unfold chkE;rw [← mayQ_pB,h,h2,h3];simp
theorem chkE_pl {xs:List Cl} {o:List Int} (h:mayQ xs=true) (h2:pB (IsO xs o)=true) (h3:pB (InT xs o)=true):chkE xs o=if (playM mc0 0 (lineO xs o)).2 = -1 then 0 else 123:=by
 unfold chkE;rw [← mayQ_pB,h,h2,h3];simp
theorem chkM_0 {xs:List Cl} {o:List Int} (h:chkE xs o≠0):chkM xs o=mc0:=by unfold chkM;rw [if_neg h]
theorem chkM_pl {xs:List Cl} {o:List Int} (h:mayQ xs=true) (h2:pB (IsO xs o)=true) (h3:pB (InT xs o)=true):chkM xs o=plM (playM mc0 0 (lineO xs o)):=by
 unfold chkM plM
 rw [chkE_pl h h2 h3]
 by_cases e:(playM mc0 0 (lineO xs o)).2 = -1 <;> simp [e]
def lkT (e:Int) (b:Nat):SV:=.tup [(true,mcS b),(false,[.v (.int .i64 e)])]
theorem lkT_ok (c0 c1 c2 c3 c4:SC) (e:Int):∀ b (E E2:Env),E2.χ (b,0,0)=c0.den E→E2.χ (b+1,0,0)=c1.den E→E2.χ (b+2,0,0)=c2.den E→E2.χ (b+3,0,0)=c3.den E→E2.χ (b+4,0,0)=c4.den E →
  (SV.tup [(true,[c0,c1,c2,c3,c4]),(false,[.v (.int .i64 e)])]).den E=(lkT e b).den E2:=fun b E E2 e0 e1 e2 e3 e4=>by
 simp [lkT,mcS,SV.den,den1,SC.den,e0,e1,e2,e3,e4]
def ir54:IR:=(.seq (.ops [⟨(some 4),(.new 70 [(.v (.slice none 0 0)),(.v (.slice none 0 0)),(.v (.slice none 0 0)),(.v (.slice none 0 0)),(.v (.slice none 0 0))]),none⟩,⟨(some 5),(.mv (.k (.c (.v (.int .i64 0))))),none⟩]) (.kill [2,3,5,6,7,8,9,10,11] (.seq (.seq (.ops [⟨(some 19),(.mv (.t 0)),none⟩,⟨(some 20),(.call 15 [(.t 19)]),none⟩,⟨(some 21),(.un .not (.t 20)),none⟩]) (.kill [19,20] (.cond (.t 21) (.seq (.ops [⟨(some 22),(.build [(.v (.slice none 0 0)),(.v (.slice none 0 0)),(.v (.slice none 0 0)),(.v (.slice none 0 0)),(.v (.slice none 0 0))] []),none⟩,⟨none,(.st 5 (.t 4) (.t 22)),none⟩,⟨(some 5),(.mv (.k (.c (.v (.int .i64 120))))),none⟩]) (.kill [0,1,21,22] .ret)) .skip))) (.kill [5,21] (.seq (.ops [⟨(some 23),(.mv (.t 0)),none⟩,⟨(some 24),(.len (.t 23)),none⟩,⟨(some 25),(.mks 3 1 8 [(.v (.int .i64 0))] (.t 24) (.t 24)),none⟩,⟨(some 6),(.mv (.t 25)),none⟩]) (.kill [23,24,25] (.seq (.seq (.ops [⟨(some 26),(.mv (.t 1)),none⟩,⟨(some 27),(.len (.t 26)),none⟩,⟨(some 28),(.mv (.k (.c (.v (.int .i64 0))))),none⟩]) (.blk 0 (.loop (.seq (.ops [⟨(some 29),(.bin .lss (.t 28) (.t 27)),none⟩]) (.kill [5,8,30,31,32,33,34,35,36,37,38,39,40,41,42,43,44,45,46,47,48,49,50,51,52,53,54,55,56,57,58,59,60,61,62] (.seq (.cond (.t 29) .skip (.exit 0)) (.kill [29] (.seq (.blk 1 (.seq (.ops [⟨(some 30),(.ia 1 (.t 26) (.t 28)),none⟩,⟨(some 31),(.ld false 1 (.t 30)),none⟩,⟨(some 8),(.mv (.t 31)),none⟩]) (.kill [30,31] (.seq (.seq (.ops [⟨(some 32),(.mv (.t 8)),none⟩,⟨(some 33),(.bin .lss (.t 32) (.k (.c (.v (.int .i64 0))))),none⟩,⟨(some 34),(.mv (.t 33)),none⟩,⟨(some 35),(.mv (.t 8)),(some (34,false))⟩,⟨(some 36),(.mv (.t 0)),(some (34,false))⟩,⟨(some 37),(.len (.t 36)),(some (34,false))⟩,⟨(some 38),(.bin .geq (.t 35) (.t 37)),(some (34,false))⟩,⟨(some 39),(.pick (.t 34) (.k (.c (.v (.bool true)))) (.t 38)),none⟩,⟨(some 40),(.mv (.t 39)),none⟩,⟨(some 41),(.mv (.t 0)),(some (40,false))⟩,⟨(some 42),(.mv (.t 8)),(some (40,false))⟩,⟨(some 43),(.ia 9 (.t 41) (.t 42)),(some (40,false))⟩,⟨(some 44),(.ld true 9 (.t 43)),(some (40,false))⟩,⟨(some 45),(.call 42 [(.t 44)]),(some (40,false))⟩,⟨(some 46),(.un .not (.t 45)),(some (40,false))⟩,⟨(some 47),(.pick (.t 40) (.k (.c (.v (.bool true)))) (.t 46)),none⟩,⟨(some 48),(.mv (.t 47)),none⟩,⟨(some 49),(.mv (.t 6)),(some (48,false))⟩,⟨(some 50),(.mv (.t 8)),(some (48,false))⟩,⟨(some 51),(.ia 1 (.t 49) (.t 50)),(some (48,false))⟩,⟨(some 52),(.ld false 1 (.t 51)),(some (48,false))⟩,⟨(some 53),(.bin .gtr (.t 52) (.k (.c (.v (.int .i64 0))))),(some (48,false))⟩,⟨(some 54),(.pick (.t 48) (.k (.c (.v (.bool true)))) (.t 53)),none⟩]) (.kill [32,33,34,35,36,37,38,39,40,41,42,43,44,45,46,47,48,49,50,51,52,53] (.cond (.t 54) (.seq (.ops [⟨(some 55),(.build [(.v (.slice none 0 0)),(.v (.slice none 0 0)),(.v (.slice none 0 0)),(.v (.slice none 0 0)),(.v (.slice none 0 0))] []),none⟩,⟨none,(.st 5 (.t 4) (.t 55)),none⟩,⟨(some 5),(.mv (.k (.c (.v (.int .i64 121))))),none⟩]) (.kill [0,1,6,8,26,27,28,54,55] .ret)) .skip))) (.kill [5,54] (.ops [⟨(some 56),(.mv (.t 6)),none⟩,⟨(some 57),(.mv (.t 8)),none⟩,⟨(some 58),(.ia 1 (.t 56) (.t 57)),none⟩,⟨(some 59),(.ld false 1 (.t 58)),none⟩,⟨(some 60),(.bin .add (.t 59) (.k (.c (.v (.int .i64 1))))),none⟩,⟨(some 61),(.ia 1 (.t 56) (.t 57)),none⟩,⟨none,(.st 1 (.t 61) (.t 60)),none⟩])))))) (.kill [5,8,30,31,32,33,34,35,36,37,38,39,40,41,42,43,44,45,46,47,48,49,50,51,52,53,54,55,56,57,58,59,60,61] (.ops [⟨(some 62),(.bin .add (.t 28) (.k (.c (.v (.int .i64 1))))),none⟩,⟨(some 28),(.mv (.t 62)),none⟩])))))))))) (.kill [5,8,26,27,28,29,30,31,32,33,34,35,36,37,38,39,40,41,42,43,44,45,46,47,48,49,50,51,52,53,54,55,56,57,58,59,60,61,62] (.seq (.seq (.ops [⟨(some 63),(.mv (.t 0)),none⟩,⟨(some 64),(.len (.t 63)),none⟩,⟨(some 65),(.mv (.k (.c (.v (.int .i64 0))))),none⟩]) (.blk 2 (.loop (.seq (.ops [⟨(some 66),(.bin .lss (.t 65) (.t 64)),none⟩]) (.kill [5,9,10,67,68,69,70,71,72,73,74,75,76,77,78,79,80,81,82,83,84,85] (.seq (.cond (.t 66) .skip (.exit 2)) (.kill [66] (.seq (.blk 3 (.seq (.ops [⟨(some 67),(.mv (.t 65)),none⟩,⟨(some 68),(.ia 9 (.t 63) (.t 65)),none⟩,⟨(some 69),(.ld true 9 (.t 68)),none⟩,⟨(some 10),(.new 53 [(.v (.int .i64 0)),(.v (.int .i64 0)),(.v (.int .i64 0)),(.v (.int .i64 0)),(.v (.int .i64 0)),(.v (.int .i64 0)),(.v (.int .i64 0)),(.v (.int .i64 0)),(.v (.int .i64 0))]),none⟩,⟨(some 9),(.mv (.t 67)),none⟩,⟨none,(.st 9 (.t 10) (.t 69)),none⟩]) (.kill [67,68,69] (.seq (.ops [⟨(some 70),(.ld true 9 (.t 10)),none⟩,⟨(some 71),(.call 42 [(.t 70)]),none⟩,⟨(some 72),(.mv (.t 71)),none⟩,⟨(some 73),(.fa 5 (.t 10)),(some (72,true))⟩,⟨(some 74),(.ld false 1 (.t 73)),(some (72,true))⟩,⟨(some 75),(.bin .neq (.t 74) (.k (.c (.v (.int .i64 (-1)))))),(some (72,true))⟩,⟨(some 76),(.pick (.t 72) (.t 75) (.k (.c (.v (.bool false))))),none⟩,⟨(some 77),(.mv (.t 76)),none⟩,⟨(some 78),(.mv (.t 6)),(some (77,true))⟩,⟨(some 79),(.mv (.t 9)),(some (77,true))⟩,⟨(some 80),(.ia 1 (.t 78) (.t 79)),(some (77,true))⟩,⟨(some 81),(.ld false 1 (.t 80)),(some (77,true))⟩,⟨(some 82),(.bin .eql (.t 81) (.k (.c (.v (.int .i64 0))))),(some (77,true))⟩,⟨(some 83),(.pick (.t 77) (.t 82) (.k (.c (.v (.bool false))))),none⟩]) (.kill [9,10,70,71,72,73,74,75,76,77,78,79,80,81,82] (.cond (.t 83) (.seq (.ops [⟨(some 84),(.build [(.v (.slice none 0 0)),(.v (.slice none 0 0)),(.v (.slice none 0 0)),(.v (.slice none 0 0)),(.v (.slice none 0 0))] []),none⟩,⟨none,(.st 5 (.t 4) (.t 84)),none⟩,⟨(some 5),(.mv (.k (.c (.v (.int .i64 121))))),none⟩]) (.kill [0,1,6,63,64,65,83,84] .ret)) .skip)))))) (.kill [5,9,10,67,68,69,70,71,72,73,74,75,76,77,78,79,80,81,82,83,84] (.ops [⟨(some 85),(.bin .add (.t 65) (.k (.c (.v (.int .i64 1))))),none⟩,⟨(some 65),(.mv (.t 85)),none⟩])))))))))) (.kill [5,6,9,10,63,64,65,66,67,68,69,70,71,72,73,74,75,76,77,78,79,80,81,82,83,84,85] (.seq (.ops [⟨(some 11),(.mv (.k (.c (.v (.slice none 0 0))))),none⟩]) (.seq (.ops [⟨(some 12),(.mv (.k (.c (.v (.int .i64 (-1)))))),none⟩]) (.seq (.seq (.ops [⟨(some 86),(.mv (.t 1)),none⟩,⟨(some 87),(.len (.t 86)),none⟩,⟨(some 88),(.mv (.k (.c (.v (.int .i64 0))))),none⟩]) (.kill [1] (.blk 4 (.loop (.seq (.ops [⟨(some 89),(.bin .lss (.t 88) (.t 87)),none⟩]) (.kill [5,14,15,90,91,92,93,94,95,96,97,98,99,100,101,102,103,104,105,106,107,108,109,110,111,112,113,114,115,116,117,118,119,120] (.seq (.cond (.t 89) .skip (.exit 4)) (.kill [89] (.seq (.blk 5 (.seq (.ops [⟨(some 90),(.ia 1 (.t 86) (.t 88)),none⟩,⟨(some 91),(.ld false 1 (.t 90)),none⟩,⟨(some 14),(.mv (.t 91)),none⟩]) (.kill [90,91] (.seq (.seq (.ops [⟨(some 92),(.mv (.t 0)),none⟩,⟨(some 93),(.mv (.t 14)),none⟩,⟨(some 94),(.ia 9 (.t 92) (.t 93)),none⟩,⟨(some 95),(.ld true 9 (.t 94)),none⟩,⟨(some 15),(.new 53 [(.v (.int .i64 0)),(.v (.int .i64 0)),(.v (.int .i64 0)),(.v (.int .i64 0)),(.v (.int .i64 0)),(.v (.int .i64 0)),(.v (.int .i64 0)),(.v (.int .i64 0)),(.v (.int .i64 0))]),none⟩,⟨none,(.st 9 (.t 15) (.t 95)),none⟩]) (.kill [92,93,94,95] (.seq (.ops [⟨(some 96),(.fa 5 (.t 15)),none⟩,⟨(some 97),(.ld false 1 (.t 96)),none⟩,⟨(some 98),(.bin .neq (.t 97) (.k (.c (.v (.int .i64 (-1)))))),none⟩,⟨(some 99),(.mv (.t 98)),none⟩,⟨(some 100),(.fa 5 (.t 15)),(some (99,true))⟩,⟨(some 101),(.ld false 1 (.t 100)),(some (99,true))⟩,⟨(some 102),(.mv (.t 12)),(some (99,true))⟩,⟨(some 103),(.bin .lss (.t 101) (.t 102)),(some (99,true))⟩,⟨(some 104),(.pick (.t 99) (.t 103) (.k (.c (.v (.bool false))))),none⟩]) (.kill [15,96,97,98,99,100,101,102,103] (.cond (.t 104) (.seq (.ops [⟨(some 105),(.build [(.v (.slice none 0 0)),(.v (.slice none 0 0)),(.v (.slice none 0 0)),(.v (.slice none 0 0)),(.v (.slice none 0 0))] []),none⟩,⟨none,(.st 5 (.t 4) (.t 105)),none⟩,⟨(some 5),(.mv (.k (.c (.v (.int .i64 122))))),none⟩]) (.kill [0,11,12,14,86,87,88,104,105] .ret)) .skip))))) (.kill [5,104] (.seq (.ops [⟨(some 106),(.mv (.t 12)),none⟩,⟨(some 107),(.mv (.t 0)),none⟩,⟨(some 108),(.mv (.t 14)),none⟩,⟨(some 109),(.ia 9 (.t 107) (.t 108)),none⟩,⟨(some 110),(.fa 4 (.t 109)),none⟩,⟨(some 111),(.ld false 1 (.t 110)),none⟩,⟨(some 112),(.mm true (.t 106) (.t 111)),none⟩,⟨(some 12),(.mv (.t 112)),none⟩]) (.kill [106,107,108,109,110,111,112] (.ops [⟨(some 113),(.mv (.t 11)),none⟩,⟨(some 114),(.mv (.t 0)),none⟩,⟨(some 115),(.mv (.t 14)),none⟩,⟨(some 116),(.ia 9 (.t 114) (.t 115)),none⟩,⟨(some 117),(.ld true 9 (.t 116)),none⟩,⟨(some 118),(.mkSl 53 1 9 [(.v (.int .i64 0)),(.v (.int .i64 0)),(.v (.int .i64 0)),(.v (.int .i64 0)),(.v (.int .i64 0)),(.v (.int .i64 0)),(.v (.int .i64 0)),(.v (.int .i64 0)),(.v (.int .i64 0))] [(0,(9,(.t 117)))]),none⟩,⟨(some 119),(.app 53 9 72 [(.v (.int .i64 0)),(.v (.int .i64 0)),(.v (.int .i64 0)),(.v (.int .i64 0)),(.v (.int .i64 0)),(.v (.int .i64 0)),(.v (.int .i64 0)),(.v (.int .i64 0)),(.v (.int .i64 0))] (.t 113) (.t 118)),none⟩,⟨(some 11),(.mv (.t 119)),none⟩])))))))) (.kill [5,14,15,90,91,92,93,94,95,96,97,98,99,100,101,102,103,104,105,106,107,108,109,110,111,112,113,114,115,116,117,118,119] (.ops [⟨(some 120),(.bin .add (.t 88) (.k (.c (.v (.int .i64 1))))),none⟩,⟨(some 88),(.mv (.t 120)),none⟩]))))))))))) (.kill [0,5,12,14,15,86,87,88,89,90,91,92,93,94,95,96,97,98,99,100,101,102,103,104,105,106,107,108,109,110,111,112,113,114,115,116,117,118,119,120] (.seq (.ops [⟨(some 122),(.build [(.v (.slice none 0 0)),(.v (.slice none 0 0)),(.v (.slice none 0 0)),(.v (.slice none 0 0)),(.v (.slice none 0 0))] []),none⟩,⟨(some 123),(.mv (.t 11)),none⟩,⟨(some 124),(.call 71 [(.t 122),(.t 123)]),none⟩,⟨(some 121),(.mv (.t 124)),none⟩,⟨(some 125),(.ext 0 (.t 121)),none⟩,⟨(some 126),(.ext 1 (.t 121)),none⟩,⟨(some 127),(.ext 2 (.t 121)),none⟩,⟨(some 16),(.new 70 [(.v (.slice none 0 0)),(.v (.slice none 0 0)),(.v (.slice none 0 0)),(.v (.slice none 0 0)),(.v (.slice none 0 0))]),none⟩,⟨none,(.st 5 (.t 16) (.t 125)),none⟩,⟨(some 17),(.mv (.t 126)),none⟩,⟨(some 18),(.mv (.t 127)),none⟩]) (.kill [11,121,122,123,124,125,126,127] (.seq (.seq (.ops [⟨(some 128),(.mv (.t 18)),none⟩,⟨(some 129),(.bin .neq (.t 128) (.k (.c (.v (.int .i64 0))))),none⟩,⟨(some 130),(.mv (.t 129)),none⟩,⟨(some 131),(.mv (.t 17)),(some (130,false))⟩,⟨(some 132),(.bin .geq (.t 131) (.k (.c (.v (.int .i64 0))))),(some (130,false))⟩,⟨(some 133),(.pick (.t 130) (.k (.c (.v (.bool true)))) (.t 132)),none⟩]) (.kill [17,18,128,129,130,131,132] (.cond (.t 133) (.seq (.ops [⟨(some 134),(.build [(.v (.slice none 0 0)),(.v (.slice none 0 0)),(.v (.slice none 0 0)),(.v (.slice none 0 0)),(.v (.slice none 0 0))] []),none⟩,⟨none,(.st 5 (.t 4) (.t 134)),none⟩,⟨(some 5),(.mv (.k (.c (.v (.int .i64 123))))),none⟩]) (.kill [16,133,134] .ret)) .skip))) (.kill [5,133] (.seq (.ops [⟨(some 135),(.ld true 5 (.t 16)),none⟩,⟨none,(.st 5 (.t 4) (.t 135)),none⟩,⟨(some 5),(.mv (.k (.c (.v (.int .i64 0))))),none⟩]) (.kill [16,135] .ret))))))))))))))))))))
def rs54:List RS:=[(.cell 4 true 5),(.t 5)]
def nt54:Nat:=136
def ir35:IR:=(.seq (.ops [⟨(some 4),(.mv (.k (.c (.v (.int .i64 0))))),none⟩]) (.kill [2,3,4,5,6,7,8,9,10,11] (.seq (.ops [⟨(some 8),(.mv (.t 0)),none⟩,⟨(some 9),(.mv (.t 1)),none⟩,⟨(some 10),(.call 54 [(.t 8),(.t 9)]),none⟩,⟨(some 7),(.mv (.t 10)),none⟩,⟨(some 11),(.ext 0 (.t 7)),none⟩,⟨(some 12),(.ext 1 (.t 7)),none⟩,⟨(some 5),(.new 70 [(.v (.slice none 0 0)),(.v (.slice none 0 0)),(.v (.slice none 0 0)),(.v (.slice none 0 0)),(.v (.slice none 0 0))]),none⟩,⟨none,(.st 5 (.t 5) (.t 11)),none⟩,⟨(some 6),(.mv (.t 12)),none⟩]) (.kill [0,1,5,7,8,9,10,11,12] (.seq (.ops [⟨(some 13),(.mv (.t 6)),none⟩,⟨(some 4),(.mv (.t 13)),none⟩]) (.kill [6,13] .ret))))))
def rs35:List RS:=[(.t 4)]
def nt35:Nat:=14
def latK (xs:List Cl) (o:List Int):Nat→Int
 | 0=>-1
 | k+1=>if (cAt xs (o.getD k 0)).beg>latK xs o k then (cAt xs (o.getD k 0)).beg else latK xs o k
theorem latK_ge {xs:List Cl} {o:List Int}:∀ {k a:Nat},a<k→(cAt xs (o.getD a 0)).beg≤latK xs o k
 | 0,a,h=>by omega
 | k+1,a,h=>by
  simp only [latK]
  by_cases e:a=k
  ·subst e;split <;> omega
  ·have:=latK_ge (xs:=xs) (o:=o) (show a<k by omega)
   split <;> omega
theorem latK_ex {xs:List Cl} {o:List Int}:∀ {k:Nat},latK xs o k = -1∨∃ a,a<k∧latK xs o k=(cAt xs (o.getD a 0)).beg
 | 0=>Or.inl rfl
 | k+1=>by
  simp only [latK]
  split
  ·exact Or.inr ⟨k,by omega,rfl⟩
  ·rcases latK_ex (xs:=xs) (o:=o) (k:=k) with h | ⟨a,h1,h2⟩
   ·exact Or.inl h
   ·exact Or.inr ⟨a,by omega,h2⟩
theorem line_succ {xs:List Cl} {o:List Int} {k:Nat} (h:k<o.length):lineO xs (o.take (k+1))=lineO xs (o.take k)++[cAt xs (o.getD k 0)]:=by
 rw [take_succ' h];simp [lineO]
theorem fin_pos {xs:List Cl} (hm:mayP xs) {n:Int} (h:0≤n∧n<xs.length):(cAt xs n).fin = -1∨0≤(cAt xs n).fin:=by
 have h1:=hm.1.shaped n.toNat (by omega)
 simp only [shapedB,decide_eq_true_eq] at h1
 simp only [cAt]
 by_cases e:(xs.getD n.toNat cl0).fin = -1
 ·exact Or.inl e
 ·have:=h1.1.2.2.2 e
  exact Or.inr (by omega)
theorem playM_sgn:∀ (cs:List Cl) (m:MC) (i:Nat),(playM m i cs).2 = -1∨0≤(playM m i cs).2
 | [],m,i=>Or.inl rfl
 | c :: r,m,i=>by
  simp only [playM]
  split
  ·exact playM_sgn r _ _
  ·exact Or.inr (by simp)
def stN (l:List Int) (e:Int):Int:=if e∈l then 1 else 0
def stF (l:List Int) (e:Nat):List SC:=[.v (.int .i64 (stN l e))]
set_option maxRecDepth 100000 in
set_option maxHeartbeats 400000 in
theorem look_calls (w:World) (v v' : Value) (xs:List Cl) (o:List Int) (hsz:xs.length * 72≤140737488355328) (h:Arr w Cl.enc 9 v xs) (h' : Arr w eI 1 v' o):Calls Try.prog 54 #[v,v'] w (RetB w (fun _=>True) 5 (lkT (chkE xs o)) (mcR (chkM xs o))):=by
 have hlen':=Z.Arr.lenM h'
 simp only [maxLen] at hlen'
 refine enter2 (A:=[]) (c:=ir54) (rs:=rs54) (nt:=nt54) cl0 cl_ok h 0 eI_ok h' [.c (.xv (0,0,0)),.c (.xv (1,0,0))] _ Try.func54 rfl (by kernel_rfl) (by kernel_rfl) rfl (fun E' h0 h1=>by simp [SV.den,SC.den,h0,h1]) (of_decide_eq_true rfl) ?_
 simp (maxSteps:=2000000) only [ir54,nt54,rs54,go_sem,↓reduceIte,Nat.reduceLT,Nat.reduceLeDiff,Nat.reduceAdd,Nat.reduceSub,Nat.reduceMul,Nat.reduceEqDiff,reduceCtorEq,Int.reduceToNat,Int.reduceEq,Int.reduceBEq,Int.reduceBNe,Int.reduceLT,Int.reduceLE,Int.reduceNeg,Int.reduceAdd,Int.reduceSub,Int.reduceMul,Int.reduceGE,Int.reduceGT,Cl.enc,iv,endO]
 refine callV (.c (.bo (mayQ xs))) _ (fun E=>rfl) (fun E a w' hs=>mayW w' _ xs (arr_at (d:=cl0) hs 0 rfl)) ?_
 simp (maxSteps:=2000000) only [go_sem,↓reduceIte,Nat.reduceLT,Nat.reduceLeDiff,Nat.reduceAdd,Nat.reduceSub,Nat.reduceMul,Nat.reduceEqDiff,reduceCtorEq,Int.reduceToNat,Int.reduceEq,Int.reduceBEq,Int.reduceBNe,Int.reduceLT,Int.reduceLE,Int.reduceNeg,Int.reduceAdd,Int.reduceSub,Int.reduceMul,Int.reduceGE,Int.reduceGT,Cl.enc,iv,endO]
 refine both (fun hm=>?_) (fun hm=>?_)
 ·rw [Bool.not_eq_true'] at hm
  have e1:=chkE_may (o:=o) hm
  rw [e1,chkM_0 (by rw [e1];decide)]
  exact retB5 _ _ _ _ _ rdN_nil rdN_nil rdN_nil rdN_nil rdN_nil (lkT_ok _ _ _ _ _ 120)
 rw [Bool.not_eq_false'] at hm
 repeat (with_reducible refine And.intro (by first | (simp only [maxLen];omega) | omega | decide | (simp;done) | (simp [maxLen];omega)) ?_)
 refine loopI (ι:={ i:Nat // i≤o.length∧IsO1 xs o i }) (fun i=>⟨136,[(0,.c (.xv (0,0,0))),(1,.c (.xv (1,0,0))),(4,.c (.ptr (2,0,0) 0)),(6,.c (.sl (3,0,0) 1 0 xs.length none)),(26,.c (.xv (1,0,0))),(27,.c (.v (.int .i64 o.length))),(28,.c (.v (.int .i64 (i.1:Nat))))],
  [(2,.one (.bk nil5 70)),(3,.one (.ar xs.length 1 (stF (o.take i.1)) 3))],[(0,.one (arrOf Cl.enc 9 xs cl0)),(1,.one (arrOf eI 1 o 0))],[],4⟩)
  (fun i=>o.length - i.1) ⟨0,by omega,by simp [IsO1]⟩ ?_ ?_
 ·simp only [nil5]
  exact le_ren id rfl rfl (by simp [TmpsLe,look,SV.ren,SC.ren,SC.renL,ren1L,ren1,idσ,SV.okN,SC.okN,SC.okL,ok1L]) (by simp [OwnLe,BlkLeO,BlkLe,atN,look,Fm.get,idσ,SC.renL,SC.ren,SC.okL,SC.okN,stF,stN]) (by simp [ArrsLe,ArrLeO,atN,look,Fm.get,idσ,arrLe_of,arrLe_0]) rfl
 rintro ⟨i,hi,hg⟩
 simp (maxSteps:=2000000) only [go_sem,↓reduceIte,Nat.reduceLT,Nat.reduceLeDiff,Nat.reduceAdd,Nat.reduceSub,Nat.reduceMul,Nat.reduceEqDiff,reduceCtorEq,Int.reduceToNat,Int.reduceEq,Int.reduceBEq,Int.reduceBNe,Int.reduceLT,Int.reduceLE,Int.reduceNeg,Int.reduceAdd,Int.reduceSub,Int.reduceMul,Int.reduceGE,Int.reduceGT,Cl.enc,iv,endO,eI,nil5]
 refine both (fun hlt=>?_) (fun hge=>?_)
 ·rw [decide_eq_true_eq] at hlt
  have hlt:i<o.length:=by omega
  have hfst:=fun h:IsO xs o=>h.fst hlt
  have hstep:=IsO1.step hg hlt
  have htk:=take_succ' hlt
  generalize hn:o.getD i 0=n at hfst hstep htk ⊢
  refine ⟨hlt,hlt,fun h=>?_,fun h=>?_,?_⟩
  ·simp only [b_decR,b_decL,bt_ite,bf_ite,bt_dec,bf_dec,bt_int,bf_int,bt_nint,bf_nint,bt_bool,bf_bool,bt_nbool,bf_nbool,bt_not,bf_not,bt_and,bf_and,bt_or,bf_or,Bool.false_eq_true,Bool.true_eq_false,Bool.not_eq_true,Bool.not_eq_false,reduceCtorEq,false_iff,true_iff,iff_false,iff_true,and_true,true_and,and_false,false_and,or_true,true_or,or_false,false_or,not_true_eq_false,not_false_eq_true,ne_eq] at h;omega
  ·simp only [b_decR,b_decL,bt_ite,bf_ite,bt_dec,bf_dec,bt_int,bf_int,bt_nint,bf_nint,bt_bool,bf_bool,bt_nbool,bf_nbool,bt_not,bf_not,bt_and,bf_and,bt_or,bf_or,Bool.false_eq_true,Bool.true_eq_false,Bool.not_eq_true,Bool.not_eq_false,reduceCtorEq,false_iff,true_iff,iff_false,iff_true,and_true,true_and,and_false,false_and,or_true,true_or,or_false,false_or,not_true_eq_false,not_false_eq_true,ne_eq] at h;omega
  refine guardW (.c (.bo (cntB (cAt xs n)))) _ (fun E=>rfl) (fun E a w' _=>counts_calls w' (cAt xs n)) ?_
  simp (maxSteps:=2000000) only [go_sem,↓reduceIte,Nat.reduceLT,Nat.reduceLeDiff,Nat.reduceAdd,Nat.reduceSub,Nat.reduceMul,Nat.reduceEqDiff,reduceCtorEq,Int.reduceToNat,Int.reduceEq,Int.reduceBEq,Int.reduceBNe,Int.reduceLT,Int.reduceLE,Int.reduceNeg,Int.reduceAdd,Int.reduceSub,Int.reduceMul,Int.reduceGE,Int.reduceGT,Cl.enc,iv,endO,stF]
  refine ⟨fun h=>?_,fun h=>?_,fun hb=>?_,fun hb=>?_⟩
  ·cases hc:cntB (cAt xs n) <;> simp only [b_decR,b_decL,bt_ite,bf_ite,bt_dec,bf_dec,bt_int,bf_int,bt_nint,bf_nint,bt_bool,bf_bool,bt_nbool,bf_nbool,bt_not,bf_not,bt_and,bf_and,bt_or,bf_or,Bool.false_eq_true,Bool.true_eq_false,Bool.not_eq_true,Bool.not_eq_false,reduceCtorEq,false_iff,true_iff,iff_false,iff_true,and_true,true_and,and_false,false_and,or_true,true_or,or_false,false_or,not_true_eq_false,not_false_eq_true,ne_eq,hc] at h <;> omega
  ·cases hc:cntB (cAt xs n) <;> simp only [b_decR,b_decL,bt_ite,bf_ite,bt_dec,bf_dec,bt_int,bf_int,bt_nint,bf_nint,bt_bool,bf_bool,bt_nbool,bf_nbool,bt_not,bf_not,bt_and,bf_and,bt_or,bf_or,Bool.false_eq_true,Bool.true_eq_false,Bool.not_eq_true,Bool.not_eq_false,reduceCtorEq,false_iff,true_iff,iff_false,iff_true,and_true,true_and,and_false,false_and,or_true,true_or,or_false,false_or,not_true_eq_false,not_false_eq_true,ne_eq,hc] at h <;> omega
  ·have e1:chkE xs o=121:=chkE_ord hm (pB_f.2 fun ho=>by
    obtain ⟨⟨h1,h2,h3⟩,h4⟩:=hfst ho
    rw [Int.toNat_of_nonneg h1] at hb
    simp only [b_decR,b_decL,bt_ite,bf_ite,bt_dec,bf_dec,bt_int,bf_int,bt_nint,bf_nint,bt_bool,bf_bool,bt_nbool,bf_nbool,bt_not,bf_not,bt_and,bf_and,bt_or,bf_or,Bool.false_eq_true,Bool.true_eq_false,Bool.not_eq_true,Bool.not_eq_false,reduceCtorEq,false_iff,true_iff,iff_false,iff_true,and_true,true_and,and_false,false_and,or_true,true_or,or_false,false_or,not_true_eq_false,not_false_eq_true,ne_eq,h3,stN,if_neg h4] at hb
    omega)
   rw [e1,chkM_0 (by rw [e1];decide)]
   exact retB5 _ _ _ _ _ rdN_nil rdN_nil rdN_nil rdN_nil rdN_nil (lkT_ok _ _ _ _ _ 121)
  ·have h0:0≤n∧n<xs.length∧cntB (cAt xs n)=true:=by
    cases hc:cntB (cAt xs n) with
    | true=>simp only [b_decR,b_decL,bt_ite,bf_ite,bt_dec,bf_dec,bt_int,bf_int,bt_nint,bf_nint,bt_bool,bf_bool,bt_nbool,bf_nbool,bt_not,bf_not,bt_and,bf_and,bt_or,bf_or,Bool.false_eq_true,Bool.true_eq_false,Bool.not_eq_true,Bool.not_eq_false,reduceCtorEq,false_iff,true_iff,iff_false,iff_true,and_true,true_and,and_false,false_and,or_true,true_or,or_false,false_or,not_true_eq_false,not_false_eq_true,ne_eq,hc] at hb;exact ⟨by omega,by omega,rfl⟩
    | false=>simp [hc] at hb
   have h4:n ∉ o.take i:=fun hin=>by
    rw [Int.toNat_of_nonneg h0.1] at hb
    simp only [b_decR,b_decL,bt_ite,bf_ite,bt_dec,bf_dec,bt_int,bf_int,bt_nint,bf_nint,bt_bool,bf_bool,bt_nbool,bf_nbool,bt_not,bf_not,bt_and,bf_and,bt_or,bf_or,Bool.false_eq_true,Bool.true_eq_false,Bool.not_eq_true,Bool.not_eq_false,reduceCtorEq,false_iff,true_iff,iff_false,iff_true,and_true,true_and,and_false,false_and,or_true,true_or,or_false,false_or,not_true_eq_false,not_false_eq_true,ne_eq,h0.2.2,stN,if_pos hin] at hb
    omega
   repeat (with_reducible refine And.intro (by first | (simp only [maxLen];omega) | omega | decide | (simp;done) | (simp [maxLen];omega)) ?_)
   rw [wr_succ (by omega)]
   refine backI ⟨i+1,by omega,hstep h0 h4⟩ (by simp only;omega) (le_ren id rfl rfl (by simp [TmpsLe,look,SV.ren,SC.ren,SC.renL,ren1L,ren1,idσ,SV.okN,SC.okN,SC.okL,ok1L]) ⟨⟨of_decide_eq_true rfl,by simp [BlkLeO,BlkLe,atN,look,Fm.get,idσ,nil5,SC.renL,SC.ren,SC.okL,SC.okN]⟩,⟨of_decide_eq_true rfl,Nat.le_refl _,rfl,rfl,fun e he=>?_⟩,trivial⟩ (by simp [ArrsLe,ArrLeO,atN,look,Fm.get,idσ,arrLe_of,arrLe_0]) rfl)
   simp only [htk,setAt,stF,SC.renL,SC.ren,SC.okL,SC.okN,and_true,drop',take',List.nil_append]
   by_cases e1:e=n.toNat
   ·subst e1
    rw [Int.toNat_of_nonneg h0.1,if_pos rfl]
    simp [stN,h4]
    decide
   ·have e2:¬ (e:Int)=n:=by omega
    rw [if_neg e1]
    simp [stN,e2]
 ·rw [decide_eq_false_iff_not] at hge
  have hin:i=o.length:=by omega
  subst hin
  rw [List.take_length]
  refine loopI (ι:={ i:Nat // i≤xs.length∧IsO2 xs o i }) (fun i=>⟨136,[(0,.c (.xv (0,0,0))),(1,.c (.xv (1,0,0))),(4,.c (.ptr (2,0,0) 0)),(6,.c (.sl (3,0,0) 1 0 xs.length none)),(63,.c (.xv (0,0,0))),(64,.c (.v (.int .i64 xs.length))),(65,.c (.v (.int .i64 (i.1:Nat))))],
   [(2,.one (.bk nil5 70)),(3,.one (.ar xs.length 1 (stF o) 3))],[(0,.one (arrOf Cl.enc 9 xs cl0)),(1,.one (arrOf eI 1 o 0))],[],4⟩)
   (fun i=>xs.length - i.1) ⟨0,by omega,fun k hk=>by omega⟩ ?_ ?_
  ·simp only [nil5]
   exact le_ren id rfl rfl (by simp [TmpsLe,look,SV.ren,SC.ren,SC.renL,ren1L,ren1,idσ,SV.okN,SC.okN,SC.okL,ok1L]) (by simp [OwnLe,BlkLeO,BlkLe,atN,look,Fm.get,idσ,SC.renL,SC.ren,SC.okL,SC.okN,stF]) (by simp [ArrsLe,ArrLeO,atN,look,Fm.get,idσ,arrLe_of,arrLe_0]) rfl
  rintro ⟨k,hk,hg2⟩
  simp (maxSteps:=2000000) only [go_sem,↓reduceIte,Nat.reduceLT,Nat.reduceLeDiff,Nat.reduceAdd,Nat.reduceSub,Nat.reduceMul,Nat.reduceEqDiff,reduceCtorEq,Int.reduceToNat,Int.reduceEq,Int.reduceBEq,Int.reduceBNe,Int.reduceLT,Int.reduceLE,Int.reduceNeg,Int.reduceAdd,Int.reduceSub,Int.reduceMul,Int.reduceGE,Int.reduceGT,Cl.enc,iv,endO,nil5]
  refine both (fun hlt=>?_) (fun hge=>?_)
  ·rw [decide_eq_true_eq] at hlt
   have hlt:k<xs.length:=by omega
   generalize hck:xs.getD k cl0=ck
   repeat (with_reducible refine And.intro (by first | (simp only [maxLen];omega) | omega | decide | (simp;done) | (simp [maxLen];omega)) ?_)
   refine callV (.c (.bo (cntB ck))) _ (fun E=>rfl) (fun E a w' _=>counts_calls w' ck) ?_
   simp (maxSteps:=2000000) only [go_sem,↓reduceIte,Nat.reduceLT,Nat.reduceLeDiff,Nat.reduceAdd,Nat.reduceSub,Nat.reduceMul,Nat.reduceEqDiff,reduceCtorEq,Int.reduceToNat,Int.reduceEq,Int.reduceBEq,Int.reduceBNe,Int.reduceLT,Int.reduceLE,Int.reduceNeg,Int.reduceAdd,Int.reduceSub,Int.reduceMul,Int.reduceGE,Int.reduceGT,Cl.enc,iv,endO,stF]
   rw [wr_succ (by omega)]
   refine ⟨fun _=>⟨hlt,Nat.le_refl _⟩,fun _=>hlt,fun hb=>?_,fun hb=>?_⟩
   ·have hb:(cntB ck=true∧ck.fin≠-1)∧stN o k=0:=by simpa using hb
    have e1:chkE xs o=121:=chkE_ord hm (pB_f.2 fun ho=>by
     have:=ho.all k hlt (by rw [hck];exact hb.1.1) (by rw [hck];exact hb.1.2)
     have h2:=hb.2
     simp [stN,this] at h2)
    rw [e1,chkM_0 (by rw [e1];decide)]
    exact retB5 _ _ _ _ _ rdN_nil rdN_nil rdN_nil rdN_nil rdN_nil (lkT_ok _ _ _ _ _ 121)
   ·refine backI ⟨k+1,by omega,fun j hj h1 h2=>?_⟩ (by simp only;omega) (le_ren id rfl rfl (by simp [TmpsLe,look,SV.ren,SC.ren,SC.renL,ren1L,ren1,idσ,SV.okN,SC.okN,SC.okL,ok1L]) (by simp [OwnLe,BlkLeO,BlkLe,atN,look,Fm.get,idσ,nil5,SC.renL,SC.ren,SC.okL,SC.okN,stF]) (by simp [ArrsLe,ArrLeO,atN,look,Fm.get,idσ,arrLe_of,arrLe_0]) rfl)
    by_cases e:j=k
    ·subst e
     rw [hck] at h1 h2
     by_cases hin:(j:Int)∈o
     ·exact hin
     ·simp [h1,h2,stN,hin] at hb
    ·exact hg2 j (by omega) h1 h2
  ·rw [decide_eq_false_iff_not] at hge
   have hkn:k=xs.length:=by omega
   subst hkn
   have hO:IsO xs o:=by
    have hg1:=hg
    unfold IsO1 at hg1
    rw [List.take_length] at hg1
    exact ⟨hg1.1,hg1.2,hg2⟩
   have ho:=pB_t.2 hO
   have hl:=hO.len
   refine loopI (ι:={ i:Nat // i≤o.length∧InT1 xs o i }) (fun i=>⟨136,[(0,.c (.xv (0,0,0))),(4,.c (.ptr (2,0,0) 0)),(11,.c (.sl (3,0,0) 9 0 (lineO xs (o.take i.1)).length none)),(12,.c (.v (.int .i64 (latK xs o i.1)))),(86,.c (.xv (1,0,0))),(87,.c (.v (.int .i64 o.length))),(88,.c (.v (.int .i64 (i.1:Nat))))],
    [(2,.one (.bk nil5 70)),(3,.one (.ar (lineO xs (o.take i.1)).length 9 (ats Cl.enc (lineO xs (o.take i.1)) cl0) 53))],[(0,.one (arrOf Cl.enc 9 xs cl0)),(1,.one (arrOf eI 1 o 0))],[],4⟩)
    (fun i=>o.length - i.1) ⟨0,by omega,fun a b _ hb=>by omega⟩ ?_ ?_
   ·refine le_tr (le_nilown (tmps':=[(0,.c (.xv (0,0,0))),(4,.c (.ptr (2,0,0) 0)),(11,.c (.sl (4,0,0) 9 0 0 none)),(12,.c (.v (.int .i64 (-1)))),(86,.c (.xv (1,0,0))),(87,.c (.v (.int .i64 o.length))),(88,.c (.v (.int .i64 0)))]) 9 53 (ats Cl.enc [] cl0) (by simp [TmpsNil,look]) rfl) ?_
    exact le_ren (fun i=>if i=3 then 4 else i) rfl rfl (by simp [TmpsLe,look,SV.ren,SC.ren,idσ,SV.okN,SC.okN,lineO,latK]) (by simp [OwnLe,BlkLeO,BlkLe,atN,look,Fm.get,idσ,nil5,SC.renL,SC.ren,SC.okL,SC.okN,lineO]) (by simp [ArrsLe,ArrLeO,atN,look,Fm.get,idσ,arrLe_of,arrLe_0]) rfl
   rintro ⟨i,hi,hgi⟩
   have hll:(lineO xs (o.take i)).length=i:=by rw [line_len,List.length_take];omega
   simp (maxSteps:=2000000) only [go_sem,↓reduceIte,Nat.reduceLT,Nat.reduceLeDiff,Nat.reduceAdd,Nat.reduceSub,Nat.reduceMul,Nat.reduceEqDiff,reduceCtorEq,Int.reduceToNat,Int.reduceEq,Int.reduceBEq,Int.reduceBNe,Int.reduceLT,Int.reduceLE,Int.reduceNeg,Int.reduceAdd,Int.reduceSub,Int.reduceMul,Int.reduceGE,Int.reduceGT,Cl.enc,iv,endO,nil5,eI]
   refine both (fun hlt=>?_) (fun hge=>?_)
   ·rw [decide_eq_true_eq] at hlt
    have hlt:i<o.length:=by omega
    have hon:=hO.ok _ (getD_mem (d:=0) hlt)
    have hfp:=fin_pos (mayQ_iff.1 hm) ⟨hon.1,hon.2.1⟩
    have hls:=line_succ (xs:=xs) hlt
    repeat (with_reducible refine And.intro (by first | (simp only [maxLen];omega) | omega | decide | (simp;done) | (simp [maxLen];omega)) ?_)
    change ((if ((cAt xs (o.getD i 0)).fin != -1)=true then decide ((cAt xs (o.getD i 0)).fin<latK xs o i) else false)=true→_)∧((if ((cAt xs (o.getD i 0)).fin != -1)=true then decide ((cAt xs (o.getD i 0)).fin<latK xs o i) else false)=false→_)
    refine both (fun hb=>?_) (fun hb=>?_)
    ·have hb:(cAt xs (o.getD i 0)).fin≠-1∧(cAt xs (o.getD i 0)).fin<latK xs o i:=by simpa using hb
     have e1:chkE xs o=122:=chkE_tim hm ho (pB_f.2 fun ht=>by
      rw [inT_iff] at ht
      rcases latK_ex (xs:=xs) (o:=o) (k:=i) with e | ⟨a,h1,h2⟩
      ·have:=hfp;omega
      ·have:=ht a i h1 hlt
       simp only [aheadB] at this
       rw [if_pos (by simpa using hb.1)] at this
       simp only [decide_eq_false_iff_not] at this
       omega)
     rw [e1,chkM_0 (by rw [e1];decide)]
     exact retB5 _ _ _ _ _ rdN_nil rdN_nil rdN_nil rdN_nil rdN_nil (lkT_ok _ _ _ _ _ 122)
    ·have hf:=fit_app ((lineO xs (o.take i)).length+1) (by rw [hll];omega)
     have hml:(lineO xs (o.take i)).length+1≤maxLen:=by rw [hll];simp only [maxLen];omega
     refine And.intro ⟨hon.1,hon.2.1⟩ (And.intro (by omega) (And.intro (by omega) (And.intro ⟨hon.1,hon.2.1⟩ (And.intro (by omega) (And.intro (by decide) (And.intro ⟨Nat.le_refl _,hf,hml⟩ ?_))))))
     clear hf hml
     rw [wr_succ (by omega)]
     have hlat:latK xs o (i+1)=if (cAt xs (o.getD i 0)).beg>latK xs o i then (cAt xs (o.getD i 0)).beg else latK xs o i:=rfl
     refine backI ⟨i+1,by omega,fun a b hab hbi=>?_⟩ (by simp only;omega) (le_ren (fun i=>if i=3 then 6 else i) rfl rfl (by simp [TmpsLe,look,SV.ren,SC.ren,SC.renL,idσ,SV.okN,SC.okN,hlat,hls,cAt]) ⟨⟨of_decide_eq_true rfl,by simp [BlkLeO,BlkLe,atN,look,Fm.get,idσ,nil5,SC.renL,SC.ren,SC.okL,SC.okN]⟩,⟨of_decide_eq_true rfl,arLe_of (by simp [hls]) (ats_push hls rfl (fun e he=>rfl) rfl)⟩,trivial⟩ (by simp [ArrsLe,ArrLeO,atN,look,Fm.get,idσ,arrLe_of,arrLe_0]) rfl)
     by_cases e:b=i
     ·subst e
      simp only [aheadB]
      split
      ·next hne =>
       rw [if_pos (by simpa using hne),decide_eq_false_iff_not] at hb
       have:=latK_ge (xs:=xs) (o:=o) hab
       simp only [decide_eq_false_iff_not]
       omega
      ·rfl
     ·exact hgi a b hab (by omega)
   ·rw [decide_eq_false_iff_not] at hge
    have hin:i=o.length:=by omega
    subst hin
    rw [List.take_length]
    have ht:=pB_t.2 (inT_iff.2 hgi)
    have hops:∀ k,k<(lineO xs o).length→objOf ((lineO xs o).getD k cl0).op≠0:=fun k hk=>by
     rw [line_len] at hk
     rw [line_at hk]
     have:=(hO.ok _ (getD_mem (d:=0) hk)).2.2
     simpa [cntB] using this
    have hpl:∀ {E:Env} {S:St} {a:Act} {w' : World} {C:Ctx},Sat C.B C.W C.w0 E S a w'→look S.own 3=some (.one (.ar (lineO xs o).length 9 (ats Cl.enc (lineO xs o) cl0) 53)) →
     Calls Try.prog 71 #[.agg #[.slice none 0 0,.slice none 0 0,.slice none 0 0,.slice none 0 0,.slice none 0 0],(SC.sl (3,0,0) 9 0 (lineO xs o).length none).den E] w' (RetB w' (fun _=>True) 5 (plT (playM mc0 0 (lineO xs o))) (mcR (playM mc0 0 (lineO xs o)).1)):=fun {E S a w' C} hs h5 =>
     play_Z (w:=w') (N:=xs.length) (cont_0 w') (by simp [MC.upto,mc0]) (by omega) mc0_may (own_at (d:=cl0) hs 3 (lineO xs o).length h5 rfl) (by rw [line_len];exact hl) hops
    have e1:=chkE_pl hm ho ht
    have e2:=chkM_pl hm ho ht
    have hsg:=playM_sgn (lineO xs o) mc0 0
    rw [e1,e2]
    generalize playM mc0 0 (lineO xs o)=p at hpl hsg ⊢
    obtain ⟨m',q⟩:=p
    simp only at hsg
    refine callL 5 (plT (m',q)) (mcR m') (mcR_sz m') (fun E a w' hs=>by
     have:=hpl hs rfl
     show Calls Try.prog _ _ _ _
     simpa [SV.den,SC.den] using this) ?_
    simp (maxSteps:=2000000) only [go_sem,↓reduceIte,Nat.reduceLT,Nat.reduceLeDiff,Nat.reduceAdd,Nat.reduceSub,Nat.reduceMul,Nat.reduceEqDiff,reduceCtorEq,Int.reduceToNat,Int.reduceEq,Int.reduceBEq,Int.reduceBNe,Int.reduceLT,Int.reduceLE,Int.reduceNeg,Int.reduceAdd,Int.reduceSub,Int.reduceMul,Int.reduceGE,Int.reduceGT,Cl.enc,iv,endO,plT,mcS,low_mcR,mcA,mkC_B]
    by_cases hq:q = -1
    ·subst hq
     refine both (fun hb=>?_) (fun hb=>?_)
     ·simp at hb
     simp only [plM,if_true]
     exact retB5 _ _ _ _ _ (rdN_lo 4 rfl (Nat.le_refl _)) (rdN_lo 5 rfl (Nat.le_refl _)) (rdN_lo 6 rfl (Nat.le_refl _)) (rdN_lo 7 rfl (Nat.le_refl _)) (rdN_lo 8 rfl (Nat.le_refl _)) (lkT_ok _ _ _ _ _ 0)
    ·refine both (fun hb=>?_) (fun hb=>?_)
     ·simp only [plM,if_neg hq]
      exact retB5 _ _ _ _ _ rdN_nil rdN_nil rdN_nil rdN_nil rdN_nil (lkT_ok _ _ _ _ _ 123)
     ·simp at hb
      omega
def E3 (v0 v1 v2:Value):Env:=⟨fun _=>0,fun _=>0,fun _=>false,fun x=>if x.1=2 then v2 else if x.1=1 then v1 else v0⟩
set_option maxRecDepth 100000 in
set_option maxHeartbeats 400000 in
theorem check_calls (w:World) (v v' : Value) (xs:List Cl) (o:List Int) (hsz:xs.length * 72≤140737488355328) (h:Arr w Cl.enc 9 v xs) (h' : Arr w eI 1 v' o):Calls Try.prog 35 #[v,v'] w (RetV w (.int .i64 (chkE xs o))):=by
 refine enter2 (A:=[]) (c:=ir35) (rs:=rs35) (nt:=nt35) cl0 cl_ok h 0 eI_ok h' [.c (.xv (0,0,0)),.c (.xv (1,0,0))] _ Try.func35 rfl (by kernel_rfl) (by kernel_rfl) rfl (fun E' h0 h1=>by simp [SV.den,SC.den,h0,h1]) (of_decide_eq_true rfl) ?_
 simp (maxSteps:=2000000) only [ir35,nt35,rs35,go_sem,↓reduceIte,Nat.reduceLT,Nat.reduceLeDiff,Nat.reduceAdd,Nat.reduceSub,Nat.reduceMul,Nat.reduceEqDiff,reduceCtorEq,Int.reduceToNat,Int.reduceEq,Int.reduceBEq,Int.reduceBNe,Int.reduceLT,Int.reduceLE,Int.reduceNeg,Int.reduceAdd,Int.reduceSub,Int.reduceMul,Int.reduceGE,Int.reduceGT,Cl.enc,iv,endO]
 refine callB 5 (lkT (chkE xs o)) (mcR (chkM xs o)) (fun E a w' hs=>look_calls w' _ _ xs o hsz (arr_at (d:=cl0) hs 0 rfl) (arr_at (d:=0) hs 1 rfl)) ?_
 simp (maxSteps:=2000000) only [go_sem,↓reduceIte,Nat.reduceLT,Nat.reduceLeDiff,Nat.reduceAdd,Nat.reduceSub,Nat.reduceMul,Nat.reduceEqDiff,reduceCtorEq,Int.reduceToNat,Int.reduceEq,Int.reduceBEq,Int.reduceBNe,Int.reduceLT,Int.reduceLE,Int.reduceNeg,Int.reduceAdd,Int.reduceSub,Int.reduceMul,Int.reduceGE,Int.reduceGT,Cl.enc,iv,endO,lkT,mcS,mcR,mcA]
 exact retV fun E=>by rw [den_c,den_v]
end Go.Proofs.Ytkjeedlkkpgopaa.Z
namespace Go.Proofs.Ytkjeedlkkpgopaa.Z
open Go Go.RowKit
def L3:List Cl:=[⟨0,30,1,0,0,9,8,1,0⟩,⟨1,31,0,0,1,3,2,3,0⟩,⟨1,31,0,0,10,14,12,2,1⟩]
theorem l3_lt {P:Nat→Prop} (h0:P 0) (h1:P 1) (h2:P 2):∀ k,k<3→P k
 | 0,_=>h0
 | 1,_=>h1
 | 2,_=>h2
theorem l3_may:mayP L3:=by
 refine ⟨⟨?_,?_,?_⟩,?_⟩
 ·exact l3_lt (by decide) (by decide) (by decide)
 ·intro k hk
  have hk:k+1<3:=hk
  match k,hk with
  | 0,_=>decide
  | 1,_=>decide
 ·intro j k hj hk
  have hk:k<3:=hk
  have:(j=0∧k=1)∨(j=0∧k=2)∨(j=1∧k=2):=by omega
  rcases this with ⟨rfl,rfl⟩ | ⟨rfl,rfl⟩ | ⟨rfl,rfl⟩ <;> decide
 ·intro j k hj hk t ht
  have hk:k<3:=hk
  have:(j=0∧k=1)∨(j=0∧k=2)∨(j=1∧k=2):=by omega
  rcases this with ⟨rfl,rfl⟩ | ⟨rfl,rfl⟩ | ⟨rfl,rfl⟩ <;> simp [L3,Cl.moves] <;> omega
theorem l3_nm:nmA L3=[0,1,2]:=by decide
theorem l3_cy:cyA L3=L3:=by decide
theorem l3_ns:nsE L3=0:=by
 unfold nsE
 rw [if_pos (mayQ_iff.2 l3_may),show cidx L3 L3.length=[0,1,2] from l3_nm]
 rfl
theorem l3_all:allY L3=[[1,0,2]]:=by
 unfold allY
 rw [l3_cy]
 decide
theorem l3_find:findE L3=0∧findL L3=[1,0,2]∧cntW L3=1:=by
 unfold findE findL cntW nmL
 rw [if_pos l3_ns,if_pos l3_ns,if_pos l3_ns,l3_all,l3_nm]
 exact ⟨rfl,rfl,rfl⟩
theorem l3_chk:chkE L3 [1,0,2]=0:=by
 have:=(find_chk l3_ns l3_find.1).1
 rwa [l3_find.2.1] at this
theorem l3_no:chkE L3 [0,1,2]=123:=by
 unfold chkE
 have h1:IsO L3 [0,1,2]:=⟨by decide,by decide,fun i hi _ _=>l3_lt (P:=fun i=>(i:Int)∈[0,1,2]) (by decide) (by decide) (by decide) i hi⟩
 have h2:InT L3 [0,1,2]:=by unfold InT;decide
 rw [if_pos (pB_t.2 l3_may),if_pos (pB_t.2 h1),if_pos (pB_t.2 h2),if_neg (by decide)]
end Go.Proofs.Ytkjeedlkkpgopaa.Z
namespace Go.Proofs.Ytkjeedlkkpgopaa.Z
open Go Go.RowKit
def ir30:IR:=(.seq (.ops [⟨(some 0),(.mv (.k (.c (.v (.bool false))))),none⟩]) (.kill [0,1,2,3,4,5,6,7,8,9,10,11] (.seq (.ops [⟨(some 6),(.build [(.v (.int .i64 0)),(.v (.int .i64 0))] [(0,(1,(.k (.c (.v (.int .i64 1))))))]),none⟩,⟨(some 7),(.build [(.v (.int .i64 0)),(.v (.int .i64 0)),(.v (.int .i64 0)),(.v (.int .i64 0)),(.v (.int .i64 0)),(.v (.int .i64 0)),(.v (.int .i64 0)),(.v (.int .i64 0)),(.v (.int .i64 0))] [(0,(1,(.k (.c (.v (.int .i64 0)))))),(1,(1,(.k (.c (.v (.int .i64 30)))))),(2,(1,(.k (.c (.v (.int .i64 1)))))),(4,(1,(.k (.c (.v (.int .i64 0)))))),(5,(1,(.k (.c (.v (.int .i64 9)))))),(6,(1,(.k (.c (.v (.int .i64 8)))))),(7,(2,(.t 6)))]),none⟩,⟨(some 8),(.build [(.v (.int .i64 0)),(.v (.int .i64 0))] [(0,(1,(.k (.c (.v (.int .i64 3))))))]),none⟩,⟨(some 9),(.build [(.v (.int .i64 0)),(.v (.int .i64 0)),(.v (.int .i64 0)),(.v (.int .i64 0)),(.v (.int .i64 0)),(.v (.int .i64 0)),(.v (.int .i64 0)),(.v (.int .i64 0)),(.v (.int .i64 0))] [(0,(1,(.k (.c (.v (.int .i64 1)))))),(1,(1,(.k (.c (.v (.int .i64 31)))))),(4,(1,(.k (.c (.v (.int .i64 1)))))),(5,(1,(.k (.c (.v (.int .i64 3)))))),(6,(1,(.k (.c (.v (.int .i64 2)))))),(7,(2,(.t 8)))]),none⟩,⟨(some 10),(.build [(.v (.int .i64 0)),(.v (.int .i64 0))] [(0,(1,(.k (.c (.v (.int .i64 2)))))),(1,(1,(.k (.c (.v (.int .i64 1))))))]),none⟩,⟨(some 11),(.build [(.v (.int .i64 0)),(.v (.int .i64 0)),(.v (.int .i64 0)),(.v (.int .i64 0)),(.v (.int .i64 0)),(.v (.int .i64 0)),(.v (.int .i64 0)),(.v (.int .i64 0)),(.v (.int .i64 0))] [(0,(1,(.k (.c (.v (.int .i64 1)))))),(1,(1,(.k (.c (.v (.int .i64 31)))))),(4,(1,(.k (.c (.v (.int .i64 10)))))),(5,(1,(.k (.c (.v (.int .i64 14)))))),(6,(1,(.k (.c (.v (.int .i64 12)))))),(7,(2,(.t 10)))]),none⟩,⟨(some 12),(.mkSl 53 3 9 [(.v (.int .i64 0)),(.v (.int .i64 0)),(.v (.int .i64 0)),(.v (.int .i64 0)),(.v (.int .i64 0)),(.v (.int .i64 0)),(.v (.int .i64 0)),(.v (.int .i64 0)),(.v (.int .i64 0)),(.v (.int .i64 0)),(.v (.int .i64 0)),(.v (.int .i64 0)),(.v (.int .i64 0)),(.v (.int .i64 0)),(.v (.int .i64 0)),(.v (.int .i64 0)),(.v (.int .i64 0)),(.v (.int .i64 0)),(.v (.int .i64 0)),(.v (.int .i64 0)),(.v (.int .i64 0)),(.v (.int .i64 0)),(.v (.int .i64 0)),(.v (.int .i64 0)),(.v (.int .i64 0)),(.v (.int .i64 0)),(.v (.int .i64 0))] [(0,(9,(.t 7))),(9,(9,(.t 9))),(18,(9,(.t 11)))]),none⟩,⟨(some 1),(.mv (.t 12)),none⟩]) (.kill [6,7,8,9,10,11,12] (.seq (.ops [⟨(some 14),(.mv (.t 1)),none⟩,⟨(some 15),(.call 26 [(.t 14)]),none⟩,⟨(some 13),(.mv (.t 15)),none⟩,⟨(some 16),(.ext 0 (.t 13)),none⟩,⟨(some 17),(.ext 1 (.t 13)),none⟩,⟨(some 2),(.mv (.t 16)),none⟩,⟨(some 3),(.mv (.t 17)),none⟩]) (.kill [13,14,15,16,17] (.seq (.ops [⟨(some 19),(.mv (.t 1)),none⟩,⟨(some 20),(.call 28 [(.t 19)]),none⟩,⟨(some 18),(.mv (.t 20)),none⟩,⟨(some 21),(.ext 0 (.t 18)),none⟩,⟨(some 22),(.ext 1 (.t 18)),none⟩,⟨(some 4),(.mv (.t 21)),none⟩,⟨(some 5),(.mv (.t 22)),none⟩]) (.kill [18,19,20,21,22] (.seq (.ops [⟨(some 23),(.mv (.t 3)),none⟩,⟨(some 24),(.call 21 [(.t 23)]),none⟩,⟨(some 25),(.bin .eql (.t 24) (.k (.c (.v (.int .i64 0))))),none⟩,⟨(some 26),(.mv (.t 25)),none⟩,⟨(some 27),(.mv (.t 5)),(some (26,true))⟩,⟨(some 28),(.call 21 [(.t 27)]),(some (26,true))⟩,⟨(some 29),(.bin .eql (.t 28) (.k (.c (.v (.int .i64 0))))),(some (26,true))⟩,⟨(some 30),(.pick (.t 26) (.t 29) (.k (.c (.v (.bool false))))),none⟩,⟨(some 31),(.mv (.t 30)),none⟩,⟨(some 32),(.mv (.t 4)),(some (31,true))⟩,⟨(some 33),(.bin .eql (.t 32) (.k (.c (.v (.int .i64 1))))),(some (31,true))⟩,⟨(some 34),(.pick (.t 31) (.t 33) (.k (.c (.v (.bool false))))),none⟩,⟨(some 35),(.mv (.t 34)),none⟩,⟨(some 36),(.mv (.t 2)),(some (35,true))⟩,⟨(some 37),(.mkSl 3 3 1 [(.v (.int .i64 0)),(.v (.int .i64 0)),(.v (.int .i64 0))] [(0,(1,(.k (.c (.v (.int .i64 1)))))),(1,(1,(.k (.c (.v (.int .i64 0)))))),(2,(1,(.k (.c (.v (.int .i64 2))))))]),(some (35,true))⟩,⟨(some 38),(.call 23 [(.t 36),(.t 37)]),(some (35,true))⟩,⟨(some 39),(.pick (.t 35) (.t 38) (.k (.c (.v (.bool false))))),none⟩,⟨(some 40),(.mv (.t 39)),none⟩,⟨(some 41),(.mv (.t 1)),(some (40,true))⟩,⟨(some 42),(.mkSl 3 3 1 [(.v (.int .i64 0)),(.v (.int .i64 0)),(.v (.int .i64 0))] [(0,(1,(.k (.c (.v (.int .i64 0)))))),(1,(1,(.k (.c (.v (.int .i64 1)))))),(2,(1,(.k (.c (.v (.int .i64 2))))))]),(some (40,true))⟩,⟨(some 43),(.call 35 [(.t 41),(.t 42)]),(some (40,true))⟩,⟨(some 44),(.call 21 [(.t 43)]),(some (40,true))⟩,⟨(some 45),(.bin .eql (.t 44) (.k (.c (.v (.int .i64 123))))),(some (40,true))⟩,⟨(some 46),(.pick (.t 40) (.t 45) (.k (.c (.v (.bool false))))),none⟩,⟨(some 47),(.mv (.t 46)),none⟩,⟨(some 48),(.mv (.t 1)),(some (47,true))⟩,⟨(some 49),(.mv (.t 2)),(some (47,true))⟩,⟨(some 50),(.call 35 [(.t 48),(.t 49)]),(some (47,true))⟩,⟨(some 51),(.call 21 [(.t 50)]),(some (47,true))⟩,⟨(some 52),(.bin .eql (.t 51) (.k (.c (.v (.int .i64 0))))),(some (47,true))⟩,⟨(some 53),(.pick (.t 47) (.t 52) (.k (.c (.v (.bool false))))),none⟩,⟨(some 0),(.mv (.t 53)),none⟩]) (.kill [1,2,3,4,5,23,24,25,26,27,28,29,30,31,32,33,34,35,36,37,38,39,40,41,42,43,44,45,46,47,48,49,50,51,52,53] .ret))))))))))
def rs30:List RS:=[(.t 0)]
def nt30:Nat:=54
set_option maxRecDepth 100000 in
set_option maxHeartbeats 400000 in
theorem awake_calls (w:World):Calls Try.prog 30 #[] w (RetV w (.bool true)):=by
 refine enter0 (A:=[]) (c:=ir30) (rs:=rs30) (nt:=nt30) [] _ Try.func30 rfl (by kernel_rfl) (by kernel_rfl) rfl (fun E'=>rfl) (of_decide_eq_true rfl) ?_
 simp (maxSteps:=2000000) only [ir30,nt30,rs30,go_sem,↓reduceIte,Nat.reduceLT,Nat.reduceLeDiff,Nat.reduceAdd,Nat.reduceSub,Nat.reduceMul,Nat.reduceEqDiff,reduceCtorEq,Int.reduceToNat,Int.reduceEq,Int.reduceBEq,Int.reduceBNe,Int.reduceLT,Int.reduceLE,Int.reduceNeg,Int.reduceAdd,Int.reduceSub,Int.reduceMul,Int.reduceGE,Int.reduceGT,Cl.enc,iv,endO]
 have hL:∀ {C:Ctx} {E:Env} {S:St} {a:Act} {w' : World},Sat C.B C.W C.w0 E S a w'→look S.own 0=some (.one (.ar 3 9 (segs 9 (Cl.sc ⟨0,30,1,0,0,9,8,1,0⟩++Cl.sc ⟨1,31,0,0,1,3,2,3,0⟩++Cl.sc ⟨1,31,0,0,10,14,12,2,1⟩)) 53))→Arr w' Cl.enc 9 ((SC.sl (0,0,0) 9 0 3 none).den E) L3:=fun hs h0 =>
  arr_own (d:=cl0) hs 0 3 3 _ h0 rfl (Nat.le_refl _) (l3_lt rfl rfl rfl)
 obtain ⟨f1,f2,f3⟩:=l3_find
 refine And.intro (by decide) ?_
 refine callN 1 (leT 1 (findL L3).length (findE L3)) (lsO 3 1 eI (findL L3) 0) (fun E a w' hs=>find_calls w' _ L3 (by decide) (hL hs rfl)) ?_
 rw [f1,f2]
 simp (maxSteps:=2000000) only [go_sem,↓reduceIte,Nat.reduceLT,Nat.reduceLeDiff,Nat.reduceAdd,Nat.reduceSub,Nat.reduceMul,Nat.reduceEqDiff,reduceCtorEq,Int.reduceToNat,Int.reduceEq,Int.reduceBEq,Int.reduceBNe,Int.reduceLT,Int.reduceLE,Int.reduceNeg,Int.reduceAdd,Int.reduceSub,Int.reduceMul,Int.reduceGE,Int.reduceGT,Cl.enc,iv,endO,leT,lsO]
 refine callV (.tup [(false,[.v (.int .i64 1)]),(false,[.v (.int .i64 0)])]) (.tuple #[.int .i64 1,.int .i64 0]) (fun E=>rfl) (fun E a w' hs=>by
  have:=countW_calls w' _ L3 (by decide) (hL hs rfl)
  rw [f3,l3_ns] at this
  exact this) ?_
 simp (maxSteps:=2000000) only [go_sem,↓reduceIte,Nat.reduceLT,Nat.reduceLeDiff,Nat.reduceAdd,Nat.reduceSub,Nat.reduceMul,Nat.reduceEqDiff,reduceCtorEq,Int.reduceToNat,Int.reduceEq,Int.reduceBEq,Int.reduceBNe,Int.reduceLT,Int.reduceLE,Int.reduceNeg,Int.reduceAdd,Int.reduceSub,Int.reduceMul,Int.reduceGE,Int.reduceGT,Cl.enc,iv,endO]
 refine callV (.c (.v (.int .i64 0))) _ (fun E=>rfl) (fun E a w' hs=>num_calls w' _) ?_
 simp (maxSteps:=2000000) only [go_sem,↓reduceIte,Nat.reduceLT,Nat.reduceLeDiff,Nat.reduceAdd,Nat.reduceSub,Nat.reduceMul,Nat.reduceEqDiff,reduceCtorEq,Int.reduceToNat,Int.reduceEq,Int.reduceBEq,Int.reduceBNe,Int.reduceLT,Int.reduceLE,Int.reduceNeg,Int.reduceAdd,Int.reduceSub,Int.reduceMul,Int.reduceGE,Int.reduceGT,Cl.enc,iv,endO]
 refine guardW (.c (.v (.int .i64 0))) _ (fun E=>rfl) (fun E a w' hs=>num_calls w' _) ?_
 simp (maxSteps:=2000000) only [go_sem,↓reduceIte,Nat.reduceLT,Nat.reduceLeDiff,Nat.reduceAdd,Nat.reduceSub,Nat.reduceMul,Nat.reduceEqDiff,reduceCtorEq,Int.reduceToNat,Int.reduceEq,Int.reduceBEq,Int.reduceBNe,Int.reduceLT,Int.reduceLE,Int.reduceNeg,Int.reduceAdd,Int.reduceSub,Int.reduceMul,Int.reduceGE,Int.reduceGT,Cl.enc,iv,endO]
 simp (maxSteps:=2000000) only [forkS,go_sem,↓reduceIte,Nat.reduceLT,Nat.reduceLeDiff,Nat.reduceAdd,Nat.reduceSub,Nat.reduceMul,Nat.reduceEqDiff,reduceCtorEq,Int.reduceToNat,Int.reduceEq,Int.reduceBEq,Int.reduceBNe,Int.reduceLT,Int.reduceLE,Int.reduceNeg,Int.reduceAdd,Int.reduceSub,Int.reduceMul,Int.reduceGE,Int.reduceGT,Cl.enc,iv,endO]
 refine And.intro (by decide) ?_
 refine callV (.c (.v (.bool true))) (.bool true) (fun E=>rfl) (fun E a w' hs=>same_calls w' _ _ [1,0,2] [1,0,2] (own_at (d:=0) hs 1 3 rfl rfl) (arr_own (d:=0) hs 2 3 3 _ rfl rfl (Nat.le_refl _) (l3_lt rfl rfl rfl))) ?_
 simp (maxSteps:=2000000) only [forkS,go_sem,↓reduceIte,Nat.reduceLT,Nat.reduceLeDiff,Nat.reduceAdd,Nat.reduceSub,Nat.reduceMul,Nat.reduceEqDiff,reduceCtorEq,Int.reduceToNat,Int.reduceEq,Int.reduceBEq,Int.reduceBNe,Int.reduceLT,Int.reduceLE,Int.reduceNeg,Int.reduceAdd,Int.reduceSub,Int.reduceMul,Int.reduceGE,Int.reduceGT,Cl.enc,iv,endO]
 refine And.intro (by decide) ?_
 refine callV (.c (.v (.int .i64 123))) (.int .i64 123) (fun E=>rfl) (fun E a w' hs=>by
  have:=check_calls w' _ _ L3 [0,1,2] (by decide) (hL hs rfl) (arr_own (d:=0) hs 3 3 3 _ rfl rfl (Nat.le_refl _) (l3_lt rfl rfl rfl))
  rw [l3_no] at this
  exact this) ?_
 simp (maxSteps:=2000000) only [forkS,go_sem,↓reduceIte,Nat.reduceLT,Nat.reduceLeDiff,Nat.reduceAdd,Nat.reduceSub,Nat.reduceMul,Nat.reduceEqDiff,reduceCtorEq,Int.reduceToNat,Int.reduceEq,Int.reduceBEq,Int.reduceBNe,Int.reduceLT,Int.reduceLE,Int.reduceNeg,Int.reduceAdd,Int.reduceSub,Int.reduceMul,Int.reduceGE,Int.reduceGT,Cl.enc,iv,endO]
 refine callV (.c (.v (.int .i64 123))) _ (fun E=>rfl) (fun E a w' hs=>num_calls w' _) ?_
 simp (maxSteps:=2000000) only [forkS,go_sem,↓reduceIte,Nat.reduceLT,Nat.reduceLeDiff,Nat.reduceAdd,Nat.reduceSub,Nat.reduceMul,Nat.reduceEqDiff,reduceCtorEq,Int.reduceToNat,Int.reduceEq,Int.reduceBEq,Int.reduceBNe,Int.reduceLT,Int.reduceLE,Int.reduceNeg,Int.reduceAdd,Int.reduceSub,Int.reduceMul,Int.reduceGE,Int.reduceGT,Cl.enc,iv,endO]
 refine guardW (.c (.v (.int .i64 0))) (.int .i64 0) (fun E=>rfl) (fun E a w' hs=>by
  have:=check_calls w' _ _ L3 [1,0,2] (by decide) (hL hs rfl) (own_at (d:=0) hs 1 3 rfl rfl)
  rw [l3_chk] at this
  exact this) ?_
 simp (maxSteps:=2000000) only [forkS,go_sem,↓reduceIte,Nat.reduceLT,Nat.reduceLeDiff,Nat.reduceAdd,Nat.reduceSub,Nat.reduceMul,Nat.reduceEqDiff,reduceCtorEq,Int.reduceToNat,Int.reduceEq,Int.reduceBEq,Int.reduceBNe,Int.reduceLT,Int.reduceLE,Int.reduceNeg,Int.reduceAdd,Int.reduceSub,Int.reduceMul,Int.reduceGE,Int.reduceGT,Cl.enc,iv,endO]
 refine guardW (.c (.v (.int .i64 0))) _ (fun E=>rfl) (fun E a w' hs=>num_calls w' _) ?_
 simp (maxSteps:=2000000) only [forkS,go_sem,↓reduceIte,Nat.reduceLT,Nat.reduceLeDiff,Nat.reduceAdd,Nat.reduceSub,Nat.reduceMul,Nat.reduceEqDiff,reduceCtorEq,Int.reduceToNat,Int.reduceEq,Int.reduceBEq,Int.reduceBNe,Int.reduceLT,Int.reduceLE,Int.reduceNeg,Int.reduceAdd,Int.reduceSub,Int.reduceMul,Int.reduceGE,Int.reduceGT,Cl.enc,iv,endO]
 exact retV fun E=>by simp [SV.den,SC.den]
end Go.Proofs.Ytkjeedlkkpgopaa.Z
namespace Go.Proofs.Ytkjeedlkkpgopaa.Z
open Go Go.RowKit
section
variable {P:Program} {T:TT} {B:Nat} {W:Nat→Prop} {w0:World} {E:Env} {S:St} {a:Act} {w w1:World}
theorem fits_put {b b' : Blk} {y:Nm} {p:Prop} (hy:pkN S.own y=some (p,b)) (hp:p) (h0:w1.os=w.os∧w1.tape=w.tape∧w1.output=w.output) (hsz:w.heap.size≤w1.heap.size)
  (h:∀ H,HeapOk B W E S.own H w→∃ h',b'.den E y h'∧(∀ n,n<w.heap.size→H y n=none→w1.heap[n]? = w.heap[n]?)∧∀ n o,h' n=some o→w1.heap[n]? = some o∧(w.heap.size≤n∨H y n≠none)):Fits B W E S w w1 (setN S.own y b') []:=by
 refine ⟨fun H hH=>?_,fun _ _ x A h=>by simp [atN,look] at h⟩
 have hat:=pkN_at hy hp
 obtain ⟨h',hb,hk,hs⟩:=h H hH
 have hother:∀ x c,x≠y→atN S.own x=some c→∀ n o,H x n=some o→w1.heap[n]? = some o∧H y n=none∧n<w.heap.size:=by
  intro x c hne hx n o hn
  have h1:=(hH.sub x c hx n o hn).1
  have hlt:=hH.lt hx hn
  have hyn:H y n=none:=by
   rcases hH.disj y x b c hat hx (Ne.symm hne) n with h | h
   ·exact h
   ·rw [h] at hn;cases hn
  exact ⟨by rw [hk n hlt hyn];exact h1,hyn,hlt⟩
 have hget:∀ x c,atN (setN S.own y b') x=some c→(x=y∧c=b')∨(x≠y∧x.1=y.1∧atN S.own x=some c):=by
  intro x c hc
  rw [atN_setN hy hp] at hc
  split at hc
  ·next e1 =>
   split at hc
   ·next e2=>cases hc;exact Or.inl ⟨e2,rfl⟩
   ·next e2=>exact Or.inr ⟨e2,e1,hc⟩
  ·cases hc
 have key:∀ z d,z≠y→atN S.own z=some d→∀ n,h' n=none∨H z n=none:=by
  intro z d hz hd n
  cases e1:h' n with
  | none=>exact Or.inl rfl
  | some o =>
   right
   cases e2:H z n with
   | none=>rfl
   | some o' =>
    obtain ⟨_,h3,h4⟩:=hother z d hz hd n o' e2
    rcases (hs n o e1).2 with h5 | h5
    ·omega
    ·exact absurd h3 h5
 refine ⟨h0.1,h0.2.1,h0.2.2,hsz,fun n hn h=>hk n hn (h y b ((setN_look hy b' y.1).2 rfl) hat),fun x=>if x=y then h' else H x,?_,?_,?_⟩
 ·intro x c hc
  rcases hget x c hc with ⟨rfl,rfl⟩ | ⟨e1,e2,h⟩
  ·simpa using hb
  ·simp only [e1,if_false];exact hH.den x c h
 ·intro x z c d hc hd hne n
  rcases hget x c hc with ⟨rfl,rfl⟩ | ⟨e1,e2,h⟩
  ·rcases hget z d hd with ⟨rfl,rfl⟩ | ⟨f1,f2,h2⟩
   ·exact absurd rfl hne
   ·simp only [f1,if_true,if_false];exact key z d f1 h2 n
  ·rcases hget z d hd with ⟨rfl,rfl⟩ | ⟨f1,f2,h2⟩
   ·simp only [e1,if_true,if_false];exact (key x c e1 ‹_› n).symm
   ·simp only [e1,f1,if_false];exact hH.disj x z c d h h2 hne n
 ·intro x c hc n o hn
  rcases hget x c hc with ⟨rfl,rfl⟩ | ⟨e1,e2,h⟩
  ·simp only [if_true] at hn
   obtain ⟨g1,g2⟩:=hs n o hn
   exact ⟨g1,g2.imp id fun h=>⟨x,b,(setN_look hy c x.1).2 rfl,hat,h⟩⟩
  ·simp only [e1,if_false] at hn
   obtain ⟨g1,g2,g3⟩:=hother x c e1 h n o hn
   exact ⟨g1,Or.inr ⟨x,c,(setN_look hy b' x.1).2 e2,h,by rw [hn];simp⟩⟩
def KeepP (y z:Nm) (k s:Nat) (f:Nat→List SC) (t L:Nat) (E:Env) (h:PH):Prop :=
  k≤L ∧
  ((∃ F:Nat→List SC,(∀ e,e<k→F e=f e)∧E.χ z=(SC.sl y s 0 L none).den E∧(Blk.ar L s F t).den E y h) ∨
   (∃ (b cap:Nat) (cells:Array Value) (t' : Nat) (h1:PH) (F:Nat→List SC),E.χ z = .slice (some ⟨b,0,none⟩) L cap∧(Blk.ar k s f t).den E y h1∧h1 b=none∧L≤cap∧cap≤maxLen∧cells.size=cap * s∧ArCells E L s F cells∧h=fun n=>if n=b then some (.cells cells t' (0,0)) else h1 n))
theorem ar_weak {y:Nm} {L k s t:Nat} {F f:Nat→List SC} {h:PH} (hd:(Blk.ar L s F t).den E y h) (hk:k≤L) (hf:∀ e,e<k→F e=f e):(Blk.ar k s f t).den E y h:=by
 simp only [Blk.den] at hd ⊢
 rcases hd with ⟨_,h1,h2,h3⟩ | ⟨h1,h2,h3,cells,h4,h5,h6⟩
 ·exact Or.inl ⟨trivial,h1,by omega,h3⟩
 ·refine Or.inr ⟨h1,⟨by omega,h2.2⟩,h3,cells,h4,h5,fun e he=>?_⟩
  rw [← hf e he]
  exact h6 e (by omega)
theorem room_cells {n m k s:Nat} {f g:Nat→List SC} {cells:Array Value} {xv:Value} (g2:cells.size=k * s) (hroom:n+m≤k) (g3:ArCells E n s f cells) (rd:RdAt E w xv s m g) :
  (cells.toList.take (n * s)++cellsOf E m g++cells.toList.drop (n * s+(cellsOf E m g).length)).toArray.size=k * s ∧
  ArCells E (n+m) s (appAt n f g) (cells.toList.take (n * s)++cellsOf E m g++cells.toList.drop (n * s+(cellsOf E m g).length)).toArray:=by
 have hlen:(cellsOf E m g).length=m * s:=cellsOf_len rd.lens
 have hle:(n+m) * s≤k * s:=Nat.mul_le_mul_right _ hroom
 rw [Nat.add_mul] at hle
 refine ⟨?_,?_⟩
 ·simp only [List.size_toArray,List.length_append,List.length_take,List.length_drop,Array.length_toList,hlen]
  omega
 ·have hfl:∀ e,e<n→(f e).length=s:=fun e he=>(g3 e (by omega)).1
  have hcl:=cellsOf_len (E:=E) hfl
  refine arCells_of (appAt_len hfl rd.lens) (fun r hr j c hc=>?_) (fun r c hc=>?_)
  ·unfold appAt at hc
   split at hc
   ·next h=>exact ((g3 r (by omega)).2 j c hc).2
   ·exact rd.one _ (by omega) j c hc
  ·rw [cellsOf_app] at hc
   have hlt:=(List.getElem?_eq_some_iff.1 hc).1
   rw [List.length_append,hcl,hlen] at hlt
   simp only [List.getElem?_toArray]
   rw [List.getElem?_append_left (by simp only [List.length_append,List.length_take,Array.length_toList,hlen];omega)]
   by_cases hr:r<n * s
   ·rw [List.getElem?_append_left (by rw [hcl];exact hr)] at hc
    obtain ⟨e1,j,c1,he1,hj,rfl,hc1,rfl⟩:=cellsOf_inv hfl hc
    rw [List.getElem?_append_left (by simp only [List.length_take,Array.length_toList];omega),List.getElem?_take,if_pos hr,Array.getElem?_toList]
    exact ((g3 e1 (by omega)).2 j c1 hc1).1
   ·rw [List.getElem?_append_right (by rw [hcl];omega),hcl] at hc
    rw [List.getElem?_append_right (by simp only [List.length_take,Array.length_toList];omega)]
    simp only [List.length_take,Array.length_toList]
    rw [Nat.min_eq_left (by omega)]
    exact hc
theorem rd_cells {b n s t cap:Nat} {f:Nat→List SC} {cells:Array Value} (hb:w.heap[b]? = some (.cells cells t (0,0))) (hc:ArCells E n s f cells):RdAt E w (.slice (some ⟨b,0,none⟩) n cap) s n f:=by
 refine ⟨_,_,rfl,Or.inr ⟨b,0,rfl,fun e he=>⟨(hc e he).1,fun j u hu=>?_⟩⟩⟩
 rw [Nat.zero_add,cell_of_row w _ _ _ _ (0,0) hb]
 exact (hc e he).2 j u hu
theorem keep_run {t u ty e e' : Nat} {i:TypeInfo} {zv xv:Value} {y z:Nm} {k L m ty0:Nat} {f g:Nat→List SC} {own:Own} {H:Nm→PH} {z' : Nm} (hut:P.underlying t=some (.slice e)) (huu:P.underlying u=some (.slice e')) (hi:P.info? e=some i) (hz:i.zero=some zv) (hzc:zv.cells.size=i.size)
  (hH:HeapOk B W E own H w) (hat:atN own y=some (.pr (KeepP y z k i.size f ty0 L))) (rd:RdAt E w xv i.size m g) (hm:0<m) (hb:(L+m+(L+m) / 4+192) * i.bytes≤281474976710656) (hml:L+m≤maxLen) :
  ∃ v2 w2,(Builtin.append_ #[t,u] ty #[E.χ z,xv]).run P w = .ok v2 w2∧v2.oneCell' = true∧(w2.os=w.os∧w2.tape=w.tape∧w2.output=w.output)∧w.heap.size≤w2.heap.size ∧
   (E.χ z' = v2→∃ h',KeepP y z' k i.size f ty0 (L+m) E h'∧(∀ n,n<w.heap.size→H y n=none→w2.heap[n]? = w.heap[n]?)∧∀ n o,h' n=some o→w2.heap[n]? = some o∧(w.heap.size≤n∨H y n≠none)):=by
 have hden:=hH.den _ _ hat
 simp only [Blk.den] at hden
 obtain ⟨hkL,hden⟩:=hden
 have hsub:=hH.sub _ _ hat
 have hlt:∀ n o,H y n=some o→n<w.heap.size:=fun n o hn=>hH.lt hat hn
 have hnew:H y w.heap.size=none:=by
  cases hq:H y w.heap.size with
  | none=>rfl
  | some o=>exact absurd (hlt _ o hq) (Nat.lt_irrefl _)
 -- a new block
 have grow:∀ (cap:Nat) (ba:Option Addr) (F:Nat→List SC),E.χ z = .slice ba L cap→RdAt E w (.slice ba L cap) i.size L F→cap<L+m→(∃ h1:PH,(Blk.ar k i.size f ty0).den E y h1∧∀ n o,h1 n=some o→H y n=some o) →
   ∃ v2 w2,(Builtin.append_ #[t,u] ty #[E.χ z,xv]).run P w = .ok v2 w2∧v2.oneCell' = true∧(w2.os=w.os∧w2.tape=w.tape∧w2.output=w.output)∧w.heap.size≤w2.heap.size ∧
   (E.χ z' = v2→∃ h',KeepP y z' k i.size f ty0 (L+m) E h'∧(∀ n,n<w.heap.size→H y n=none→w2.heap[n]? = w.heap[n]?)∧∀ n o,h' n=some o→w2.heap[n]? = some o∧(w.heap.size≤n∨H y n≠none)):=by
  rintro cap ba F hχ hr hroom ⟨h1,hd1,hs1⟩
  obtain ⟨cells,hrun,hcs,hat2⟩:=app_grow (E:=E) (w:=w) (ty:=ty) (u:=u) hut huu hi hz hr rd (by omega) (Or.inl hb) hml
  rw [← hχ] at hrun
  have hge:=grownCap_ge w (L+m) cap e
  have hcm:=grownCap_le_maxLen w (L+m) cap e (by omega)
  have hh:∀ n,n<w.heap.size→(w.drew.alloc (.cells cells e)).heap[n]? = w.heap[n]?:=fun n hn=>Below.heap_alloc w.drew _ _ hn
  have hl1:∀ n o,h1 n=some o→n<w.heap.size:=fun n o hn=>hlt n o (hs1 n o hn)
  refine ⟨_,_,hrun,rfl,⟨rfl,rfl,rfl⟩,by simp,fun hz'=>⟨fun n=>if n=w.heap.size then some (.cells cells e (0,0)) else h1 n,⟨by omega,Or.inr ⟨w.heap.size,_,cells,e,h1,appAt L F g,hz',hd1,?_,hge,hcm,hcs hzc,hat2,rfl⟩⟩,fun n hn _=>hh n hn,fun n o hn=>?_⟩⟩
  ·cases hq:h1 w.heap.size with
   | none=>rfl
   | some o=>exact absurd (hl1 _ o hq) (Nat.lt_irrefl _)
  ·simp only at hn
   split at hn
   ·next e1 =>
    subst e1
    cases hn
    exact ⟨heap_alloc_new w.drew _,Or.inl (Nat.le_refl _)⟩
   ·have h2:=hs1 n o hn
    refine ⟨?_,Or.inr (by rw [h2];simp)⟩
    rw [hh n (hlt n o h2)]
    exact (hsub n o h2).1
 rcases hden with ⟨F,hF,hχ,hd⟩ | ⟨b,cap,cells,t',h1,F,hχ,hd,hb1,hLc,hcm,hsz,hcells,hh⟩
 ·have hw:(Blk.ar k i.size f ty0).den E y (H y):=ar_weak hd hkL hF
  rw [den_sl] at hχ
  simp only [Nat.zero_mul,Option.getD_none,Nat.sub_zero] at hχ
  simp only [Blk.den] at hd
  rcases hd with ⟨_,g1,g2,g3⟩ | ⟨hν,⟨g1,g1'⟩,g2,cells,g3,g4,g5⟩
  ·refine grow _ _ F hχ ⟨_,_,rfl,Or.inl g2⟩ (by omega) ⟨_,hw,fun _ _ h=>h⟩
  ·have hb0:w.heap[E.ρ y]? = some (.cells cells ty0 (0,0)):=(hsub (E.ρ y) _ (by rw [g3];simp [sing])).1
   rw [hν] at hχ
   simp only [Bool.false_eq_true,if_false] at hχ
   by_cases hroom:L+m≤E.κ y
   ·have hrun:=app_room (E:=E) (ty:=ty) hut huu hi hb0 g4 rd hroom
    obtain ⟨q1,q2⟩:=room_cells g4 hroom g5 rd
    generalize (cells.toList.take (L * i.size)++cellsOf E m g++cells.toList.drop (L * i.size+(cellsOf E m g).length)).toArray=cn at hrun q1 q2
    rw [← hχ] at hrun
    refine ⟨_,_,hrun,rfl,⟨rfl,rfl,rfl⟩,by simp [World.setRow],fun hz'=>⟨sing (E.ρ y) (.cells cn ty0 (0,0)),⟨by omega,Or.inl ⟨appAt L F g,fun e he=>?_,?_,?_⟩⟩,fun n hn hyn=>?_,fun n o hn=>?_⟩⟩
    ·simp only [appAt,if_pos (show e<L by omega)];exact hF e he
    ·rw [hz',den_sl,hν];simp
    ·simp only [Blk.den];exact Or.inr ⟨hν,⟨by omega,g1'⟩,g2,_,rfl,q1,q2⟩
    ·refine setRow_other _ _ _ _ fun e2=>?_
     rw [g3,e2] at hyn
     simp [sing] at hyn
    ·obtain ⟨rfl,rfl⟩:=sing_some hn
     exact ⟨setRow_heap w _ _ _ _ _ hb0,Or.inr (by rw [g3];simp [sing])⟩
   ·exact grow _ _ F hχ (rd_cells hb0 g5) (by omega) ⟨_,hw,fun _ _ h=>h⟩
 ·have hyb:H y b=some (.cells cells t' (0,0)):=by rw [hh];simp
  have hb0:=(hsub b _ hyb).1
  have h1s:∀ n o,h1 n=some o→n≠b∧H y n=some o:=fun n o hn=>by
   have hne:n≠b:=fun e=>by subst e;rw [hb1] at hn;cases hn
   refine ⟨hne,?_⟩
   rw [hh]
   simp only [if_neg hne]
   exact hn
  by_cases hroom:L+m≤cap
  ·have hrun:=app_room (E:=E) (ty:=ty) hut huu hi hb0 hsz rd hroom
   obtain ⟨q1,q2⟩:=room_cells hsz hroom hcells rd
   generalize (cells.toList.take (L * i.size)++cellsOf E m g++cells.toList.drop (L * i.size+(cellsOf E m g).length)).toArray=cn at hrun q1 q2
   rw [← hχ] at hrun
   refine ⟨_,_,hrun,rfl,⟨rfl,rfl,rfl⟩,by simp [World.setRow],fun hz'=>⟨fun n=>if n=b then some (.cells cn t' (0,0)) else h1 n,⟨by omega,Or.inr ⟨b,cap,cn,t',h1,appAt L F g,hz',hd,hb1,hroom,hcm,q1,q2,rfl⟩⟩,fun n hn hyn=>?_,fun n o hn=>?_⟩⟩
   ·refine setRow_other _ _ _ _ fun e2=>?_
    rw [e2,hyb] at hyn
    cases hyn
   ·simp only at hn
    split at hn
    ·next e1 =>
     subst e1
     cases hn
     exact ⟨setRow_heap w _ _ _ _ _ hb0,Or.inr (by rw [hyb];simp)⟩
    ·obtain ⟨p1,p2⟩:=h1s n o hn
     exact ⟨by rw [setRow_other _ _ _ _ p1];exact (hsub n o p2).1,Or.inr (by rw [p2];simp)⟩
  ·exact grow _ _ F hχ (rd_cells hb0 hcells) (by omega) ⟨h1,hd,fun n o hn=>(h1s n o hn).2⟩
theorem compOp_app {op:Op} {t size bytes:Nat} {z0:List SC} {is ix:IX} {iop:IOp} (hc:compOp T op=some iop) (hi:iop = .app t size bytes z0 is ix) :
  ∃ c s x t' u ti tu e' te,op = .call c∧c.callee = .builtin .append∧c.args.toList=[s,x]∧c.argTypes.toList=[t',u]∧look T t' = some ti∧look T u=some tu∧ti.desc = .slice t∧tu.desc = .slice e'∧look T t=some te∧opd s=some is∧opd x=some ix ∧
   size=te.size∧bytes=te.bytes∧z0=scs te.zero.cells:=by
 cases op
 case call c =>
  simp only [compOp] at hc
  split at hc
  case h_5 hcl =>
   split at hc
   ·next s x t' u hxs hts =>
    simp only [Option.bind_eq_some_iff] at hc
    obtain ⟨ti,hti,tu,htu,hc⟩:=hc
    split at hc
    ·next e e' he he' =>
     simp only [Option.bind_eq_some_iff,Option.map_eq_some_iff] at hc
     obtain ⟨te,hte,is',his,ix',hx,hc⟩:=hc
     subst hc
     cases hi
     exact ⟨c,s,x,t',u,ti,tu,e',te,rfl,hcl,hxs,hts,hti,htu,he,he',hte,his,hx,rfl,rfl,rfl⟩
    ·cases hc
   ·cases hc
  all_goals
   exfalso
   try (repeat' (first | (split at hc) | (simp only [Option.bind_eq_some_iff,Option.map_eq_some_iff] at hc) | (obtain ⟨_,_,hc⟩:=hc)))
   all_goals first | (cases hc;done) | (subst hc;cases hi;done) | (simp only [Option.some.injEq] at hc;subst hc;cases hi;done) | (cases hi;done)
 case makeMap t r =>
  exfalso
  cases r with
  | some _=>cases hc
  | none =>
   simp only [compOp,Option.map_eq_some_iff] at hc
   obtain ⟨_,_,rfl⟩:=hc
   cases hi
 all_goals
  exfalso
  simp only [compOp,reduceCtorEq] at hc
  try (repeat' (first | (split at hc) | (simp only [Option.bind_eq_some_iff,Option.map_eq_some_iff] at hc) | (obtain ⟨_,_,hc⟩:=hc)))
  all_goals first | (cases hc;done) | (subst hc;cases hi;done) | (simp only [Option.some.injEq] at hc;subst hc;cases hi;done) | (cases hi;done)
theorem keep_after {o:Oper} {t size bytes:Nat} {z0:List SC} {is ix:IX} {y z:Nm} {k L m ty0:Nat} {f g:Nat→List SC} {xv:SV} {q p:Prop} (hT:TOk P T) (hop:compOp T o.op=some (.app t size bytes z0 is ix)) (hs:Sat B W w0 E S a w)
  (hsv:S.ev is=some (.c (.xv z))) (hxv:S.ev ix=some xv) (hsrc:slSrc S size xv=some (q,m,g)) (hq:q) (hy:pkN S.own y=some (p,.pr (KeepP y z k size f ty0 L))) (hp:p)
  (hm:0<m) (hz0:len' z0=size) (hb:(L+m+(L+m) / 4+192) * bytes≤281474976710656) (hml:L+m≤maxLen) :
  ∃ v w',RunsTo ((execOp a.eval o).run P w) v w'∧After B W w0 E [] S a w (.c (.xv (S.nid,0,0))) 1 (setN S.own y (.pr (KeepP y (S.nid,0,0) k size f ty0 (L+m)))) [] v w':=by
 obtain ⟨c,s,x,t',u,ti,tu,e',te,hcall,hcl,hxs,hts,hti,htu,he,he',hte,hsi,hxi,rfl,rfl,rfl⟩:=compOp_app hop rfl
 obtain ⟨hut,_⟩:=ti_parts hT hti
 obtain ⟨huu,_⟩:=ti_parts hT htu
 obtain ⟨_,i,hi,hz,hsz,hby⟩:=ti_parts hT hte
 rw [he] at hut
 rw [he'] at huu
 have hzl:te.zero.cells.size=i.size:=by rw [len'_eq] at hz0;rw [hsz];simpa [scs] using hz0
 have ea:c.args.map a.eval = #[a.eval s,a.eval x]:=by apply Array.ext';simp [hxs]
 have et:c.argTypes = #[t',u]:=by apply Array.ext';simp [hts]
 have hrun:(execOp a.eval o).run P w=(do pure (Next.value (← Builtin.append_ #[t',u] o.type #[a.eval s,a.eval x])):Sem Next).run P w:=by
  have bi:(do let d ← resolve a.eval c o.type;invoke d.target d.args:Sem Next).run P w=(builtin .append c.argTypes o.type (c.args.map fun | .const _=>true | _=>false) (c.args.map a.eval)).run P w:=by
   simp only [resolve,hcl,Sem.run_bind,Sem.run_pure,Result.andThen_ok,invoke]
   rfl
  unfold execOp
  rw [hcall]
  refine bi.trans ?_
  rw [ea,et]
  rfl
 rw [hrun]
 rw [← hsz] at hsrc hy ⊢
 rw [← hby] at hb
 have key:∀ E2,Sat B W w0 E2 S a w→∀ H,HeapOk B W E2 S.own H w→_:=fun E2 hs2 H hH =>
  keep_run (z':=(S.nid,0,0)) (ty:=o.type) hut huu hi hz hzl hH (pkN_at hy hp) (slSrc_ok hsrc hq hs2) hm hb hml
 have ev:∀ E2,Sat B W w0 E2 S a w→a.eval s=E2.χ z∧a.eval x=xv.den E2:=fun E2 hs2=>⟨by rw [opd_den hs2 hsi hsv,den_c];simp only [SC.den],opd_den hs2 hxi hxv⟩
 obtain ⟨H,hH,_⟩:=hs.mem
 obtain ⟨v,w',h1,h2,h3,h4,_⟩:=key E hs H hH
 rw [← (ev E hs).1,← (ev E hs).2] at h1
 refine det_after ⟨fun _=>0,fun _=>0,fun _=>false,fun _=>v⟩ (fun _=>h2) ⟨v,w',Or.inl (run_val h1)⟩ fun E2 hs2 hag=>⟨w',Or.inl ?_,?_⟩
 ·rw [run_val h1,den_c]
  simp only [SC.den]
  rw [(hag (S.nid,0,0) ⟨Nat.le_refl _,by simp⟩).2.2.2]
 ·refine fits_put hy hp h3 h4 fun H2 hH2=>?_
  obtain ⟨v2,w2,g1,_,_,_,g5⟩:=key E2 hs2 H2 hH2
  rw [← (ev E2 hs2).1,← (ev E2 hs2).2,h1] at g1
  cases g1
  obtain ⟨h',k1,k2,k3⟩:=g5 (hag (S.nid,0,0) ⟨Nat.le_refl _,by simp⟩).2.2.2
  exact ⟨h',by simp only [Blk.den];exact k1,k2,k3⟩
end
section
variable {C:Ctx} {S:St}
theorem keep_app {t size bytes:Nat} {z0:List SC} {is ix:IX} {d:Option Nat} {K:St→Prop} {y z:Nm} {k L m ty0:Nat} {f g:Nat→List SC} {xv:SV} {q p:Prop}
  (hT:TOk C.P C.tab.T) (hsv:S.ev is=some (.c (.xv z))) (hxv:S.ev ix=some xv) (hsrc:slSrc S size xv=some (q,m,g)) (hq:q) (hy:pkN S.own y=some (p,.pr (KeepP y z k size f ty0 L))) (hp:p)
  (hm:0<m) (hz0:len' z0=size) (hb:(L+m+(L+m) / 4+192) * bytes≤281474976710656) (hml:L+m≤maxLen)
  (hK:K ⟨S.nt,S.putT d (.c (.xv (S.nid,0,0))),mergeL (setN S.own y (.pr (KeepP y (S.nid,0,0) k size f ty0 (L+m)))) S.own,S.arrs,S.facts,S.nid+1⟩) :
  OpVC C (.app t size bytes z0 is ix) d S K:=by
 intro o hop hd E a w hs K' Q hKK
 obtain ⟨v,w',hr,haft⟩:=keep_after hT hop hs.sat hsv hxv hsrc hq hy hp hm hz0 hb hml
 obtain ⟨E',h'⟩:=satA_after hs (fun i hi=>by cases hi) haft o.dst
 unfold Oper.wp
 subst hd
 rcases hr with hr | ⟨hr,rfl⟩
 ·rw [hr];exact hKK E' _ _ _ h' hK
 ·rw [hr];exact hKK E' _ _ _ h' hK
theorem act_put_same {a:Act} {t:Nat} {v:Value} (h:t<a.tmps.size) (e:a.tmps.getD t undef=v):a.put (some t) v=a:=by
 have:a.tmps.setIfInBounds t v=a.tmps:=by
  apply Array.ext_getElem?
  intro i
  rw [Array.getElem?_setIfInBounds]
  split
  ·next q =>
   subst q
   rw [← e,Array.getD_eq_getD_getElem?,Array.getElem?_eq_getElem h];rfl
  ·rfl
 show ({ a with tmps:=a.tmps.setIfInBounds t v }:Act)=a
 rw [this]
theorem keep_in {t:Nat} {y:Nm} {n s ty:Nat} {f:Nat→List SC} {p:Prop} (ht:look S.tmps t=some (.c (.sl y s 0 n none))) (hy:pkN S.own y=some (p,.ar n s f ty)) (hp:p) :
  Le C S ⟨S.nt,S.putT (some t) (.c (.xv (S.nid,0,0))),mergeL (setN S.own y (.pr (KeepP y (S.nid,0,0) n s f ty n))) S.own,S.arrs,S.facts,S.nid+1⟩:=by
 intro E a w hs
 obtain ⟨h1,h2⟩:=hs.sat.tmps t _ ht
 have haft:After C.B C.W C.w0 E [] S a w (.c (.xv (S.nid,0,0))) 1 (setN S.own y (.pr (KeepP y (S.nid,0,0) n s f ty n))) [] ((SV.c (.sl y s 0 n none)).den E) w:=by
  refine ⟨⟨fun _=>0,fun _=>0,fun _=>false,fun _=>(SV.c (.sl y s 0 n none)).den E⟩,fun _=>by rw [den_c,den_sl];rfl,fun E2 hs2 _ hag=>?_⟩
  have e1:=(hag (S.nid,0,0) ⟨Nat.le_refl _,by simp⟩).2.2.2
  have e2:(SV.c (.sl y s 0 n none)).den E=(SV.c (.sl y s 0 n none)).den E2:=h2.symm.trans (hs2.tmps t _ ht).2
  refine ⟨by rw [den_c (x:=.xv _)];simp only [SC.den];rw [e1],(fits_put hy hp ⟨rfl,rfl,rfl⟩ (Nat.le_refl _) fun H hH=>⟨H y,?_,fun n _ _=>rfl,fun n o hn=>⟨(hH.sub _ _ (pkN_at hy hp) n o hn).1,Or.inr (by rw [hn];simp)⟩⟩).G⟩
  have hd:=hH.den _ _ (pkN_at hy hp)
  simp only [Blk.den] at hd ⊢
  exact ⟨Nat.le_refl _,Or.inl ⟨f,fun _ _=>rfl,by rw [e1];simp only;rw [e2,den_c],by simp only [Blk.den];exact hd⟩⟩
 obtain ⟨E',h'⟩:=satA_after hs (fun i hi=>by cases hi) haft (some t)
 rw [act_put_same (by rw [hs.sat.size];exact h1) h2] at h'
 exact ⟨E',h'⟩
theorem keep_out {y z:Nm} {k s ty L:Nat} {f:Nat→List SC} {p:Prop} (hy:pkN S.own y=some (p,.pr (KeepP y z k s f ty L))) (hp:p) :
  Le C S ⟨S.nt,S.tmps,mergeL (setN S.own y (.ar k s f ty)) S.own,S.arrs,S.facts,S.nid⟩:=by
 intro E a w hs
 have haft:After C.B C.W C.w0 E [] S a w (.c (.v undef)) 0 (setN S.own y (.ar k s f ty)) [] undef w:=by
  refine ⟨⟨fun _=>0,fun _=>0,fun _=>false,fun _=>.bool true⟩,fun _=>rfl,fun E2 hs2 _ hag=>⟨by rw [den_c,den_v],(fits_put hy hp ⟨rfl,rfl,rfl⟩ (Nat.le_refl _) fun H hH=>?_).G⟩⟩
  have hd:=hH.den _ _ (pkN_at hy hp)
  have hsub:=hH.sub _ _ (pkN_at hy hp)
  rw [show (Blk.pr (KeepP y z k s f ty L)).den E2 y (H y)=KeepP y z k s f ty L E2 (H y) from by simp only [Blk.den]] at hd
  obtain ⟨hkL,⟨F,hF,hχ,hd⟩ | ⟨b,cap,cells,t',h1,F,hχ,hd,hb1,hLc,hcm,hsz,hcells,hh⟩⟩:=hd
  ·exact ⟨H y,ar_weak hd hkL hF,fun n _ _=>rfl,fun n o hn=>⟨(hsub n o hn).1,Or.inr (by rw [hn];simp)⟩⟩
  ·refine ⟨h1,hd,fun n _ _=>rfl,fun n o hn=>?_⟩
   have hne:n≠b:=fun e=>by subst e;rw [hb1] at hn;cases hn
   have h2:H y n=some o:=by
    rw [hh]
    simp only [if_neg hne]
    exact hn
   exact ⟨(hsub n o h2).1,Or.inr (by rw [h2];simp)⟩
 obtain ⟨E',h'⟩:=satA_after hs (fun i hi=>by cases hi) haft none
 exact ⟨E',h'⟩
theorem keep_le {p:Nat→Prop} {σ:Nm→Nm} {y y' z z' : Nm} {k s ty L:Nat} {f f' : Nat→List SC} (hy:y=σ y') (hz:z=σ z') (hpy:p y'.1) (hpz:p z'.1) (hf:∀ e,e<k→f e=SC.renL σ (f' e)∧SC.okL p (f' e)):BlkLe p σ (.pr (KeepP y z k s f ty L)) (.pr (KeepP y' z' k s f' ty L)):=by
 subst hy hz
 intro E E2 hS h hK
 have hsy:=hS y' hpy
 have hsz:=hS z' hpz
 have vals:∀ (F:Nat→List SC) (e:Nat),((F e).map fun c=>SC.v (c.den E)).length=(F e).length:=fun F e=>by simp
 have cellsR:∀ {n:Nat} {F:Nat→List SC} {cells:Array Value},ArCells E n s F cells→ArCells E2 n s (fun e=>(F e).map fun c=>SC.v (c.den E)) cells:=by
  intro n F cells hc e he
  obtain ⟨g1,g2⟩:=hc e he
  refine ⟨by simpa using g1,fun j u hu=>?_⟩
  simp only [List.getElem?_map,Option.map_eq_some_iff] at hu
  obtain ⟨c,hc,rfl⟩:=hu
  rw [den_v]
  exact g2 j c hc
 obtain ⟨hkL,⟨F,hF,hχ,hd⟩ | ⟨b,cap,cells,t',h1,F,hχ,hd,hb1,hLc,hcm,hsz',hcells,hh⟩⟩:=hK
 ·refine ⟨hkL,Or.inl ⟨fun e=>if e<k then f' e else (F e).map fun c=>SC.v (c.den E),fun e he=>by simp only [if_pos he],?_,?_⟩⟩
  ·rw [hsz.2.2.2,hχ,den_sl,den_sl,hsy.1,hsy.2.1,hsy.2.2.1]
  ·simp only [Blk.den] at hd ⊢
   rw [hsy.1,hsy.2.1,hsy.2.2.1]
   rcases hd with g | ⟨g1,g2,g3,cells,g4,g5,g6⟩
   ·exact Or.inl g
   ·refine Or.inr ⟨g1,g2,g3,cells,g4,g5,fun e he=>?_⟩
    by_cases hek:e<k
    ·simp only [if_pos hek]
     obtain ⟨h5,h6⟩:=hf e hek
     obtain ⟨f1,f2⟩:=g6 e he
     rw [hF e hek,h5] at f1 f2
     refine ⟨by rw [renL_eq,List.length_map] at f1;exact f1,fun j u hu=>?_⟩
     have:=f2 j _ (mem_renL hu)
     rw [den_ren hS u (okL_mem h6 hu)]
     exact this
    ·simp only [if_neg hek]
     exact cellsR (n:=L) (fun e he=>g6 e he) e he
 ·refine ⟨hkL,Or.inr ⟨b,cap,cells,t',h1,fun e=>(F e).map fun c=>SC.v (c.den E),by rw [hsz.2.2.2,hχ],?_,hb1,hLc,hcm,hsz',cellsR hcells,hh⟩⟩
  exact blk_le hS hpy (b:=.ar k s f ty) (b':=.ar k s f' ty) ⟨Nat.le_refl _,rfl,rfl,hf⟩ hd
end
end Go.Proofs.Ytkjeedlkkpgopaa.Z
