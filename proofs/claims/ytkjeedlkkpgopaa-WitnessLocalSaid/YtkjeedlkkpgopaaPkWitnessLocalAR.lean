/- WitnessLocalSaid: what its proof is made of. No condition. -/
import Derived.Test.YtkjeedlkkpgopaaPkWitnessLocalAQ
set_option linter.unusedSimpArgs false
set_option linter.unusedVariables false
namespace Go.Proofs.Ytkjeedlkkpgopaa.Z
open Go Go.RowKit
theorem chkE_may {xs : List Cl} {o : List Int} (h : mayQ xs = false) : chkE xs o = 120 := by
 unfold chkE; rw [← mayQ_pB, h]; simp
theorem chkE_ord {xs : List Cl} {o : List Int} (h : mayQ xs = true) (h2 : pB (IsO xs o) = false) : chkE xs o = 121 := by
 unfold chkE; rw [← mayQ_pB, h, h2]; simp
theorem chkE_tim {xs : List Cl} {o : List Int} (h : mayQ xs = true) (h2 : pB (IsO xs o) = true) (h3 : pB (InT xs o) = false) : chkE xs o = 122 := by
 unfold chkE; rw [← mayQ_pB, h, h2, h3]; simp
theorem chkE_pl {xs : List Cl} {o : List Int} (h : mayQ xs = true) (h2 : pB (IsO xs o) = true) (h3 : pB (InT xs o) = true) : chkE xs o = if (playM mc0 0 (lineO xs o)).2 = -1 then 0 else 123 := by
 unfold chkE; rw [← mayQ_pB, h, h2, h3]; simp
theorem chkM_0 {xs : List Cl} {o : List Int} (h : chkE xs o ≠ 0) : chkM xs o = mc0 := by unfold chkM; rw [if_neg h]
theorem chkM_pl {xs : List Cl} {o : List Int} (h : mayQ xs = true) (h2 : pB (IsO xs o) = true) (h3 : pB (InT xs o) = true) : chkM xs o = plM (playM mc0 0 (lineO xs o)) := by
 unfold chkM plM
 rw [chkE_pl h h2 h3]
 by_cases e : (playM mc0 0 (lineO xs o)).2 = -1 <;> simp [e]
def lkT (e : Int) (b : Nat) : SV := .tup [(true, mcS b), (false, [.v (.int .i64 e)])]
theorem lkT_ok (c0 c1 c2 c3 c4 : SC) (e : Int) : ∀ b (E E2 : Env), E2.χ (b, 0, 0) = c0.den E → E2.χ (b + 1, 0, 0) = c1.den E → E2.χ (b + 2, 0, 0) = c2.den E → E2.χ (b + 3, 0, 0) = c3.den E → E2.χ (b + 4, 0, 0) = c4.den E →
  (SV.tup [(true, [c0, c1, c2, c3, c4]), (false, [.v (.int .i64 e)])]).den E = (lkT e b).den E2 := fun b E E2 e0 e1 e2 e3 e4 => by
 simp [lkT, mcS, SV.den, den1, SC.den, e0, e1, e2, e3, e4]
def ir54 : IR := (.seq (.ops [⟨(some 4), (.new 70 [(.v (.slice none 0 0)), (.v (.slice none 0 0)), (.v (.slice none 0 0)), (.v (.slice none 0 0)), (.v (.slice none 0 0))]), none⟩, ⟨(some 5), (.mv (.k (.c (.v (.int .i64 0))))), none⟩]) (.kill [2, 3, 5, 6, 7, 8, 9, 10, 11] (.seq (.seq (.ops [⟨(some 19), (.mv (.t 0)), none⟩, ⟨(some 20), (.call 15 [(.t 19)]), none⟩, ⟨(some 21), (.un .not (.t 20)), none⟩]) (.kill [19, 20] (.cond (.t 21) (.seq (.ops [⟨(some 22), (.build [(.v (.slice none 0 0)), (.v (.slice none 0 0)), (.v (.slice none 0 0)), (.v (.slice none 0 0)), (.v (.slice none 0 0))] []), none⟩, ⟨none, (.st 5 (.t 4) (.t 22)), none⟩, ⟨(some 5), (.mv (.k (.c (.v (.int .i64 120))))), none⟩]) (.kill [0, 1, 21, 22] .ret)) .skip))) (.kill [5, 21] (.seq (.ops [⟨(some 23), (.mv (.t 0)), none⟩, ⟨(some 24), (.len (.t 23)), none⟩, ⟨(some 25), (.mks 3 1 8 [(.v (.int .i64 0))] (.t 24) (.t 24)), none⟩, ⟨(some 6), (.mv (.t 25)), none⟩]) (.kill [23, 24, 25] (.seq (.seq (.ops [⟨(some 26), (.mv (.t 1)), none⟩, ⟨(some 27), (.len (.t 26)), none⟩, ⟨(some 28), (.mv (.k (.c (.v (.int .i64 0))))), none⟩]) (.blk 0 (.loop (.seq (.ops [⟨(some 29), (.bin .lss (.t 28) (.t 27)), none⟩]) (.kill [5, 8, 30, 31, 32, 33, 34, 35, 36, 37, 38, 39, 40, 41, 42, 43, 44, 45, 46, 47, 48, 49, 50, 51, 52, 53, 54, 55, 56, 57, 58, 59, 60, 61, 62] (.seq (.cond (.t 29) .skip (.exit 0)) (.kill [29] (.seq (.blk 1 (.seq (.ops [⟨(some 30), (.ia 1 (.t 26) (.t 28)), none⟩, ⟨(some 31), (.ld false 1 (.t 30)), none⟩, ⟨(some 8), (.mv (.t 31)), none⟩]) (.kill [30, 31] (.seq (.seq (.ops [⟨(some 32), (.mv (.t 8)), none⟩, ⟨(some 33), (.bin .lss (.t 32) (.k (.c (.v (.int .i64 0))))), none⟩, ⟨(some 34), (.mv (.t 33)), none⟩, ⟨(some 35), (.mv (.t 8)), (some (34, false))⟩, ⟨(some 36), (.mv (.t 0)), (some (34, false))⟩, ⟨(some 37), (.len (.t 36)), (some (34, false))⟩, ⟨(some 38), (.bin .geq (.t 35) (.t 37)), (some (34, false))⟩, ⟨(some 39), (.pick (.t 34) (.k (.c (.v (.bool true)))) (.t 38)), none⟩, ⟨(some 40), (.mv (.t 39)), none⟩, ⟨(some 41), (.mv (.t 0)), (some (40, false))⟩, ⟨(some 42), (.mv (.t 8)), (some (40, false))⟩, ⟨(some 43), (.ia 9 (.t 41) (.t 42)), (some (40, false))⟩, ⟨(some 44), (.ld true 9 (.t 43)), (some (40, false))⟩, ⟨(some 45), (.call 42 [(.t 44)]), (some (40, false))⟩, ⟨(some 46), (.un .not (.t 45)), (some (40, false))⟩, ⟨(some 47), (.pick (.t 40) (.k (.c (.v (.bool true)))) (.t 46)), none⟩, ⟨(some 48), (.mv (.t 47)), none⟩, ⟨(some 49), (.mv (.t 6)), (some (48, false))⟩, ⟨(some 50), (.mv (.t 8)), (some (48, false))⟩, ⟨(some 51), (.ia 1 (.t 49) (.t 50)), (some (48, false))⟩, ⟨(some 52), (.ld false 1 (.t 51)), (some (48, false))⟩, ⟨(some 53), (.bin .gtr (.t 52) (.k (.c (.v (.int .i64 0))))), (some (48, false))⟩, ⟨(some 54), (.pick (.t 48) (.k (.c (.v (.bool true)))) (.t 53)), none⟩]) (.kill [32, 33, 34, 35, 36, 37, 38, 39, 40, 41, 42, 43, 44, 45, 46, 47, 48, 49, 50, 51, 52, 53] (.cond (.t 54) (.seq (.ops [⟨(some 55), (.build [(.v (.slice none 0 0)), (.v (.slice none 0 0)), (.v (.slice none 0 0)), (.v (.slice none 0 0)), (.v (.slice none 0 0))] []), none⟩, ⟨none, (.st 5 (.t 4) (.t 55)), none⟩, ⟨(some 5), (.mv (.k (.c (.v (.int .i64 121))))), none⟩]) (.kill [0, 1, 6, 8, 26, 27, 28, 54, 55] .ret)) .skip))) (.kill [5, 54] (.ops [⟨(some 56), (.mv (.t 6)), none⟩, ⟨(some 57), (.mv (.t 8)), none⟩, ⟨(some 58), (.ia 1 (.t 56) (.t 57)), none⟩, ⟨(some 59), (.ld false 1 (.t 58)), none⟩, ⟨(some 60), (.bin .add (.t 59) (.k (.c (.v (.int .i64 1))))), none⟩, ⟨(some 61), (.ia 1 (.t 56) (.t 57)), none⟩, ⟨none, (.st 1 (.t 61) (.t 60)), none⟩])))))) (.kill [5, 8, 30, 31, 32, 33, 34, 35, 36, 37, 38, 39, 40, 41, 42, 43, 44, 45, 46, 47, 48, 49, 50, 51, 52, 53, 54, 55, 56, 57, 58, 59, 60, 61] (.ops [⟨(some 62), (.bin .add (.t 28) (.k (.c (.v (.int .i64 1))))), none⟩, ⟨(some 28), (.mv (.t 62)), none⟩])))))))))) (.kill [5, 8, 26, 27, 28, 29, 30, 31, 32, 33, 34, 35, 36, 37, 38, 39, 40, 41, 42, 43, 44, 45, 46, 47, 48, 49, 50, 51, 52, 53, 54, 55, 56, 57, 58, 59, 60, 61, 62] (.seq (.seq (.ops [⟨(some 63), (.mv (.t 0)), none⟩, ⟨(some 64), (.len (.t 63)), none⟩, ⟨(some 65), (.mv (.k (.c (.v (.int .i64 0))))), none⟩]) (.blk 2 (.loop (.seq (.ops [⟨(some 66), (.bin .lss (.t 65) (.t 64)), none⟩]) (.kill [5, 9, 10, 67, 68, 69, 70, 71, 72, 73, 74, 75, 76, 77, 78, 79, 80, 81, 82, 83, 84, 85] (.seq (.cond (.t 66) .skip (.exit 2)) (.kill [66] (.seq (.blk 3 (.seq (.ops [⟨(some 67), (.mv (.t 65)), none⟩, ⟨(some 68), (.ia 9 (.t 63) (.t 65)), none⟩, ⟨(some 69), (.ld true 9 (.t 68)), none⟩, ⟨(some 10), (.new 53 [(.v (.int .i64 0)), (.v (.int .i64 0)), (.v (.int .i64 0)), (.v (.int .i64 0)), (.v (.int .i64 0)), (.v (.int .i64 0)), (.v (.int .i64 0)), (.v (.int .i64 0)), (.v (.int .i64 0))]), none⟩, ⟨(some 9), (.mv (.t 67)), none⟩, ⟨none, (.st 9 (.t 10) (.t 69)), none⟩]) (.kill [67, 68, 69] (.seq (.ops [⟨(some 70), (.ld true 9 (.t 10)), none⟩, ⟨(some 71), (.call 42 [(.t 70)]), none⟩, ⟨(some 72), (.mv (.t 71)), none⟩, ⟨(some 73), (.fa 5 (.t 10)), (some (72, true))⟩, ⟨(some 74), (.ld false 1 (.t 73)), (some (72, true))⟩, ⟨(some 75), (.bin .neq (.t 74) (.k (.c (.v (.int .i64 (-1)))))), (some (72, true))⟩, ⟨(some 76), (.pick (.t 72) (.t 75) (.k (.c (.v (.bool false))))), none⟩, ⟨(some 77), (.mv (.t 76)), none⟩, ⟨(some 78), (.mv (.t 6)), (some (77, true))⟩, ⟨(some 79), (.mv (.t 9)), (some (77, true))⟩, ⟨(some 80), (.ia 1 (.t 78) (.t 79)), (some (77, true))⟩, ⟨(some 81), (.ld false 1 (.t 80)), (some (77, true))⟩, ⟨(some 82), (.bin .eql (.t 81) (.k (.c (.v (.int .i64 0))))), (some (77, true))⟩, ⟨(some 83), (.pick (.t 77) (.t 82) (.k (.c (.v (.bool false))))), none⟩]) (.kill [9, 10, 70, 71, 72, 73, 74, 75, 76, 77, 78, 79, 80, 81, 82] (.cond (.t 83) (.seq (.ops [⟨(some 84), (.build [(.v (.slice none 0 0)), (.v (.slice none 0 0)), (.v (.slice none 0 0)), (.v (.slice none 0 0)), (.v (.slice none 0 0))] []), none⟩, ⟨none, (.st 5 (.t 4) (.t 84)), none⟩, ⟨(some 5), (.mv (.k (.c (.v (.int .i64 121))))), none⟩]) (.kill [0, 1, 6, 63, 64, 65, 83, 84] .ret)) .skip)))))) (.kill [5, 9, 10, 67, 68, 69, 70, 71, 72, 73, 74, 75, 76, 77, 78, 79, 80, 81, 82, 83, 84] (.ops [⟨(some 85), (.bin .add (.t 65) (.k (.c (.v (.int .i64 1))))), none⟩, ⟨(some 65), (.mv (.t 85)), none⟩])))))))))) (.kill [5, 6, 9, 10, 63, 64, 65, 66, 67, 68, 69, 70, 71, 72, 73, 74, 75, 76, 77, 78, 79, 80, 81, 82, 83, 84, 85] (.seq (.ops [⟨(some 11), (.mv (.k (.c (.v (.slice none 0 0))))), none⟩]) (.seq (.ops [⟨(some 12), (.mv (.k (.c (.v (.int .i64 (-1)))))), none⟩]) (.seq (.seq (.ops [⟨(some 86), (.mv (.t 1)), none⟩, ⟨(some 87), (.len (.t 86)), none⟩, ⟨(some 88), (.mv (.k (.c (.v (.int .i64 0))))), none⟩]) (.kill [1] (.blk 4 (.loop (.seq (.ops [⟨(some 89), (.bin .lss (.t 88) (.t 87)), none⟩]) (.kill [5, 14, 15, 90, 91, 92, 93, 94, 95, 96, 97, 98, 99, 100, 101, 102, 103, 104, 105, 106, 107, 108, 109, 110, 111, 112, 113, 114, 115, 116, 117, 118, 119, 120] (.seq (.cond (.t 89) .skip (.exit 4)) (.kill [89] (.seq (.blk 5 (.seq (.ops [⟨(some 90), (.ia 1 (.t 86) (.t 88)), none⟩, ⟨(some 91), (.ld false 1 (.t 90)), none⟩, ⟨(some 14), (.mv (.t 91)), none⟩]) (.kill [90, 91] (.seq (.seq (.ops [⟨(some 92), (.mv (.t 0)), none⟩, ⟨(some 93), (.mv (.t 14)), none⟩, ⟨(some 94), (.ia 9 (.t 92) (.t 93)), none⟩, ⟨(some 95), (.ld true 9 (.t 94)), none⟩, ⟨(some 15), (.new 53 [(.v (.int .i64 0)), (.v (.int .i64 0)), (.v (.int .i64 0)), (.v (.int .i64 0)), (.v (.int .i64 0)), (.v (.int .i64 0)), (.v (.int .i64 0)), (.v (.int .i64 0)), (.v (.int .i64 0))]), none⟩, ⟨none, (.st 9 (.t 15) (.t 95)), none⟩]) (.kill [92, 93, 94, 95] (.seq (.ops [⟨(some 96), (.fa 5 (.t 15)), none⟩, ⟨(some 97), (.ld false 1 (.t 96)), none⟩, ⟨(some 98), (.bin .neq (.t 97) (.k (.c (.v (.int .i64 (-1)))))), none⟩, ⟨(some 99), (.mv (.t 98)), none⟩, ⟨(some 100), (.fa 5 (.t 15)), (some (99, true))⟩, ⟨(some 101), (.ld false 1 (.t 100)), (some (99, true))⟩, ⟨(some 102), (.mv (.t 12)), (some (99, true))⟩, ⟨(some 103), (.bin .lss (.t 101) (.t 102)), (some (99, true))⟩, ⟨(some 104), (.pick (.t 99) (.t 103) (.k (.c (.v (.bool false))))), none⟩]) (.kill [15, 96, 97, 98, 99, 100, 101, 102, 103] (.cond (.t 104) (.seq (.ops [⟨(some 105), (.build [(.v (.slice none 0 0)), (.v (.slice none 0 0)), (.v (.slice none 0 0)), (.v (.slice none 0 0)), (.v (.slice none 0 0))] []), none⟩, ⟨none, (.st 5 (.t 4) (.t 105)), none⟩, ⟨(some 5), (.mv (.k (.c (.v (.int .i64 122))))), none⟩]) (.kill [0, 11, 12, 14, 86, 87, 88, 104, 105] .ret)) .skip))))) (.kill [5, 104] (.seq (.ops [⟨(some 106), (.mv (.t 12)), none⟩, ⟨(some 107), (.mv (.t 0)), none⟩, ⟨(some 108), (.mv (.t 14)), none⟩, ⟨(some 109), (.ia 9 (.t 107) (.t 108)), none⟩, ⟨(some 110), (.fa 4 (.t 109)), none⟩, ⟨(some 111), (.ld false 1 (.t 110)), none⟩, ⟨(some 112), (.mm true (.t 106) (.t 111)), none⟩, ⟨(some 12), (.mv (.t 112)), none⟩]) (.kill [106, 107, 108, 109, 110, 111, 112] (.ops [⟨(some 113), (.mv (.t 11)), none⟩, ⟨(some 114), (.mv (.t 0)), none⟩, ⟨(some 115), (.mv (.t 14)), none⟩, ⟨(some 116), (.ia 9 (.t 114) (.t 115)), none⟩, ⟨(some 117), (.ld true 9 (.t 116)), none⟩, ⟨(some 118), (.mkSl 53 1 9 [(.v (.int .i64 0)), (.v (.int .i64 0)), (.v (.int .i64 0)), (.v (.int .i64 0)), (.v (.int .i64 0)), (.v (.int .i64 0)), (.v (.int .i64 0)), (.v (.int .i64 0)), (.v (.int .i64 0))] [(0, (9, (.t 117)))]), none⟩, ⟨(some 119), (.app 53 9 72 [(.v (.int .i64 0)), (.v (.int .i64 0)), (.v (.int .i64 0)), (.v (.int .i64 0)), (.v (.int .i64 0)), (.v (.int .i64 0)), (.v (.int .i64 0)), (.v (.int .i64 0)), (.v (.int .i64 0))] (.t 113) (.t 118)), none⟩, ⟨(some 11), (.mv (.t 119)), none⟩])))))))) (.kill [5, 14, 15, 90, 91, 92, 93, 94, 95, 96, 97, 98, 99, 100, 101, 102, 103, 104, 105, 106, 107, 108, 109, 110, 111, 112, 113, 114, 115, 116, 117, 118, 119] (.ops [⟨(some 120), (.bin .add (.t 88) (.k (.c (.v (.int .i64 1))))), none⟩, ⟨(some 88), (.mv (.t 120)), none⟩]))))))))))) (.kill [0, 5, 12, 14, 15, 86, 87, 88, 89, 90, 91, 92, 93, 94, 95, 96, 97, 98, 99, 100, 101, 102, 103, 104, 105, 106, 107, 108, 109, 110, 111, 112, 113, 114, 115, 116, 117, 118, 119, 120] (.seq (.ops [⟨(some 122), (.build [(.v (.slice none 0 0)), (.v (.slice none 0 0)), (.v (.slice none 0 0)), (.v (.slice none 0 0)), (.v (.slice none 0 0))] []), none⟩, ⟨(some 123), (.mv (.t 11)), none⟩, ⟨(some 124), (.call 71 [(.t 122), (.t 123)]), none⟩, ⟨(some 121), (.mv (.t 124)), none⟩, ⟨(some 125), (.ext 0 (.t 121)), none⟩, ⟨(some 126), (.ext 1 (.t 121)), none⟩, ⟨(some 127), (.ext 2 (.t 121)), none⟩, ⟨(some 16), (.new 70 [(.v (.slice none 0 0)), (.v (.slice none 0 0)), (.v (.slice none 0 0)), (.v (.slice none 0 0)), (.v (.slice none 0 0))]), none⟩, ⟨none, (.st 5 (.t 16) (.t 125)), none⟩, ⟨(some 17), (.mv (.t 126)), none⟩, ⟨(some 18), (.mv (.t 127)), none⟩]) (.kill [11, 121, 122, 123, 124, 125, 126, 127] (.seq (.seq (.ops [⟨(some 128), (.mv (.t 18)), none⟩, ⟨(some 129), (.bin .neq (.t 128) (.k (.c (.v (.int .i64 0))))), none⟩, ⟨(some 130), (.mv (.t 129)), none⟩, ⟨(some 131), (.mv (.t 17)), (some (130, false))⟩, ⟨(some 132), (.bin .geq (.t 131) (.k (.c (.v (.int .i64 0))))), (some (130, false))⟩, ⟨(some 133), (.pick (.t 130) (.k (.c (.v (.bool true)))) (.t 132)), none⟩]) (.kill [17, 18, 128, 129, 130, 131, 132] (.cond (.t 133) (.seq (.ops [⟨(some 134), (.build [(.v (.slice none 0 0)), (.v (.slice none 0 0)), (.v (.slice none 0 0)), (.v (.slice none 0 0)), (.v (.slice none 0 0))] []), none⟩, ⟨none, (.st 5 (.t 4) (.t 134)), none⟩, ⟨(some 5), (.mv (.k (.c (.v (.int .i64 123))))), none⟩]) (.kill [16, 133, 134] .ret)) .skip))) (.kill [5, 133] (.seq (.ops [⟨(some 135), (.ld true 5 (.t 16)), none⟩, ⟨none, (.st 5 (.t 4) (.t 135)), none⟩, ⟨(some 5), (.mv (.k (.c (.v (.int .i64 0))))), none⟩]) (.kill [16, 135] .ret))))))))))))))))))))
def rs54 : List RS := [(.cell 4 true 5), (.t 5)]
def nt54 : Nat := 136
def ir35 : IR := (.seq (.ops [⟨(some 4), (.mv (.k (.c (.v (.int .i64 0))))), none⟩]) (.kill [2, 3, 4, 5, 6, 7, 8, 9, 10, 11] (.seq (.ops [⟨(some 8), (.mv (.t 0)), none⟩, ⟨(some 9), (.mv (.t 1)), none⟩, ⟨(some 10), (.call 54 [(.t 8), (.t 9)]), none⟩, ⟨(some 7), (.mv (.t 10)), none⟩, ⟨(some 11), (.ext 0 (.t 7)), none⟩, ⟨(some 12), (.ext 1 (.t 7)), none⟩, ⟨(some 5), (.new 70 [(.v (.slice none 0 0)), (.v (.slice none 0 0)), (.v (.slice none 0 0)), (.v (.slice none 0 0)), (.v (.slice none 0 0))]), none⟩, ⟨none, (.st 5 (.t 5) (.t 11)), none⟩, ⟨(some 6), (.mv (.t 12)), none⟩]) (.kill [0, 1, 5, 7, 8, 9, 10, 11, 12] (.seq (.ops [⟨(some 13), (.mv (.t 6)), none⟩, ⟨(some 4), (.mv (.t 13)), none⟩]) (.kill [6, 13] .ret))))))
def rs35 : List RS := [(.t 4)]
def nt35 : Nat := 14
def latK (xs : List Cl) (o : List Int) : Nat → Int
 | 0 => -1
 | k + 1 => if (cAt xs (o.getD k 0)).beg > latK xs o k then (cAt xs (o.getD k 0)).beg else latK xs o k
theorem latK_ge {xs : List Cl} {o : List Int} : ∀ {k a : Nat}, a < k → (cAt xs (o.getD a 0)).beg ≤ latK xs o k
 | 0, a, h => by omega
 | k + 1, a, h => by
  simp only [latK]
  by_cases e : a = k
  ·subst e; split <;> omega
  ·have := latK_ge (xs := xs) (o := o) (show a < k by omega)
   split <;> omega
theorem latK_ex {xs : List Cl} {o : List Int} : ∀ {k : Nat}, latK xs o k = -1 ∨ ∃ a, a < k ∧ latK xs o k = (cAt xs (o.getD a 0)).beg
 | 0 => Or.inl rfl
 | k + 1 => by
  simp only [latK]
  split
  ·exact Or.inr ⟨k, by omega, rfl⟩
  ·rcases latK_ex (xs := xs) (o := o) (k := k) with h | ⟨a, h1, h2⟩
   ·exact Or.inl h
   ·exact Or.inr ⟨a, by omega, h2⟩
theorem line_succ {xs : List Cl} {o : List Int} {k : Nat} (h : k < o.length) : lineO xs (o.take (k + 1)) = lineO xs (o.take k) ++ [cAt xs (o.getD k 0)] := by
 rw [take_succ' h]; simp [lineO]
theorem fin_pos {xs : List Cl} (hm : mayP xs) {n : Int} (h : 0 ≤ n ∧ n < xs.length) : (cAt xs n).fin = -1 ∨ 0 ≤ (cAt xs n).fin := by
 have h1 := hm.1.shaped n.toNat (by omega)
 simp only [shapedB, decide_eq_true_eq] at h1
 simp only [cAt]
 by_cases e : (xs.getD n.toNat cl0).fin = -1
 ·exact Or.inl e
 ·have := h1.1.2.2.2 e
  exact Or.inr (by omega)
theorem playM_sgn : ∀ (cs : List Cl) (m : MC) (i : Nat), (playM m i cs).2 = -1 ∨ 0 ≤ (playM m i cs).2
 | [], m, i => Or.inl rfl
 | c :: r, m, i => by
  simp only [playM]
  split
  ·exact playM_sgn r _ _
  ·exact Or.inr (by simp)
def stN (l : List Int) (e : Int) : Int := if e ∈ l then 1 else 0
def stF (l : List Int) (e : Nat) : List SC := [.v (.int .i64 (stN l e))]
set_option maxRecDepth 100000 in
set_option maxHeartbeats 400000 in
theorem look_calls (w : World) (v v' : Value) (xs : List Cl) (o : List Int) (hsz : xs.length * 72 ≤ 140737488355328) (h : Arr w Cl.enc 9 v xs) (h' : Arr w eI 1 v' o) : Calls Try.prog 54 #[v, v'] w (RetB w (fun _ => True) 5 (lkT (chkE xs o)) (mcR (chkM xs o))) := by
 have hlen' := Z.Arr.lenM h'
 simp only [maxLen] at hlen'
 refine enter2 (A := []) (c := ir54) (rs := rs54) (nt := nt54) cl0 cl_ok h 0 eI_ok h' [.c (.xv (0, 0, 0)), .c (.xv (1, 0, 0))] _ Try.func54 rfl (by kernel_rfl) (by kernel_rfl) rfl (fun E' h0 h1 => by simp [SV.den, SC.den, h0, h1]) (of_decide_eq_true rfl) ?_
 simp (maxSteps := 2000000) only [ir54, nt54, rs54, go_sem, ↓condS, ↓exitS, ↓gateS, ↓runOp, ↓gateD, ↓runD, ↓imp_ft, ↓imp_tf, ↓imp_tt, ↓imp_ff, ↓imp_fn, ↓imp_tn, ↓imp_fy, ↓imp_ty, ↓reduceIte, Nat.reduceLT, Nat.reduceLeDiff, Nat.reduceAdd, Nat.reduceSub, Nat.reduceMul, Nat.reduceEqDiff, reduceCtorEq, Int.reduceToNat, Int.reduceEq, Int.reduceBEq, Int.reduceBNe, Int.reduceLT, Int.reduceLE, Int.reduceNeg, Int.reduceAdd, Int.reduceSub, Int.reduceMul, Int.reduceGE, Int.reduceGT, Cl.enc, iv, endO]
 refine callV (.c (.bo (mayQ xs))) _ (fun E => rfl) (fun E a w' hs => mayW w' _ xs (arr_at (d := cl0) hs 0 rfl)) ?_
 simp (maxSteps := 2000000) only [go_sem, ↓condS, ↓exitS, ↓gateS, ↓runOp, ↓gateD, ↓runD, ↓imp_ft, ↓imp_tf, ↓imp_tt, ↓imp_ff, ↓imp_fn, ↓imp_tn, ↓imp_fy, ↓imp_ty, ↓reduceIte, Nat.reduceLT, Nat.reduceLeDiff, Nat.reduceAdd, Nat.reduceSub, Nat.reduceMul, Nat.reduceEqDiff, reduceCtorEq, Int.reduceToNat, Int.reduceEq, Int.reduceBEq, Int.reduceBNe, Int.reduceLT, Int.reduceLE, Int.reduceNeg, Int.reduceAdd, Int.reduceSub, Int.reduceMul, Int.reduceGE, Int.reduceGT, Cl.enc, iv, endO]
 refine both (fun hm => ?_) (fun hm => ?_)
 ·rw [Bool.not_eq_true'] at hm
  have e1 := chkE_may (o := o) hm
  rw [e1, chkM_0 (by rw [e1]; decide)]
  exact retB5 _ _ _ _ _ rdN_nil rdN_nil rdN_nil rdN_nil rdN_nil (lkT_ok _ _ _ _ _ 120)
 rw [Bool.not_eq_false'] at hm
 repeat (with_reducible refine And.intro (by first | (simp only [maxLen]; omega) | omega | decide | (simp; done) | (simp [maxLen]; omega)) ?_)
 refine loopI (ι := { i : Nat // i ≤ o.length ∧ IsO1 xs o i }) (fun i => ⟨136, [(0, .c (.xv (0, 0, 0))), (1, .c (.xv (1, 0, 0))), (4, .c (.ptr (2, 0, 0) 0)), (6, .c (.sl (3, 0, 0) 1 0 xs.length none)), (26, .c (.xv (1, 0, 0))), (27, .c (.v (.int .i64 o.length))), (28, .c (.v (.int .i64 (i.1 : Nat))))],
  [(2, .one (.bk nil5 70)), (3, .one (.ar xs.length 1 (stF (o.take i.1)) 3))], [(0, .one (arrOf Cl.enc 9 xs cl0)), (1, .one (arrOf eI 1 o 0))], [], 4⟩)
  (fun i => o.length - i.1) ⟨0, by omega, by simp [IsO1]⟩ ?_ ?_
 ·simp only [nil5]
  exact le_ren id rfl rfl (by simp [TmpsLe, look, SV.ren, SC.ren, SC.renL, ren1L, ren1, idσ, SV.okN, SC.okN, SC.okL, ok1L]) (by simp [OwnLe, BlkLeO, BlkLe, atN, look, Fm.get, idσ, SC.renL, SC.ren, SC.okL, SC.okN, stF, stN]) (by simp [ArrsLe, ArrLeO, atN, look, Fm.get, idσ, arrLe_of, arrLe_0]) rfl
 rintro ⟨i, hi, hg⟩
 simp (maxSteps := 2000000) only [go_sem, ↓condS, ↓exitS, ↓gateS, ↓runOp, ↓gateD, ↓runD, ↓imp_ft, ↓imp_tf, ↓imp_tt, ↓imp_ff, ↓imp_fn, ↓imp_tn, ↓imp_fy, ↓imp_ty, ↓reduceIte, Nat.reduceLT, Nat.reduceLeDiff, Nat.reduceAdd, Nat.reduceSub, Nat.reduceMul, Nat.reduceEqDiff, reduceCtorEq, Int.reduceToNat, Int.reduceEq, Int.reduceBEq, Int.reduceBNe, Int.reduceLT, Int.reduceLE, Int.reduceNeg, Int.reduceAdd, Int.reduceSub, Int.reduceMul, Int.reduceGE, Int.reduceGT, Cl.enc, iv, endO, eI, nil5]
 refine both (fun hlt => ?_) (fun hge => ?_)
 ·rw [decide_eq_true_eq] at hlt
  have hlt : i < o.length := by omega
  have hfst := fun h : IsO xs o => h.fst hlt
  have hstep := IsO1.step hg hlt
  have htk := take_succ' hlt
  generalize hn : o.getD i 0 = n at hfst hstep htk ⊢
  refine ⟨hlt, hlt, fun h => ?_, fun h => ?_, ?_⟩
  ·simp only [b_decR, b_decL, bt_ite, bf_ite, bt_dec, bf_dec, bt_int, bf_int, bt_nint, bf_nint, bt_bool, bf_bool, bt_nbool, bf_nbool, bt_not, bf_not, bt_and, bf_and, bt_or, bf_or, Bool.false_eq_true, Bool.true_eq_false, Bool.not_eq_true, Bool.not_eq_false, reduceCtorEq, false_iff, true_iff, iff_false, iff_true, and_true, true_and, and_false, false_and, or_true, true_or, or_false, false_or, not_true_eq_false, not_false_eq_true, ne_eq] at h; omega
  ·simp only [b_decR, b_decL, bt_ite, bf_ite, bt_dec, bf_dec, bt_int, bf_int, bt_nint, bf_nint, bt_bool, bf_bool, bt_nbool, bf_nbool, bt_not, bf_not, bt_and, bf_and, bt_or, bf_or, Bool.false_eq_true, Bool.true_eq_false, Bool.not_eq_true, Bool.not_eq_false, reduceCtorEq, false_iff, true_iff, iff_false, iff_true, and_true, true_and, and_false, false_and, or_true, true_or, or_false, false_or, not_true_eq_false, not_false_eq_true, ne_eq] at h; omega
  refine guardW (.c (.bo (cntB (cAt xs n)))) _ (fun E => rfl) (fun E a w' _ => counts_calls w' (cAt xs n)) ?_
  simp (maxSteps := 2000000) only [go_sem, ↓condS, ↓exitS, ↓gateS, ↓runOp, ↓gateD, ↓runD, ↓imp_ft, ↓imp_tf, ↓imp_tt, ↓imp_ff, ↓imp_fn, ↓imp_tn, ↓imp_fy, ↓imp_ty, ↓reduceIte, Nat.reduceLT, Nat.reduceLeDiff, Nat.reduceAdd, Nat.reduceSub, Nat.reduceMul, Nat.reduceEqDiff, reduceCtorEq, Int.reduceToNat, Int.reduceEq, Int.reduceBEq, Int.reduceBNe, Int.reduceLT, Int.reduceLE, Int.reduceNeg, Int.reduceAdd, Int.reduceSub, Int.reduceMul, Int.reduceGE, Int.reduceGT, Cl.enc, iv, endO, stF]
  refine ⟨fun h => ?_, fun h => ?_, fun hb => ?_, fun hb => ?_⟩
  ·cases hc : cntB (cAt xs n) <;> simp only [b_decR, b_decL, bt_ite, bf_ite, bt_dec, bf_dec, bt_int, bf_int, bt_nint, bf_nint, bt_bool, bf_bool, bt_nbool, bf_nbool, bt_not, bf_not, bt_and, bf_and, bt_or, bf_or, Bool.false_eq_true, Bool.true_eq_false, Bool.not_eq_true, Bool.not_eq_false, reduceCtorEq, false_iff, true_iff, iff_false, iff_true, and_true, true_and, and_false, false_and, or_true, true_or, or_false, false_or, not_true_eq_false, not_false_eq_true, ne_eq, hc] at h <;> omega
  ·cases hc : cntB (cAt xs n) <;> simp only [b_decR, b_decL, bt_ite, bf_ite, bt_dec, bf_dec, bt_int, bf_int, bt_nint, bf_nint, bt_bool, bf_bool, bt_nbool, bf_nbool, bt_not, bf_not, bt_and, bf_and, bt_or, bf_or, Bool.false_eq_true, Bool.true_eq_false, Bool.not_eq_true, Bool.not_eq_false, reduceCtorEq, false_iff, true_iff, iff_false, iff_true, and_true, true_and, and_false, false_and, or_true, true_or, or_false, false_or, not_true_eq_false, not_false_eq_true, ne_eq, hc] at h <;> omega
  ·have e1 : chkE xs o = 121 := chkE_ord hm (pB_f.2 fun ho => by
    obtain ⟨⟨h1, h2, h3⟩, h4⟩ := hfst ho
    rw [Int.toNat_of_nonneg h1] at hb
    simp only [b_decR, b_decL, bt_ite, bf_ite, bt_dec, bf_dec, bt_int, bf_int, bt_nint, bf_nint, bt_bool, bf_bool, bt_nbool, bf_nbool, bt_not, bf_not, bt_and, bf_and, bt_or, bf_or, Bool.false_eq_true, Bool.true_eq_false, Bool.not_eq_true, Bool.not_eq_false, reduceCtorEq, false_iff, true_iff, iff_false, iff_true, and_true, true_and, and_false, false_and, or_true, true_or, or_false, false_or, not_true_eq_false, not_false_eq_true, ne_eq, h3, stN, if_neg h4] at hb
    omega)
   rw [e1, chkM_0 (by rw [e1]; decide)]
   exact retB5 _ _ _ _ _ rdN_nil rdN_nil rdN_nil rdN_nil rdN_nil (lkT_ok _ _ _ _ _ 121)
  ·have h0 : 0 ≤ n ∧ n < xs.length ∧ cntB (cAt xs n) = true := by
    cases hc : cntB (cAt xs n) with
    | true => simp only [b_decR, b_decL, bt_ite, bf_ite, bt_dec, bf_dec, bt_int, bf_int, bt_nint, bf_nint, bt_bool, bf_bool, bt_nbool, bf_nbool, bt_not, bf_not, bt_and, bf_and, bt_or, bf_or, Bool.false_eq_true, Bool.true_eq_false, Bool.not_eq_true, Bool.not_eq_false, reduceCtorEq, false_iff, true_iff, iff_false, iff_true, and_true, true_and, and_false, false_and, or_true, true_or, or_false, false_or, not_true_eq_false, not_false_eq_true, ne_eq, hc] at hb; exact ⟨by omega, by omega, rfl⟩
    | false => simp [hc] at hb
   have h4 : n ∉ o.take i := fun hin => by
    rw [Int.toNat_of_nonneg h0.1] at hb
    simp only [b_decR, b_decL, bt_ite, bf_ite, bt_dec, bf_dec, bt_int, bf_int, bt_nint, bf_nint, bt_bool, bf_bool, bt_nbool, bf_nbool, bt_not, bf_not, bt_and, bf_and, bt_or, bf_or, Bool.false_eq_true, Bool.true_eq_false, Bool.not_eq_true, Bool.not_eq_false, reduceCtorEq, false_iff, true_iff, iff_false, iff_true, and_true, true_and, and_false, false_and, or_true, true_or, or_false, false_or, not_true_eq_false, not_false_eq_true, ne_eq, h0.2.2, stN, if_pos hin] at hb
    omega
   repeat (with_reducible refine And.intro (by first | (simp only [maxLen]; omega) | omega | decide | (simp; done) | (simp [maxLen]; omega)) ?_)
   rw [wr_succ (by omega)]
   refine backI ⟨i + 1, by omega, hstep h0 h4⟩ (by simp only; omega) (le_ren id rfl rfl (by simp [TmpsLe, look, SV.ren, SC.ren, SC.renL, ren1L, ren1, idσ, SV.okN, SC.okN, SC.okL, ok1L]) ⟨⟨of_decide_eq_true rfl, by simp [BlkLeO, BlkLe, atN, look, Fm.get, idσ, nil5, SC.renL, SC.ren, SC.okL, SC.okN]⟩, ⟨of_decide_eq_true rfl, Nat.le_refl _, rfl, rfl, fun e he => ?_⟩, trivial⟩ (by simp [ArrsLe, ArrLeO, atN, look, Fm.get, idσ, arrLe_of, arrLe_0]) rfl)
   simp only [htk, setAt, stF, SC.renL, SC.ren, SC.okL, SC.okN, and_true, drop', take', List.nil_append]
   by_cases e1 : e = n.toNat
   ·subst e1
    rw [Int.toNat_of_nonneg h0.1, if_pos rfl]
    simp [stN, h4]
    decide
   ·have e2 : ¬ (e : Int) = n := by omega
    rw [if_neg e1]
    simp [stN, e2]
 ·rw [decide_eq_false_iff_not] at hge
  have hin : i = o.length := by omega
  subst hin
  rw [List.take_length]
  refine loopI (ι := { i : Nat // i ≤ xs.length ∧ IsO2 xs o i }) (fun i => ⟨136, [(0, .c (.xv (0, 0, 0))), (1, .c (.xv (1, 0, 0))), (4, .c (.ptr (2, 0, 0) 0)), (6, .c (.sl (3, 0, 0) 1 0 xs.length none)), (63, .c (.xv (0, 0, 0))), (64, .c (.v (.int .i64 xs.length))), (65, .c (.v (.int .i64 (i.1 : Nat))))],
   [(2, .one (.bk nil5 70)), (3, .one (.ar xs.length 1 (stF o) 3))], [(0, .one (arrOf Cl.enc 9 xs cl0)), (1, .one (arrOf eI 1 o 0))], [], 4⟩)
   (fun i => xs.length - i.1) ⟨0, by omega, fun k hk => by omega⟩ ?_ ?_
  ·simp only [nil5]
   exact le_ren id rfl rfl (by simp [TmpsLe, look, SV.ren, SC.ren, SC.renL, ren1L, ren1, idσ, SV.okN, SC.okN, SC.okL, ok1L]) (by simp [OwnLe, BlkLeO, BlkLe, atN, look, Fm.get, idσ, SC.renL, SC.ren, SC.okL, SC.okN, stF]) (by simp [ArrsLe, ArrLeO, atN, look, Fm.get, idσ, arrLe_of, arrLe_0]) rfl
  rintro ⟨k, hk, hg2⟩
  simp (maxSteps := 2000000) only [go_sem, ↓condS, ↓exitS, ↓gateS, ↓runOp, ↓gateD, ↓runD, ↓imp_ft, ↓imp_tf, ↓imp_tt, ↓imp_ff, ↓imp_fn, ↓imp_tn, ↓imp_fy, ↓imp_ty, ↓reduceIte, Nat.reduceLT, Nat.reduceLeDiff, Nat.reduceAdd, Nat.reduceSub, Nat.reduceMul, Nat.reduceEqDiff, reduceCtorEq, Int.reduceToNat, Int.reduceEq, Int.reduceBEq, Int.reduceBNe, Int.reduceLT, Int.reduceLE, Int.reduceNeg, Int.reduceAdd, Int.reduceSub, Int.reduceMul, Int.reduceGE, Int.reduceGT, Cl.enc, iv, endO, nil5]
  refine both (fun hlt => ?_) (fun hge => ?_)
  ·rw [decide_eq_true_eq] at hlt
   have hlt : k < xs.length := by omega
   generalize hck : xs.getD k cl0 = ck
   repeat (with_reducible refine And.intro (by first | (simp only [maxLen]; omega) | omega | decide | (simp; done) | (simp [maxLen]; omega)) ?_)
   refine callV (.c (.bo (cntB ck))) _ (fun E => rfl) (fun E a w' _ => counts_calls w' ck) ?_
   simp (maxSteps := 2000000) only [go_sem, ↓condS, ↓exitS, ↓gateS, ↓runOp, ↓gateD, ↓runD, ↓imp_ft, ↓imp_tf, ↓imp_tt, ↓imp_ff, ↓imp_fn, ↓imp_tn, ↓imp_fy, ↓imp_ty, ↓reduceIte, Nat.reduceLT, Nat.reduceLeDiff, Nat.reduceAdd, Nat.reduceSub, Nat.reduceMul, Nat.reduceEqDiff, reduceCtorEq, Int.reduceToNat, Int.reduceEq, Int.reduceBEq, Int.reduceBNe, Int.reduceLT, Int.reduceLE, Int.reduceNeg, Int.reduceAdd, Int.reduceSub, Int.reduceMul, Int.reduceGE, Int.reduceGT, Cl.enc, iv, endO, stF]
   rw [wr_succ (by omega)]
   refine ⟨fun _ => ⟨hlt, Nat.le_refl _⟩, fun _ => hlt, fun hb => ?_, fun hb => ?_⟩
   ·have hb : (cntB ck = true ∧ ck.fin ≠ -1) ∧ stN o k = 0 := by simpa using hb
    have e1 : chkE xs o = 121 := chkE_ord hm (pB_f.2 fun ho => by
     have := ho.all k hlt (by rw [hck]; exact hb.1.1) (by rw [hck]; exact hb.1.2)
     have h2 := hb.2
     simp [stN, this] at h2)
    rw [e1, chkM_0 (by rw [e1]; decide)]
    exact retB5 _ _ _ _ _ rdN_nil rdN_nil rdN_nil rdN_nil rdN_nil (lkT_ok _ _ _ _ _ 121)
   ·refine backI ⟨k + 1, by omega, fun j hj h1 h2 => ?_⟩ (by simp only; omega) (le_ren id rfl rfl (by simp [TmpsLe, look, SV.ren, SC.ren, SC.renL, ren1L, ren1, idσ, SV.okN, SC.okN, SC.okL, ok1L]) (by simp [OwnLe, BlkLeO, BlkLe, atN, look, Fm.get, idσ, nil5, SC.renL, SC.ren, SC.okL, SC.okN, stF]) (by simp [ArrsLe, ArrLeO, atN, look, Fm.get, idσ, arrLe_of, arrLe_0]) rfl)
    by_cases e : j = k
    ·subst e
     rw [hck] at h1 h2
     by_cases hin : (j : Int) ∈ o
     ·exact hin
     ·simp [h1, h2, stN, hin] at hb
    ·exact hg2 j (by omega) h1 h2
  ·rw [decide_eq_false_iff_not] at hge
   have hkn : k = xs.length := by omega
   subst hkn
   have hO : IsO xs o := by
    have hg1 := hg
    unfold IsO1 at hg1
    rw [List.take_length] at hg1
    exact ⟨hg1.1, hg1.2, hg2⟩
   have ho := pB_t.2 hO
   have hl := hO.len
   refine loopI (ι := { i : Nat // i ≤ o.length ∧ InT1 xs o i }) (fun i => ⟨136, [(0, .c (.xv (0, 0, 0))), (4, .c (.ptr (2, 0, 0) 0)), (11, .c (.sl (3, 0, 0) 9 0 (lineO xs (o.take i.1)).length none)), (12, .c (.v (.int .i64 (latK xs o i.1)))), (86, .c (.xv (1, 0, 0))), (87, .c (.v (.int .i64 o.length))), (88, .c (.v (.int .i64 (i.1 : Nat))))],
    [(2, .one (.bk nil5 70)), (3, .one (.ar (lineO xs (o.take i.1)).length 9 (ats Cl.enc (lineO xs (o.take i.1)) cl0) 53))], [(0, .one (arrOf Cl.enc 9 xs cl0)), (1, .one (arrOf eI 1 o 0))], [], 4⟩)
    (fun i => o.length - i.1) ⟨0, by omega, fun a b _ hb => by omega⟩ ?_ ?_
   ·refine le_tr (le_nilown (tmps' := [(0, .c (.xv (0, 0, 0))), (4, .c (.ptr (2, 0, 0) 0)), (11, .c (.sl (4, 0, 0) 9 0 0 none)), (12, .c (.v (.int .i64 (-1)))), (86, .c (.xv (1, 0, 0))), (87, .c (.v (.int .i64 o.length))), (88, .c (.v (.int .i64 0)))]) 9 53 (ats Cl.enc [] cl0) (by simp [TmpsNil, look]) rfl) ?_
    exact le_ren (fun i => if i = 3 then 4 else i) rfl rfl (by simp [TmpsLe, look, SV.ren, SC.ren, idσ, SV.okN, SC.okN, lineO, latK]) (by simp [OwnLe, BlkLeO, BlkLe, atN, look, Fm.get, idσ, nil5, SC.renL, SC.ren, SC.okL, SC.okN, lineO]) (by simp [ArrsLe, ArrLeO, atN, look, Fm.get, idσ, arrLe_of, arrLe_0]) rfl
   rintro ⟨i, hi, hgi⟩
   have hll : (lineO xs (o.take i)).length = i := by rw [line_len, List.length_take]; omega
   simp (maxSteps := 2000000) only [go_sem, ↓condS, ↓exitS, ↓gateS, ↓runOp, ↓gateD, ↓runD, ↓imp_ft, ↓imp_tf, ↓imp_tt, ↓imp_ff, ↓imp_fn, ↓imp_tn, ↓imp_fy, ↓imp_ty, ↓reduceIte, Nat.reduceLT, Nat.reduceLeDiff, Nat.reduceAdd, Nat.reduceSub, Nat.reduceMul, Nat.reduceEqDiff, reduceCtorEq, Int.reduceToNat, Int.reduceEq, Int.reduceBEq, Int.reduceBNe, Int.reduceLT, Int.reduceLE, Int.reduceNeg, Int.reduceAdd, Int.reduceSub, Int.reduceMul, Int.reduceGE, Int.reduceGT, Cl.enc, iv, endO, nil5, eI]
   refine both (fun hlt => ?_) (fun hge => ?_)
   ·rw [decide_eq_true_eq] at hlt
    have hlt : i < o.length := by omega
    have hon := hO.ok _ (getD_mem (d := 0) hlt)
    have hfp := fin_pos (mayQ_iff.1 hm) ⟨hon.1, hon.2.1⟩
    have hls := line_succ (xs := xs) hlt
    repeat (with_reducible refine And.intro (by first | (simp only [maxLen]; omega) | omega | decide | (simp; done) | (simp [maxLen]; omega)) ?_)
    change ((if ((cAt xs (o.getD i 0)).fin != -1) = true then decide ((cAt xs (o.getD i 0)).fin < latK xs o i) else false) = true → _) ∧ ((if ((cAt xs (o.getD i 0)).fin != -1) = true then decide ((cAt xs (o.getD i 0)).fin < latK xs o i) else false) = false → _)
    refine both (fun hb => ?_) (fun hb => ?_)
    ·have hb : (cAt xs (o.getD i 0)).fin ≠ -1 ∧ (cAt xs (o.getD i 0)).fin < latK xs o i := by simpa using hb
     have e1 : chkE xs o = 122 := chkE_tim hm ho (pB_f.2 fun ht => by
      rw [inT_iff] at ht
      rcases latK_ex (xs := xs) (o := o) (k := i) with e | ⟨a, h1, h2⟩
      ·have := hfp; omega
      ·have := ht a i h1 hlt
       simp only [aheadB] at this
       rw [if_pos (by simpa using hb.1)] at this
       simp only [decide_eq_false_iff_not] at this
       omega)
     rw [e1, chkM_0 (by rw [e1]; decide)]
     exact retB5 _ _ _ _ _ rdN_nil rdN_nil rdN_nil rdN_nil rdN_nil (lkT_ok _ _ _ _ _ 122)
    ·have hf := fit_app ((lineO xs (o.take i)).length + 1) (by rw [hll]; omega)
     have hml : (lineO xs (o.take i)).length + 1 ≤ maxLen := by rw [hll]; simp only [maxLen]; omega
     refine And.intro ⟨hon.1, hon.2.1⟩ (And.intro (by omega) (And.intro (by omega) (And.intro ⟨hon.1, hon.2.1⟩ (And.intro (by omega) (And.intro (by decide) (And.intro ⟨Nat.le_refl _, hf, hml⟩ ?_))))))
     clear hf hml
     rw [wr_succ (by omega)]
     have hlat : latK xs o (i + 1) = if (cAt xs (o.getD i 0)).beg > latK xs o i then (cAt xs (o.getD i 0)).beg else latK xs o i := rfl
     refine backI ⟨i + 1, by omega, fun a b hab hbi => ?_⟩ (by simp only; omega) (le_ren (fun i => if i = 3 then 6 else i) rfl rfl (by simp [TmpsLe, look, SV.ren, SC.ren, SC.renL, idσ, SV.okN, SC.okN, hlat, hls, cAt]) ⟨⟨of_decide_eq_true rfl, by simp [BlkLeO, BlkLe, atN, look, Fm.get, idσ, nil5, SC.renL, SC.ren, SC.okL, SC.okN]⟩, ⟨of_decide_eq_true rfl, arLe_of (by simp [hls]) (ats_push hls rfl (fun e he => rfl) rfl)⟩, trivial⟩ (by simp [ArrsLe, ArrLeO, atN, look, Fm.get, idσ, arrLe_of, arrLe_0]) rfl)
     by_cases e : b = i
     ·subst e
      simp only [aheadB]
      split
      ·next hne =>
       rw [if_pos (by simpa using hne), decide_eq_false_iff_not] at hb
       have := latK_ge (xs := xs) (o := o) hab
       simp only [decide_eq_false_iff_not]
       omega
      ·rfl
     ·exact hgi a b hab (by omega)
   ·rw [decide_eq_false_iff_not] at hge
    have hin : i = o.length := by omega
    subst hin
    rw [List.take_length]
    have ht := pB_t.2 (inT_iff.2 hgi)
    have hops : ∀ k, k < (lineO xs o).length → objOf ((lineO xs o).getD k cl0).op ≠ 0 := fun k hk => by
     rw [line_len] at hk
     rw [line_at hk]
     have := (hO.ok _ (getD_mem (d := 0) hk)).2.2
     simpa [cntB] using this
    have hpl : ∀ {E : Env} {S : St} {a : Act} {w' : World} {C : Ctx}, Sat C.B C.W C.w0 E S a w' → look S.own 3 = some (.one (.ar (lineO xs o).length 9 (ats Cl.enc (lineO xs o) cl0) 53)) →
     Calls Try.prog 71 #[.agg #[.slice none 0 0, .slice none 0 0, .slice none 0 0, .slice none 0 0, .slice none 0 0], (SC.sl (3, 0, 0) 9 0 (lineO xs o).length none).den E] w' (RetB w' (fun _ => True) 5 (plT (playM mc0 0 (lineO xs o))) (mcR (playM mc0 0 (lineO xs o)).1)) := fun {E S a w' C} hs h5 =>
     play_Z (w := w') (N := xs.length) (cont_0 w') (by simp [MC.upto, mc0]) (by omega) mc0_may (own_at (d := cl0) hs 3 (lineO xs o).length h5 rfl) (by rw [line_len]; exact hl) hops
    have e1 := chkE_pl hm ho ht
    have e2 := chkM_pl hm ho ht
    have hsg := playM_sgn (lineO xs o) mc0 0
    rw [e1, e2]
    generalize playM mc0 0 (lineO xs o) = p at hpl hsg ⊢
    obtain ⟨m', q⟩ := p
    simp only at hsg
    refine callL 5 (plT (m', q)) (mcR m') (mcR_sz m') (fun E a w' hs => by
     have := hpl hs rfl
     show Calls Try.prog _ _ _ _
     simpa [SV.den, SC.den] using this) ?_
    simp (maxSteps := 2000000) only [go_sem, ↓condS, ↓exitS, ↓gateS, ↓runOp, ↓gateD, ↓runD, ↓imp_ft, ↓imp_tf, ↓imp_tt, ↓imp_ff, ↓imp_fn, ↓imp_tn, ↓imp_fy, ↓imp_ty, ↓reduceIte, Nat.reduceLT, Nat.reduceLeDiff, Nat.reduceAdd, Nat.reduceSub, Nat.reduceMul, Nat.reduceEqDiff, reduceCtorEq, Int.reduceToNat, Int.reduceEq, Int.reduceBEq, Int.reduceBNe, Int.reduceLT, Int.reduceLE, Int.reduceNeg, Int.reduceAdd, Int.reduceSub, Int.reduceMul, Int.reduceGE, Int.reduceGT, Cl.enc, iv, endO, plT, mcS, low_mcR, mcA, mkC_B]
    by_cases hq : q = -1
    ·subst hq
     refine both (fun hb => ?_) (fun hb => ?_)
     ·simp at hb
     simp only [plM, if_true]
     exact retB5 _ _ _ _ _ (rdN_lo 4 rfl (Nat.le_refl _)) (rdN_lo 5 rfl (Nat.le_refl _)) (rdN_lo 6 rfl (Nat.le_refl _)) (rdN_lo 7 rfl (Nat.le_refl _)) (rdN_lo 8 rfl (Nat.le_refl _)) (lkT_ok _ _ _ _ _ 0)
    ·refine both (fun hb => ?_) (fun hb => ?_)
     ·simp only [plM, if_neg hq]
      exact retB5 _ _ _ _ _ rdN_nil rdN_nil rdN_nil rdN_nil rdN_nil (lkT_ok _ _ _ _ _ 123)
     ·simp at hb
      omega
def E3 (v0 v1 v2 : Value) : Env := ⟨fun _ => 0, fun _ => 0, fun _ => false, fun x => if x.1 = 2 then v2 else if x.1 = 1 then v1 else v0⟩
set_option maxRecDepth 100000 in
set_option maxHeartbeats 400000 in
theorem check_calls (w : World) (v v' : Value) (xs : List Cl) (o : List Int) (hsz : xs.length * 72 ≤ 140737488355328) (h : Arr w Cl.enc 9 v xs) (h' : Arr w eI 1 v' o) : Calls Try.prog 35 #[v, v'] w (RetV w (.int .i64 (chkE xs o))) := by
 refine enter2 (A := []) (c := ir35) (rs := rs35) (nt := nt35) cl0 cl_ok h 0 eI_ok h' [.c (.xv (0, 0, 0)), .c (.xv (1, 0, 0))] _ Try.func35 rfl (by kernel_rfl) (by kernel_rfl) rfl (fun E' h0 h1 => by simp [SV.den, SC.den, h0, h1]) (of_decide_eq_true rfl) ?_
 simp (maxSteps := 2000000) only [ir35, nt35, rs35, go_sem, ↓condS, ↓exitS, ↓gateS, ↓runOp, ↓gateD, ↓runD, ↓imp_ft, ↓imp_tf, ↓imp_tt, ↓imp_ff, ↓imp_fn, ↓imp_tn, ↓imp_fy, ↓imp_ty, ↓reduceIte, Nat.reduceLT, Nat.reduceLeDiff, Nat.reduceAdd, Nat.reduceSub, Nat.reduceMul, Nat.reduceEqDiff, reduceCtorEq, Int.reduceToNat, Int.reduceEq, Int.reduceBEq, Int.reduceBNe, Int.reduceLT, Int.reduceLE, Int.reduceNeg, Int.reduceAdd, Int.reduceSub, Int.reduceMul, Int.reduceGE, Int.reduceGT, Cl.enc, iv, endO]
 refine callB 5 (lkT (chkE xs o)) (mcR (chkM xs o)) (fun E a w' hs => look_calls w' _ _ xs o hsz (arr_at (d := cl0) hs 0 rfl) (arr_at (d := 0) hs 1 rfl)) ?_
 simp (maxSteps := 2000000) only [go_sem, ↓condS, ↓exitS, ↓gateS, ↓runOp, ↓gateD, ↓runD, ↓imp_ft, ↓imp_tf, ↓imp_tt, ↓imp_ff, ↓imp_fn, ↓imp_tn, ↓imp_fy, ↓imp_ty, ↓reduceIte, Nat.reduceLT, Nat.reduceLeDiff, Nat.reduceAdd, Nat.reduceSub, Nat.reduceMul, Nat.reduceEqDiff, reduceCtorEq, Int.reduceToNat, Int.reduceEq, Int.reduceBEq, Int.reduceBNe, Int.reduceLT, Int.reduceLE, Int.reduceNeg, Int.reduceAdd, Int.reduceSub, Int.reduceMul, Int.reduceGE, Int.reduceGT, Cl.enc, iv, endO, lkT, mcS, mcR, mcA]
 exact retV fun E => by rw [den_c, den_v]
end Go.Proofs.Ytkjeedlkkpgopaa.Z
namespace Go.Proofs.Ytkjeedlkkpgopaa.Z
open Go Go.RowKit
theorem objL (op : Int) (w : World) : Calls Try.prog 33 #[.int .i64 op] w (RetV w (.int .i64 (objOf op))) := (lObject op w).mono fun e w' h => ⟨h.1, h.2 ▸ Below.refl _ _⟩
def ir31 : IR := (.seq (.ops [⟨(some 2), (.mv (.k (.c (.v (.bool false))))), none⟩]) (.kill [1, 2, 3, 4, 5, 6, 7, 8, 9, 10, 11] (.seq (.ops [⟨(some 3), (.mv (.k (.c (.v (.int .i64 0))))), none⟩]) (.seq (.seq (.ops [⟨(some 4), (.mv (.k (.c (.v (.int .i64 0))))), none⟩]) (.blk 0 (.loop (.seq (.seq (.ops [⟨(some 5), (.mv (.t 4)), none⟩, ⟨(some 6), (.mv (.t 0)), none⟩, ⟨(some 7), (.len (.t 6)), none⟩, ⟨(some 8), (.bin .lss (.t 5) (.t 7)), none⟩]) (.kill [5, 6, 7, 9, 10, 11, 12, 13, 14, 15, 16, 17, 18, 19] (.cond (.t 8) .skip (.exit 0)))) (.kill [8] (.seq (.blk 1 (.seq (.ops [⟨(some 11), (.mv (.t 0)), none⟩, ⟨(some 12), (.mv (.t 4)), none⟩, ⟨(some 13), (.ia 9 (.t 11) (.t 12)), none⟩, ⟨(some 14), (.fa 1 (.t 13)), none⟩, ⟨(some 15), (.ld false 1 (.t 14)), none⟩, ⟨(some 16), (.call 33 [(.t 15)]), none⟩, ⟨(some 17), (.bin .neq (.t 16) (.k (.c (.v (.int .i64 0))))), none⟩]) (.kill [11, 12, 13, 14, 15, 16] (.cond (.t 17) (.ops [⟨(some 18), (.mv (.t 3)), none⟩, ⟨(some 19), (.bin .add (.t 18) (.k (.c (.v (.int .i64 1))))), none⟩, ⟨(some 3), (.mv (.t 19)), none⟩]) .skip)))) (.kill [11, 12, 13, 14, 15, 16, 17, 18, 19] (.ops [⟨(some 9), (.mv (.t 4)), none⟩, ⟨(some 10), (.bin .add (.t 9) (.k (.c (.v (.int .i64 1))))), none⟩, ⟨(some 4), (.mv (.t 10)), none⟩])))))))) (.kill [4, 5, 6, 7, 8, 9, 10, 11, 12, 13, 14, 15, 16, 17, 18, 19] (.seq (.ops [⟨(some 20), (.mv (.t 3)), none⟩, ⟨(some 21), (.bin .leq (.t 20) (.k (.c (.v (.int .i64 8))))), none⟩, ⟨(some 22), (.mv (.t 21)), none⟩, ⟨(some 23), (.mv (.t 0)), (some (22, true))⟩, ⟨(some 24), (.call 16 [(.t 23)]), (some (22, true))⟩, ⟨(some 25), (.pick (.t 22) (.t 24) (.k (.c (.v (.bool false))))), none⟩, ⟨(some 2), (.mv (.t 25)), none⟩]) (.kill [0, 3, 20, 21, 22, 23, 24, 25] .ret)))))))
def rs31 : List RS := [(.t 2)]
def nt31 : Nat := 26
def ir32 : IR := (.seq (.ops [⟨(some 2), (.mv (.k (.c (.v (.bool false))))), none⟩, ⟨(some 3), (.mv (.k (.c (.v (.bool false))))), none⟩]) (.kill [1, 2, 3, 4, 5, 6, 7, 8, 9, 10, 11] (.seq (.ops [⟨(some 9), (.mv (.t 0)), none⟩, ⟨(some 10), (.call 26 [(.t 9)]), none⟩, ⟨(some 8), (.mv (.t 10)), none⟩, ⟨(some 11), (.ext 0 (.t 8)), none⟩, ⟨(some 12), (.ext 1 (.t 8)), none⟩, ⟨(some 4), (.mv (.t 11)), none⟩, ⟨(some 5), (.mv (.t 12)), none⟩]) (.kill [8, 9, 10, 11, 12] (.seq (.ops [⟨(some 14), (.mv (.t 0)), none⟩, ⟨(some 15), (.call 28 [(.t 14)]), none⟩, ⟨(some 13), (.mv (.t 15)), none⟩, ⟨(some 16), (.ext 0 (.t 13)), none⟩, ⟨(some 17), (.ext 1 (.t 13)), none⟩, ⟨(some 6), (.mv (.t 16)), none⟩, ⟨(some 7), (.mv (.t 17)), none⟩]) (.kill [13, 14, 15, 16, 17] (.seq (.seq (.ops [⟨(some 18), (.mv (.t 7)), none⟩, ⟨(some 19), (.call 21 [(.t 18)]), none⟩, ⟨(some 20), (.bin .neq (.t 19) (.k (.c (.v (.int .i64 0))))), none⟩, ⟨(some 21), (.mv (.t 20)), none⟩, ⟨(some 22), (.mv (.t 5)), (some (21, false))⟩, ⟨(some 23), (.call 21 [(.t 22)]), (some (21, false))⟩, ⟨(some 24), (.bin .neq (.t 23) (.k (.c (.v (.int .i64 0))))), (some (21, false))⟩, ⟨(some 25), (.mv (.t 24)), (some (21, false))⟩, ⟨(some 26), (.mv (.t 5)), (some (25, true))⟩, ⟨(some 27), (.call 21 [(.t 26)]), (some (25, true))⟩, ⟨(some 28), (.bin .neq (.t 27) (.k (.c (.v (.int .i64 124))))), (some (25, true))⟩, ⟨(some 29), (.pick (.t 25) (.t 28) (.k (.c (.v (.bool false))))), (some (21, false))⟩, ⟨(some 30), (.pick (.t 21) (.k (.c (.v (.bool true)))) (.t 29)), none⟩]) (.kill [7, 18, 19, 20, 21, 22, 23, 24, 25, 26, 27, 28, 29] (.cond (.t 30) (.seq (.ops [⟨(some 2), (.mv (.k (.c (.v (.bool false))))), none⟩, ⟨(some 3), (.mv (.k (.c (.v (.bool false))))), none⟩]) (.kill [0, 4, 5, 6, 30] .ret)) .skip))) (.kill [2, 3, 30] (.seq (.seq (.ops [⟨(some 31), (.mv (.t 5)), none⟩, ⟨(some 32), (.call 21 [(.t 31)]), none⟩, ⟨(some 33), (.bin .eql (.t 32) (.k (.c (.v (.int .i64 124))))), none⟩]) (.kill [5, 31, 32] (.cond (.t 33) (.seq (.ops [⟨(some 34), (.mv (.t 6)), none⟩, ⟨(some 35), (.bin .eql (.t 34) (.k (.c (.v (.int .i64 0))))), none⟩, ⟨(some 36), (.mv (.t 35)), none⟩, ⟨(some 37), (.mv (.t 4)), (some (36, true))⟩, ⟨(some 38), (.len (.t 37)), (some (36, true))⟩, ⟨(some 39), (.bin .eql (.t 38) (.k (.c (.v (.int .i64 0))))), (some (36, true))⟩, ⟨(some 40), (.pick (.t 36) (.t 39) (.k (.c (.v (.bool false))))), none⟩, ⟨(some 2), (.mv (.k (.c (.v (.bool false))))), none⟩, ⟨(some 3), (.mv (.t 40)), none⟩]) (.kill [0, 4, 6, 33, 34, 35, 36, 37, 38, 39, 40] .ret)) .skip))) (.kill [2, 3, 33] (.seq (.ops [⟨(some 41), (.mv (.t 6)), none⟩, ⟨(some 42), (.bin .geq (.t 41) (.k (.c (.v (.int .i64 1))))), none⟩, ⟨(some 43), (.mv (.t 42)), none⟩, ⟨(some 44), (.mv (.t 0)), (some (43, true))⟩, ⟨(some 45), (.mv (.t 4)), (some (43, true))⟩, ⟨(some 46), (.call 35 [(.t 44), (.t 45)]), (some (43, true))⟩, ⟨(some 47), (.call 21 [(.t 46)]), (some (43, true))⟩, ⟨(some 48), (.bin .eql (.t 47) (.k (.c (.v (.int .i64 0))))), (some (43, true))⟩, ⟨(some 49), (.pick (.t 43) (.t 48) (.k (.c (.v (.bool false))))), none⟩, ⟨(some 2), (.mv (.k (.c (.v (.bool true))))), none⟩, ⟨(some 3), (.mv (.t 49)), none⟩]) (.kill [0, 4, 6, 41, 42, 43, 44, 45, 46, 47, 48, 49] .ret))))))))))))
def rs32 : List RS := [(.t 2), (.t 3)]
def nt32 : Nat := 50
set_option maxRecDepth 100000 in
set_option maxHeartbeats 400000 in
theorem searched_calls (w : World) (v : Value) (xs : List Cl) (hsz : xs.length * 72 ≤ 140737488355328) (h : Arr w Cl.enc 9 v xs) : Calls Try.prog 31 #[v] w (RetV w (.bool (decide (nsE xs = 0)))) := by
 refine enter1 (A := []) (c := ir31) (rs := rs31) (nt := nt31) cl0 cl_ok h [.c (.xv (0, 0, 0))] _ Try.func31 rfl (by kernel_rfl) (by kernel_rfl) rfl (fun E' h0 => by simp [SV.den, SC.den, h0]) (of_decide_eq_true rfl) ?_
 simp (maxSteps := 2000000) only [ir31, nt31, rs31, go_sem, ↓condS, ↓exitS, ↓gateS, ↓runOp, ↓gateD, ↓runD, ↓imp_ft, ↓imp_tf, ↓imp_tt, ↓imp_ff, ↓imp_fn, ↓imp_tn, ↓imp_fy, ↓imp_ty, ↓reduceIte, Nat.reduceLT, Nat.reduceLeDiff, Nat.reduceAdd, Nat.reduceSub, Nat.reduceMul, Nat.reduceEqDiff, reduceCtorEq, Int.reduceToNat, Int.reduceEq, Int.reduceBEq, Int.reduceBNe, Int.reduceLT, Int.reduceLE, Int.reduceNeg, Int.reduceAdd, Int.reduceSub, Int.reduceMul, Int.reduceGE, Int.reduceGT, Cl.enc, iv, endO]
 refine loopI (ι := { i : Nat // i ≤ xs.length }) (fun i => ⟨26, [(0, .c (.xv (0, 0, 0))), (3, .c (.v (.int .i64 (cidx xs i.1).length))), (4, .c (.v (.int .i64 (i.1 : Nat))))], [], [(0, .one (arrOf Cl.enc 9 xs cl0))], [], 1⟩)
  (fun i => xs.length - i.1) ⟨0, by omega⟩ (le_ren id rfl rfl (by simp [TmpsLe, look, SV.ren, SC.ren, idσ, SV.okN, SC.okN, cidx]) (by simp [OwnLe]) (by simp [ArrsLe, ArrLeO, atN, look, Fm.get, idσ, arrLe_of, arrLe_0]) rfl) ?_
 rintro ⟨i, hi⟩
 simp (maxSteps := 2000000) only [go_sem, ↓condS, ↓exitS, ↓gateS, ↓runOp, ↓gateD, ↓runD, ↓imp_ft, ↓imp_tf, ↓imp_tt, ↓imp_ff, ↓imp_fn, ↓imp_tn, ↓imp_fy, ↓imp_ty, ↓reduceIte, Nat.reduceLT, Nat.reduceLeDiff, Nat.reduceAdd, Nat.reduceSub, Nat.reduceMul, Nat.reduceEqDiff, reduceCtorEq, Int.reduceToNat, Int.reduceEq, Int.reduceBEq, Int.reduceBNe, Int.reduceLT, Int.reduceLE, Int.reduceNeg, Int.reduceAdd, Int.reduceSub, Int.reduceMul, Int.reduceGE, Int.reduceGT, Cl.enc, iv, endO]
 refine both (fun hlt => ?_) (fun hge => ?_)
 ·rw [decide_eq_true_eq] at hlt
  have hlt : i < xs.length := by omega
  have hcl := cidx_len xs i
  have hcs := cidx_succ xs i
  generalize hci : xs.getD i cl0 = ci at hcs
  refine And.intro (by omega) (And.intro (by omega) (And.intro (by omega) ?_))
  refine callV (.c (.v (.int .i64 (objOf ci.op)))) _ (fun E => rfl) (fun E a w' hs => objL ci.op w') ?_
  simp (maxSteps := 2000000) only [go_sem, ↓condS, ↓exitS, ↓gateS, ↓runOp, ↓gateD, ↓runD, ↓imp_ft, ↓imp_tf, ↓imp_tt, ↓imp_ff, ↓imp_fn, ↓imp_tn, ↓imp_fy, ↓imp_ty, ↓reduceIte, Nat.reduceLT, Nat.reduceLeDiff, Nat.reduceAdd, Nat.reduceSub, Nat.reduceMul, Nat.reduceEqDiff, reduceCtorEq, Int.reduceToNat, Int.reduceEq, Int.reduceBEq, Int.reduceBNe, Int.reduceLT, Int.reduceLE, Int.reduceNeg, Int.reduceAdd, Int.reduceSub, Int.reduceMul, Int.reduceGE, Int.reduceGT, Cl.enc, iv, endO]
  rw [wr_succ (by omega), wr_succ (by omega)]
  refine both (fun hb => ?_) (fun hb => ?_)
  ·have e : (cidx xs (i + 1)).length = (cidx xs i).length + 1 := by rw [hcs, if_pos (show cntB ci = true from hb)]; simp
   exact backI ⟨i + 1, by omega⟩ (by simp only; omega) (le_ren id rfl rfl (by simp [TmpsLe, look, SV.ren, SC.ren, idσ, SV.okN, SC.okN, e]) (by simp [OwnLe]) (by simp [ArrsLe, ArrLeO, atN, look, Fm.get, idσ, arrLe_of, arrLe_0]) rfl)
  ·have e : (cidx xs (i + 1)).length = (cidx xs i).length := by rw [hcs, if_neg (by rw [show cntB ci = false from hb]; simp)]
   exact backI ⟨i + 1, by omega⟩ (by simp only; omega) (le_ren id rfl rfl (by simp [TmpsLe, look, SV.ren, SC.ren, idσ, SV.okN, SC.okN, e]) (by simp [OwnLe]) (by simp [ArrsLe, ArrLeO, atN, look, Fm.get, idσ, arrLe_of, arrLe_0]) rfl)
 ·rw [decide_eq_false_iff_not] at hge
  have hin : i = xs.length := by omega
  subst hin
  refine guardW (.c (.bo (mayQ xs))) _ (fun E => rfl) (fun E a w' hs => mayR w' _ xs hsz (arr_at (d := cl0) hs 0 rfl)) ?_
  simp (maxSteps := 2000000) only [go_sem, ↓condS, ↓exitS, ↓gateS, ↓runOp, ↓gateD, ↓runD, ↓imp_ft, ↓imp_tf, ↓imp_tt, ↓imp_ff, ↓imp_fn, ↓imp_tn, ↓imp_fy, ↓imp_ty, ↓reduceIte, Nat.reduceLT, Nat.reduceLeDiff, Nat.reduceAdd, Nat.reduceSub, Nat.reduceMul, Nat.reduceEqDiff, reduceCtorEq, Int.reduceToNat, Int.reduceEq, Int.reduceBEq, Int.reduceBNe, Int.reduceLT, Int.reduceLE, Int.reduceNeg, Int.reduceAdd, Int.reduceSub, Int.reduceMul, Int.reduceGE, Int.reduceGT, Cl.enc, iv, endO]
  refine retV fun E => ?_
  simp only [SV.den, SC.den]
  congr 1
  unfold nsE
  by_cases e : mayQ xs = true
  ·rw [if_pos e]
   by_cases e2 : (cidx xs xs.length).length ≤ 8
   ·rw [if_pos e2]; simp [e]; omega
   ·rw [if_neg e2]; simp [e]; omega
  ·rw [if_neg e]; simp [e]
set_option maxRecDepth 100000 in
set_option maxHeartbeats 400000 in
theorem found_calls (w : World) (v : Value) (xs : List Cl) (hsz : xs.length * 72 ≤ 140737488355328) (he : nsE xs = 0) (h : Arr w Cl.enc 9 v xs) : Calls Try.prog 32 #[v] w (RetV w (.tuple #[.bool (decide (findE xs = 0)), .bool true])) := by
 refine enter1 (A := []) (c := ir32) (rs := rs32) (nt := nt32) cl0 cl_ok h [.c (.xv (0, 0, 0))] _ Try.func32 rfl (by kernel_rfl) (by kernel_rfl) rfl (fun E' h0 => by simp [SV.den, SC.den, h0]) (of_decide_eq_true rfl) ?_
 simp (maxSteps := 2000000) only [ir32, nt32, rs32, go_sem, ↓condS, ↓exitS, ↓gateS, ↓runOp, ↓gateD, ↓runD, ↓imp_ft, ↓imp_tf, ↓imp_tt, ↓imp_ff, ↓imp_fn, ↓imp_tn, ↓imp_fy, ↓imp_ty, ↓reduceIte, Nat.reduceLT, Nat.reduceLeDiff, Nat.reduceAdd, Nat.reduceSub, Nat.reduceMul, Nat.reduceEqDiff, reduceCtorEq, Int.reduceToNat, Int.reduceEq, Int.reduceBEq, Int.reduceBNe, Int.reduceLT, Int.reduceLE, Int.reduceNeg, Int.reduceAdd, Int.reduceSub, Int.reduceMul, Int.reduceGE, Int.reduceGT, Cl.enc, iv, endO]
 refine call_nid 6 (by decide) ?_
 refine callN 1 (leT 1 (findL xs).length (findE xs)) (lsO 3 1 eI (findL xs) 0) (fun E a w' hs => find_calls w' _ xs hsz (arr_at (d := cl0) hs 0 rfl)) ?_
 simp (maxSteps := 2000000) only [go_sem, ↓condS, ↓exitS, ↓gateS, ↓runOp, ↓gateD, ↓runD, ↓imp_ft, ↓imp_tf, ↓imp_tt, ↓imp_ff, ↓imp_fn, ↓imp_tn, ↓imp_fy, ↓imp_ty, ↓reduceIte, Nat.reduceLT, Nat.reduceLeDiff, Nat.reduceAdd, Nat.reduceSub, Nat.reduceMul, Nat.reduceEqDiff, reduceCtorEq, Int.reduceToNat, Int.reduceEq, Int.reduceBEq, Int.reduceBNe, Int.reduceLT, Int.reduceLE, Int.reduceNeg, Int.reduceAdd, Int.reduceSub, Int.reduceMul, Int.reduceGE, Int.reduceGT, Cl.enc, iv, endO, leT, lsO]
 refine callV (.tup [(false, [.v (.int .i64 (cntW xs))]), (false, [.v (.int .i64 (nsE xs))])]) _ (fun E => rfl) (fun E a w' hs => countW_calls w' _ xs hsz (arr_at (d := cl0) hs 0 rfl)) ?_
 simp (maxSteps := 2000000) only [go_sem, ↓condS, ↓exitS, ↓gateS, ↓runOp, ↓gateD, ↓runD, ↓imp_ft, ↓imp_tf, ↓imp_tt, ↓imp_ff, ↓imp_fn, ↓imp_tn, ↓imp_fy, ↓imp_ty, ↓reduceIte, Nat.reduceLT, Nat.reduceLeDiff, Nat.reduceAdd, Nat.reduceSub, Nat.reduceMul, Nat.reduceEqDiff, reduceCtorEq, Int.reduceToNat, Int.reduceEq, Int.reduceBEq, Int.reduceBNe, Int.reduceLT, Int.reduceLE, Int.reduceNeg, Int.reduceAdd, Int.reduceSub, Int.reduceMul, Int.reduceGE, Int.reduceGT, Cl.enc, iv, endO]
 refine callV (.c (.v (.int .i64 (nsE xs)))) _ (fun E => rfl) (fun E a w' hs => num_calls w' _) ?_
 simp (maxSteps := 2000000) only [go_sem, ↓condS, ↓exitS, ↓gateS, ↓runOp, ↓gateD, ↓runD, ↓imp_ft, ↓imp_tf, ↓imp_tt, ↓imp_ff, ↓imp_fn, ↓imp_tn, ↓imp_fy, ↓imp_ty, ↓reduceIte, Nat.reduceLT, Nat.reduceLeDiff, Nat.reduceAdd, Nat.reduceSub, Nat.reduceMul, Nat.reduceEqDiff, reduceCtorEq, Int.reduceToNat, Int.reduceEq, Int.reduceBEq, Int.reduceBNe, Int.reduceLT, Int.reduceLE, Int.reduceNeg, Int.reduceAdd, Int.reduceSub, Int.reduceMul, Int.reduceGE, Int.reduceGT, Cl.enc, iv, endO, he]
 refine guardW (.c (.v (.int .i64 (findE xs)))) _ (fun E => rfl) (fun E a w' hs => num_calls w' _) ?_
 by_cases hf : findE xs = 0
 ·rw [hf]
  obtain ⟨hk, hn⟩ := find_chk he hf
  have hc : cntW xs = ((allY xs).length : Nat) := by unfold cntW; rw [if_pos he]
  simp (maxSteps := 2000000) only [go_sem, ↓condS, ↓exitS, ↓gateS, ↓runOp, ↓gateD, ↓runD, ↓imp_ft, ↓imp_tf, ↓imp_tt, ↓imp_ff, ↓imp_fn, ↓imp_tn, ↓imp_fy, ↓imp_ty, ↓reduceIte, Nat.reduceLT, Nat.reduceLeDiff, Nat.reduceAdd, Nat.reduceSub, Nat.reduceMul, Nat.reduceEqDiff, reduceCtorEq, Int.reduceToNat, Int.reduceEq, Int.reduceBEq, Int.reduceBNe, Int.reduceLT, Int.reduceLE, Int.reduceNeg, Int.reduceAdd, Int.reduceSub, Int.reduceMul, Int.reduceGE, Int.reduceGT, Cl.enc, iv, endO]
  refine guardW (.c (.v (.int .i64 0))) _ (fun E => rfl) (fun E a w' hs => num_calls w' _) ?_
  simp (maxSteps := 2000000) only [go_sem, ↓condS, ↓exitS, ↓gateS, ↓runOp, ↓gateD, ↓runD, ↓imp_ft, ↓imp_tf, ↓imp_tt, ↓imp_ff, ↓imp_fn, ↓imp_tn, ↓imp_fy, ↓imp_ty, ↓reduceIte, Nat.reduceLT, Nat.reduceLeDiff, Nat.reduceAdd, Nat.reduceSub, Nat.reduceMul, Nat.reduceEqDiff, reduceCtorEq, Int.reduceToNat, Int.reduceEq, Int.reduceBEq, Int.reduceBNe, Int.reduceLT, Int.reduceLE, Int.reduceNeg, Int.reduceAdd, Int.reduceSub, Int.reduceMul, Int.reduceGE, Int.reduceGT, Cl.enc, iv, endO]
  refine callV (.c (.v (.int .i64 0))) _ (fun E => rfl) (fun E a w' hs => num_calls w' _) ?_
  simp (maxSteps := 2000000) only [go_sem, ↓condS, ↓exitS, ↓gateS, ↓runOp, ↓gateD, ↓runD, ↓imp_ft, ↓imp_tf, ↓imp_tt, ↓imp_ff, ↓imp_fn, ↓imp_tn, ↓imp_fy, ↓imp_ty, ↓reduceIte, Nat.reduceLT, Nat.reduceLeDiff, Nat.reduceAdd, Nat.reduceSub, Nat.reduceMul, Nat.reduceEqDiff, reduceCtorEq, Int.reduceToNat, Int.reduceEq, Int.reduceBEq, Int.reduceBNe, Int.reduceLT, Int.reduceLE, Int.reduceNeg, Int.reduceAdd, Int.reduceSub, Int.reduceMul, Int.reduceGE, Int.reduceGT, Cl.enc, iv, endO]
  refine guardW (.c (.v (.int .i64 (chkE xs (findL xs))))) _ (fun E => rfl) (fun E a w' hs => check_calls w' _ _ xs (findL xs) hsz (arr_at (d := cl0) hs 0 rfl) (own_at (d := 0) hs 6 _ rfl rfl)) ?_
  rw [hk]
  simp (maxSteps := 2000000) only [go_sem, ↓condS, ↓exitS, ↓gateS, ↓runOp, ↓gateD, ↓runD, ↓imp_ft, ↓imp_tf, ↓imp_tt, ↓imp_ff, ↓imp_fn, ↓imp_tn, ↓imp_fy, ↓imp_ty, ↓reduceIte, Nat.reduceLT, Nat.reduceLeDiff, Nat.reduceAdd, Nat.reduceSub, Nat.reduceMul, Nat.reduceEqDiff, reduceCtorEq, Int.reduceToNat, Int.reduceEq, Int.reduceBEq, Int.reduceBNe, Int.reduceLT, Int.reduceLE, Int.reduceNeg, Int.reduceAdd, Int.reduceSub, Int.reduceMul, Int.reduceGE, Int.reduceGT, Cl.enc, iv, endO]
  refine guardW (.c (.v (.int .i64 0))) _ (fun E => rfl) (fun E a w' hs => num_calls w' _) ?_
  simp (maxSteps := 2000000) only [go_sem, ↓condS, ↓exitS, ↓gateS, ↓runOp, ↓gateD, ↓runD, ↓imp_ft, ↓imp_tf, ↓imp_tt, ↓imp_ff, ↓imp_fn, ↓imp_tn, ↓imp_fy, ↓imp_ty, ↓reduceIte, Nat.reduceLT, Nat.reduceLeDiff, Nat.reduceAdd, Nat.reduceSub, Nat.reduceMul, Nat.reduceEqDiff, reduceCtorEq, Int.reduceToNat, Int.reduceEq, Int.reduceBEq, Int.reduceBNe, Int.reduceLT, Int.reduceLE, Int.reduceNeg, Int.reduceAdd, Int.reduceSub, Int.reduceMul, Int.reduceGE, Int.reduceGT, Cl.enc, iv, endO]
  refine retV fun E => ?_
  have : decide (cntW xs ≥ 1) = true := by rw [hc]; simp; omega
  simp [SV.den, SC.den, den1, this]
 ·obtain ⟨g1, g2, g3⟩ := find_no he hf
  have hc : cntW xs = 0 := by unfold cntW; rw [if_pos he, g3]; rfl
  rw [g1, g2, hc]
  simp (maxSteps := 2000000) only [go_sem, ↓condS, ↓exitS, ↓gateS, ↓runOp, ↓gateD, ↓runD, ↓imp_ft, ↓imp_tf, ↓imp_tt, ↓imp_ff, ↓imp_fn, ↓imp_tn, ↓imp_fy, ↓imp_ty, ↓reduceIte, Nat.reduceLT, Nat.reduceLeDiff, Nat.reduceAdd, Nat.reduceSub, Nat.reduceMul, Nat.reduceEqDiff, reduceCtorEq, Int.reduceToNat, Int.reduceEq, Int.reduceBEq, Int.reduceBNe, Int.reduceLT, Int.reduceLE, Int.reduceNeg, Int.reduceAdd, Int.reduceSub, Int.reduceMul, Int.reduceGE, Int.reduceGT, Cl.enc, iv, endO]
  refine guardW (.c (.v (.int .i64 124))) _ (fun E => rfl) (fun E a w' hs => num_calls w' _) ?_
  simp (maxSteps := 2000000) only [go_sem, ↓condS, ↓exitS, ↓gateS, ↓runOp, ↓gateD, ↓runD, ↓imp_ft, ↓imp_tf, ↓imp_tt, ↓imp_ff, ↓imp_fn, ↓imp_tn, ↓imp_fy, ↓imp_ty, ↓reduceIte, Nat.reduceLT, Nat.reduceLeDiff, Nat.reduceAdd, Nat.reduceSub, Nat.reduceMul, Nat.reduceEqDiff, reduceCtorEq, Int.reduceToNat, Int.reduceEq, Int.reduceBEq, Int.reduceBNe, Int.reduceLT, Int.reduceLE, Int.reduceNeg, Int.reduceAdd, Int.reduceSub, Int.reduceMul, Int.reduceGE, Int.reduceGT, Cl.enc, iv, endO]
  refine callV (.c (.v (.int .i64 124))) _ (fun E => rfl) (fun E a w' hs => num_calls w' _) ?_
  simp (maxSteps := 2000000) only [go_sem, ↓condS, ↓exitS, ↓gateS, ↓runOp, ↓gateD, ↓runD, ↓imp_ft, ↓imp_tf, ↓imp_tt, ↓imp_ff, ↓imp_fn, ↓imp_tn, ↓imp_fy, ↓imp_ty, ↓reduceIte, Nat.reduceLT, Nat.reduceLeDiff, Nat.reduceAdd, Nat.reduceSub, Nat.reduceMul, Nat.reduceEqDiff, reduceCtorEq, Int.reduceToNat, Int.reduceEq, Int.reduceBEq, Int.reduceBNe, Int.reduceLT, Int.reduceLE, Int.reduceNeg, Int.reduceAdd, Int.reduceSub, Int.reduceMul, Int.reduceGE, Int.reduceGT, Cl.enc, iv, endO]
  refine retV fun E => ?_
  simp [SV.den, SC.den, den1]
end Go.Proofs.Ytkjeedlkkpgopaa.Z
namespace Go.Proofs.Ytkjeedlkkpgopaa.Z
open Go Go.RowKit
def L3 : List Cl := [⟨0, 30, 1, 0, 0, 9, 8, 1, 0⟩, ⟨1, 31, 0, 0, 1, 3, 2, 3, 0⟩, ⟨1, 31, 0, 0, 10, 14, 12, 2, 1⟩]
theorem l3_lt {P : Nat → Prop} (h0 : P 0) (h1 : P 1) (h2 : P 2) : ∀ k, k < 3 → P k
 | 0, _ => h0
 | 1, _ => h1
 | 2, _ => h2
theorem l3_may : mayP L3 := by
 refine ⟨⟨?_, ?_, ?_⟩, ?_⟩
 ·exact l3_lt (by decide) (by decide) (by decide)
 ·intro k hk
  have hk : k + 1 < 3 := hk
  match k, hk with
  | 0, _ => decide
  | 1, _ => decide
 ·intro j k hj hk
  have hk : k < 3 := hk
  have : (j = 0 ∧ k = 1) ∨ (j = 0 ∧ k = 2) ∨ (j = 1 ∧ k = 2) := by omega
  rcases this with ⟨rfl, rfl⟩ | ⟨rfl, rfl⟩ | ⟨rfl, rfl⟩ <;> decide
 ·intro j k hj hk t ht
  have hk : k < 3 := hk
  have : (j = 0 ∧ k = 1) ∨ (j = 0 ∧ k = 2) ∨ (j = 1 ∧ k = 2) := by omega
  rcases this with ⟨rfl, rfl⟩ | ⟨rfl, rfl⟩ | ⟨rfl, rfl⟩ <;> simp [L3, Cl.moves] <;> omega
theorem l3_nm : nmA L3 = [0, 1, 2] := by decide
theorem l3_cy : cyA L3 = L3 := by decide
theorem l3_ns : nsE L3 = 0 := by
 unfold nsE
 rw [if_pos (mayQ_iff.2 l3_may), show cidx L3 L3.length = [0, 1, 2] from l3_nm]
 rfl
theorem l3_all : allY L3 = [[1, 0, 2]] := by
 unfold allY
 rw [l3_cy]
 decide
theorem l3_find : findE L3 = 0 ∧ findL L3 = [1, 0, 2] ∧ cntW L3 = 1 := by
 unfold findE findL cntW nmL
 rw [if_pos l3_ns, if_pos l3_ns, if_pos l3_ns, l3_all, l3_nm]
 exact ⟨rfl, rfl, rfl⟩
theorem l3_chk : chkE L3 [1, 0, 2] = 0 := by
 have := (find_chk l3_ns l3_find.1).1
 rwa [l3_find.2.1] at this
theorem l3_no : chkE L3 [0, 1, 2] = 123 := by
 unfold chkE
 have h1 : IsO L3 [0, 1, 2] := ⟨by decide, by decide, fun i hi _ _ => l3_lt (P := fun i => (i : Int) ∈ [0, 1, 2]) (by decide) (by decide) (by decide) i hi⟩
 have h2 : InT L3 [0, 1, 2] := by unfold InT; decide
 rw [if_pos (pB_t.2 l3_may), if_pos (pB_t.2 h1), if_pos (pB_t.2 h2), if_neg (by decide)]
end Go.Proofs.Ytkjeedlkkpgopaa.Z
namespace Go.Proofs.Ytkjeedlkkpgopaa.Z
open Go Go.RowKit
def ir30 : IR := (.seq (.ops [⟨(some 0), (.mv (.k (.c (.v (.bool false))))), none⟩]) (.kill [0, 1, 2, 3, 4, 5, 6, 7, 8, 9, 10, 11] (.seq (.ops [⟨(some 6), (.build [(.v (.int .i64 0)), (.v (.int .i64 0))] [(0, (1, (.k (.c (.v (.int .i64 1))))))]), none⟩, ⟨(some 7), (.build [(.v (.int .i64 0)), (.v (.int .i64 0)), (.v (.int .i64 0)), (.v (.int .i64 0)), (.v (.int .i64 0)), (.v (.int .i64 0)), (.v (.int .i64 0)), (.v (.int .i64 0)), (.v (.int .i64 0))] [(0, (1, (.k (.c (.v (.int .i64 0)))))), (1, (1, (.k (.c (.v (.int .i64 30)))))), (2, (1, (.k (.c (.v (.int .i64 1)))))), (4, (1, (.k (.c (.v (.int .i64 0)))))), (5, (1, (.k (.c (.v (.int .i64 9)))))), (6, (1, (.k (.c (.v (.int .i64 8)))))), (7, (2, (.t 6)))]), none⟩, ⟨(some 8), (.build [(.v (.int .i64 0)), (.v (.int .i64 0))] [(0, (1, (.k (.c (.v (.int .i64 3))))))]), none⟩, ⟨(some 9), (.build [(.v (.int .i64 0)), (.v (.int .i64 0)), (.v (.int .i64 0)), (.v (.int .i64 0)), (.v (.int .i64 0)), (.v (.int .i64 0)), (.v (.int .i64 0)), (.v (.int .i64 0)), (.v (.int .i64 0))] [(0, (1, (.k (.c (.v (.int .i64 1)))))), (1, (1, (.k (.c (.v (.int .i64 31)))))), (4, (1, (.k (.c (.v (.int .i64 1)))))), (5, (1, (.k (.c (.v (.int .i64 3)))))), (6, (1, (.k (.c (.v (.int .i64 2)))))), (7, (2, (.t 8)))]), none⟩, ⟨(some 10), (.build [(.v (.int .i64 0)), (.v (.int .i64 0))] [(0, (1, (.k (.c (.v (.int .i64 2)))))), (1, (1, (.k (.c (.v (.int .i64 1))))))]), none⟩, ⟨(some 11), (.build [(.v (.int .i64 0)), (.v (.int .i64 0)), (.v (.int .i64 0)), (.v (.int .i64 0)), (.v (.int .i64 0)), (.v (.int .i64 0)), (.v (.int .i64 0)), (.v (.int .i64 0)), (.v (.int .i64 0))] [(0, (1, (.k (.c (.v (.int .i64 1)))))), (1, (1, (.k (.c (.v (.int .i64 31)))))), (4, (1, (.k (.c (.v (.int .i64 10)))))), (5, (1, (.k (.c (.v (.int .i64 14)))))), (6, (1, (.k (.c (.v (.int .i64 12)))))), (7, (2, (.t 10)))]), none⟩, ⟨(some 12), (.mkSl 53 3 9 [(.v (.int .i64 0)), (.v (.int .i64 0)), (.v (.int .i64 0)), (.v (.int .i64 0)), (.v (.int .i64 0)), (.v (.int .i64 0)), (.v (.int .i64 0)), (.v (.int .i64 0)), (.v (.int .i64 0)), (.v (.int .i64 0)), (.v (.int .i64 0)), (.v (.int .i64 0)), (.v (.int .i64 0)), (.v (.int .i64 0)), (.v (.int .i64 0)), (.v (.int .i64 0)), (.v (.int .i64 0)), (.v (.int .i64 0)), (.v (.int .i64 0)), (.v (.int .i64 0)), (.v (.int .i64 0)), (.v (.int .i64 0)), (.v (.int .i64 0)), (.v (.int .i64 0)), (.v (.int .i64 0)), (.v (.int .i64 0)), (.v (.int .i64 0))] [(0, (9, (.t 7))), (9, (9, (.t 9))), (18, (9, (.t 11)))]), none⟩, ⟨(some 1), (.mv (.t 12)), none⟩]) (.kill [6, 7, 8, 9, 10, 11, 12] (.seq (.ops [⟨(some 14), (.mv (.t 1)), none⟩, ⟨(some 15), (.call 26 [(.t 14)]), none⟩, ⟨(some 13), (.mv (.t 15)), none⟩, ⟨(some 16), (.ext 0 (.t 13)), none⟩, ⟨(some 17), (.ext 1 (.t 13)), none⟩, ⟨(some 2), (.mv (.t 16)), none⟩, ⟨(some 3), (.mv (.t 17)), none⟩]) (.kill [13, 14, 15, 16, 17] (.seq (.ops [⟨(some 19), (.mv (.t 1)), none⟩, ⟨(some 20), (.call 28 [(.t 19)]), none⟩, ⟨(some 18), (.mv (.t 20)), none⟩, ⟨(some 21), (.ext 0 (.t 18)), none⟩, ⟨(some 22), (.ext 1 (.t 18)), none⟩, ⟨(some 4), (.mv (.t 21)), none⟩, ⟨(some 5), (.mv (.t 22)), none⟩]) (.kill [18, 19, 20, 21, 22] (.seq (.ops [⟨(some 23), (.mv (.t 3)), none⟩, ⟨(some 24), (.call 21 [(.t 23)]), none⟩, ⟨(some 25), (.bin .eql (.t 24) (.k (.c (.v (.int .i64 0))))), none⟩, ⟨(some 26), (.mv (.t 25)), none⟩, ⟨(some 27), (.mv (.t 5)), (some (26, true))⟩, ⟨(some 28), (.call 21 [(.t 27)]), (some (26, true))⟩, ⟨(some 29), (.bin .eql (.t 28) (.k (.c (.v (.int .i64 0))))), (some (26, true))⟩, ⟨(some 30), (.pick (.t 26) (.t 29) (.k (.c (.v (.bool false))))), none⟩, ⟨(some 31), (.mv (.t 30)), none⟩, ⟨(some 32), (.mv (.t 4)), (some (31, true))⟩, ⟨(some 33), (.bin .eql (.t 32) (.k (.c (.v (.int .i64 1))))), (some (31, true))⟩, ⟨(some 34), (.pick (.t 31) (.t 33) (.k (.c (.v (.bool false))))), none⟩, ⟨(some 35), (.mv (.t 34)), none⟩, ⟨(some 36), (.mv (.t 2)), (some (35, true))⟩, ⟨(some 37), (.mkSl 3 3 1 [(.v (.int .i64 0)), (.v (.int .i64 0)), (.v (.int .i64 0))] [(0, (1, (.k (.c (.v (.int .i64 1)))))), (1, (1, (.k (.c (.v (.int .i64 0)))))), (2, (1, (.k (.c (.v (.int .i64 2))))))]), (some (35, true))⟩, ⟨(some 38), (.call 23 [(.t 36), (.t 37)]), (some (35, true))⟩, ⟨(some 39), (.pick (.t 35) (.t 38) (.k (.c (.v (.bool false))))), none⟩, ⟨(some 40), (.mv (.t 39)), none⟩, ⟨(some 41), (.mv (.t 1)), (some (40, true))⟩, ⟨(some 42), (.mkSl 3 3 1 [(.v (.int .i64 0)), (.v (.int .i64 0)), (.v (.int .i64 0))] [(0, (1, (.k (.c (.v (.int .i64 0)))))), (1, (1, (.k (.c (.v (.int .i64 1)))))), (2, (1, (.k (.c (.v (.int .i64 2))))))]), (some (40, true))⟩, ⟨(some 43), (.call 35 [(.t 41), (.t 42)]), (some (40, true))⟩, ⟨(some 44), (.call 21 [(.t 43)]), (some (40, true))⟩, ⟨(some 45), (.bin .eql (.t 44) (.k (.c (.v (.int .i64 123))))), (some (40, true))⟩, ⟨(some 46), (.pick (.t 40) (.t 45) (.k (.c (.v (.bool false))))), none⟩, ⟨(some 47), (.mv (.t 46)), none⟩, ⟨(some 48), (.mv (.t 1)), (some (47, true))⟩, ⟨(some 49), (.mv (.t 2)), (some (47, true))⟩, ⟨(some 50), (.call 35 [(.t 48), (.t 49)]), (some (47, true))⟩, ⟨(some 51), (.call 21 [(.t 50)]), (some (47, true))⟩, ⟨(some 52), (.bin .eql (.t 51) (.k (.c (.v (.int .i64 0))))), (some (47, true))⟩, ⟨(some 53), (.pick (.t 47) (.t 52) (.k (.c (.v (.bool false))))), none⟩, ⟨(some 0), (.mv (.t 53)), none⟩]) (.kill [1, 2, 3, 4, 5, 23, 24, 25, 26, 27, 28, 29, 30, 31, 32, 33, 34, 35, 36, 37, 38, 39, 40, 41, 42, 43, 44, 45, 46, 47, 48, 49, 50, 51, 52, 53] .ret))))))))))
def rs30 : List RS := [(.t 0)]
def nt30 : Nat := 54
set_option maxRecDepth 100000 in
set_option maxHeartbeats 400000 in
theorem awake_calls (w : World) : Calls Try.prog 30 #[] w (RetV w (.bool true)) := by
 refine enter0 (A := []) (c := ir30) (rs := rs30) (nt := nt30) [] _ Try.func30 rfl (by kernel_rfl) (by kernel_rfl) rfl (fun E' => rfl) (of_decide_eq_true rfl) ?_
 simp (maxSteps := 2000000) only [ir30, nt30, rs30, go_sem, ↓condS, ↓exitS, ↓gateS, ↓runOp, ↓gateD, ↓runD, ↓imp_ft, ↓imp_tf, ↓imp_tt, ↓imp_ff, ↓imp_fn, ↓imp_tn, ↓imp_fy, ↓imp_ty, ↓reduceIte, Nat.reduceLT, Nat.reduceLeDiff, Nat.reduceAdd, Nat.reduceSub, Nat.reduceMul, Nat.reduceEqDiff, reduceCtorEq, Int.reduceToNat, Int.reduceEq, Int.reduceBEq, Int.reduceBNe, Int.reduceLT, Int.reduceLE, Int.reduceNeg, Int.reduceAdd, Int.reduceSub, Int.reduceMul, Int.reduceGE, Int.reduceGT, Cl.enc, iv, endO]
 have hL : ∀ {C : Ctx} {E : Env} {S : St} {a : Act} {w' : World}, Sat C.B C.W C.w0 E S a w' → look S.own 0 = some (.one (.ar 3 9 (segs 9 (Cl.sc ⟨0, 30, 1, 0, 0, 9, 8, 1, 0⟩ ++ Cl.sc ⟨1, 31, 0, 0, 1, 3, 2, 3, 0⟩ ++ Cl.sc ⟨1, 31, 0, 0, 10, 14, 12, 2, 1⟩)) 53)) → Arr w' Cl.enc 9 ((SC.sl (0, 0, 0) 9 0 3 none).den E) L3 := fun hs h0 =>
  arr_own (d := cl0) hs 0 3 3 _ h0 rfl (Nat.le_refl _) (l3_lt rfl rfl rfl)
 obtain ⟨f1, f2, f3⟩ := l3_find
 refine And.intro (by decide) ?_
 refine callN 1 (leT 1 (findL L3).length (findE L3)) (lsO 3 1 eI (findL L3) 0) (fun E a w' hs => find_calls w' _ L3 (by decide) (hL hs rfl)) ?_
 rw [f1, f2]
 simp (maxSteps := 2000000) only [go_sem, ↓condS, ↓exitS, ↓gateS, ↓runOp, ↓gateD, ↓runD, ↓imp_ft, ↓imp_tf, ↓imp_tt, ↓imp_ff, ↓imp_fn, ↓imp_tn, ↓imp_fy, ↓imp_ty, ↓reduceIte, Nat.reduceLT, Nat.reduceLeDiff, Nat.reduceAdd, Nat.reduceSub, Nat.reduceMul, Nat.reduceEqDiff, reduceCtorEq, Int.reduceToNat, Int.reduceEq, Int.reduceBEq, Int.reduceBNe, Int.reduceLT, Int.reduceLE, Int.reduceNeg, Int.reduceAdd, Int.reduceSub, Int.reduceMul, Int.reduceGE, Int.reduceGT, Cl.enc, iv, endO, leT, lsO]
 refine callV (.tup [(false, [.v (.int .i64 1)]), (false, [.v (.int .i64 0)])]) (.tuple #[.int .i64 1, .int .i64 0]) (fun E => rfl) (fun E a w' hs => by
  have := countW_calls w' _ L3 (by decide) (hL hs rfl)
  rw [f3, l3_ns] at this
  exact this) ?_
 simp (maxSteps := 2000000) only [go_sem, ↓condS, ↓exitS, ↓gateS, ↓runOp, ↓gateD, ↓runD, ↓imp_ft, ↓imp_tf, ↓imp_tt, ↓imp_ff, ↓imp_fn, ↓imp_tn, ↓imp_fy, ↓imp_ty, ↓reduceIte, Nat.reduceLT, Nat.reduceLeDiff, Nat.reduceAdd, Nat.reduceSub, Nat.reduceMul, Nat.reduceEqDiff, reduceCtorEq, Int.reduceToNat, Int.reduceEq, Int.reduceBEq, Int.reduceBNe, Int.reduceLT, Int.reduceLE, Int.reduceNeg, Int.reduceAdd, Int.reduceSub, Int.reduceMul, Int.reduceGE, Int.reduceGT, Cl.enc, iv, endO]
 refine callV (.c (.v (.int .i64 0))) _ (fun E => rfl) (fun E a w' hs => num_calls w' _) ?_
 simp (maxSteps := 2000000) only [go_sem, ↓condS, ↓exitS, ↓gateS, ↓runOp, ↓gateD, ↓runD, ↓imp_ft, ↓imp_tf, ↓imp_tt, ↓imp_ff, ↓imp_fn, ↓imp_tn, ↓imp_fy, ↓imp_ty, ↓reduceIte, Nat.reduceLT, Nat.reduceLeDiff, Nat.reduceAdd, Nat.reduceSub, Nat.reduceMul, Nat.reduceEqDiff, reduceCtorEq, Int.reduceToNat, Int.reduceEq, Int.reduceBEq, Int.reduceBNe, Int.reduceLT, Int.reduceLE, Int.reduceNeg, Int.reduceAdd, Int.reduceSub, Int.reduceMul, Int.reduceGE, Int.reduceGT, Cl.enc, iv, endO]
 refine guardW (.c (.v (.int .i64 0))) _ (fun E => rfl) (fun E a w' hs => num_calls w' _) ?_
 simp (maxSteps := 2000000) only [go_sem, ↓condS, ↓exitS, ↓gateS, ↓runOp, ↓gateD, ↓runD, ↓imp_ft, ↓imp_tf, ↓imp_tt, ↓imp_ff, ↓imp_fn, ↓imp_tn, ↓imp_fy, ↓imp_ty, ↓reduceIte, Nat.reduceLT, Nat.reduceLeDiff, Nat.reduceAdd, Nat.reduceSub, Nat.reduceMul, Nat.reduceEqDiff, reduceCtorEq, Int.reduceToNat, Int.reduceEq, Int.reduceBEq, Int.reduceBNe, Int.reduceLT, Int.reduceLE, Int.reduceNeg, Int.reduceAdd, Int.reduceSub, Int.reduceMul, Int.reduceGE, Int.reduceGT, Cl.enc, iv, endO]
 simp (maxSteps := 2000000) only [forkS, go_sem, ↓condS, ↓exitS, ↓gateS, ↓runOp, ↓gateD, ↓runD, ↓imp_ft, ↓imp_tf, ↓imp_tt, ↓imp_ff, ↓imp_fn, ↓imp_tn, ↓imp_fy, ↓imp_ty, ↓reduceIte, Nat.reduceLT, Nat.reduceLeDiff, Nat.reduceAdd, Nat.reduceSub, Nat.reduceMul, Nat.reduceEqDiff, reduceCtorEq, Int.reduceToNat, Int.reduceEq, Int.reduceBEq, Int.reduceBNe, Int.reduceLT, Int.reduceLE, Int.reduceNeg, Int.reduceAdd, Int.reduceSub, Int.reduceMul, Int.reduceGE, Int.reduceGT, Cl.enc, iv, endO]
 refine And.intro (by decide) ?_
 refine callV (.c (.v (.bool true))) (.bool true) (fun E => rfl) (fun E a w' hs => same_calls w' _ _ [1, 0, 2] [1, 0, 2] (own_at (d := 0) hs 1 3 rfl rfl) (arr_own (d := 0) hs 2 3 3 _ rfl rfl (Nat.le_refl _) (l3_lt rfl rfl rfl))) ?_
 simp (maxSteps := 2000000) only [forkS, go_sem, ↓condS, ↓exitS, ↓gateS, ↓runOp, ↓gateD, ↓runD, ↓imp_ft, ↓imp_tf, ↓imp_tt, ↓imp_ff, ↓imp_fn, ↓imp_tn, ↓imp_fy, ↓imp_ty, ↓reduceIte, Nat.reduceLT, Nat.reduceLeDiff, Nat.reduceAdd, Nat.reduceSub, Nat.reduceMul, Nat.reduceEqDiff, reduceCtorEq, Int.reduceToNat, Int.reduceEq, Int.reduceBEq, Int.reduceBNe, Int.reduceLT, Int.reduceLE, Int.reduceNeg, Int.reduceAdd, Int.reduceSub, Int.reduceMul, Int.reduceGE, Int.reduceGT, Cl.enc, iv, endO]
 refine And.intro (by decide) ?_
 refine callV (.c (.v (.int .i64 123))) (.int .i64 123) (fun E => rfl) (fun E a w' hs => by
  have := check_calls w' _ _ L3 [0, 1, 2] (by decide) (hL hs rfl) (arr_own (d := 0) hs 3 3 3 _ rfl rfl (Nat.le_refl _) (l3_lt rfl rfl rfl))
  rw [l3_no] at this
  exact this) ?_
 simp (maxSteps := 2000000) only [forkS, go_sem, ↓condS, ↓exitS, ↓gateS, ↓runOp, ↓gateD, ↓runD, ↓imp_ft, ↓imp_tf, ↓imp_tt, ↓imp_ff, ↓imp_fn, ↓imp_tn, ↓imp_fy, ↓imp_ty, ↓reduceIte, Nat.reduceLT, Nat.reduceLeDiff, Nat.reduceAdd, Nat.reduceSub, Nat.reduceMul, Nat.reduceEqDiff, reduceCtorEq, Int.reduceToNat, Int.reduceEq, Int.reduceBEq, Int.reduceBNe, Int.reduceLT, Int.reduceLE, Int.reduceNeg, Int.reduceAdd, Int.reduceSub, Int.reduceMul, Int.reduceGE, Int.reduceGT, Cl.enc, iv, endO]
 refine callV (.c (.v (.int .i64 123))) _ (fun E => rfl) (fun E a w' hs => num_calls w' _) ?_
 simp (maxSteps := 2000000) only [forkS, go_sem, ↓condS, ↓exitS, ↓gateS, ↓runOp, ↓gateD, ↓runD, ↓imp_ft, ↓imp_tf, ↓imp_tt, ↓imp_ff, ↓imp_fn, ↓imp_tn, ↓imp_fy, ↓imp_ty, ↓reduceIte, Nat.reduceLT, Nat.reduceLeDiff, Nat.reduceAdd, Nat.reduceSub, Nat.reduceMul, Nat.reduceEqDiff, reduceCtorEq, Int.reduceToNat, Int.reduceEq, Int.reduceBEq, Int.reduceBNe, Int.reduceLT, Int.reduceLE, Int.reduceNeg, Int.reduceAdd, Int.reduceSub, Int.reduceMul, Int.reduceGE, Int.reduceGT, Cl.enc, iv, endO]
 refine guardW (.c (.v (.int .i64 0))) (.int .i64 0) (fun E => rfl) (fun E a w' hs => by
  have := check_calls w' _ _ L3 [1, 0, 2] (by decide) (hL hs rfl) (own_at (d := 0) hs 1 3 rfl rfl)
  rw [l3_chk] at this
  exact this) ?_
 simp (maxSteps := 2000000) only [forkS, go_sem, ↓condS, ↓exitS, ↓gateS, ↓runOp, ↓gateD, ↓runD, ↓imp_ft, ↓imp_tf, ↓imp_tt, ↓imp_ff, ↓imp_fn, ↓imp_tn, ↓imp_fy, ↓imp_ty, ↓reduceIte, Nat.reduceLT, Nat.reduceLeDiff, Nat.reduceAdd, Nat.reduceSub, Nat.reduceMul, Nat.reduceEqDiff, reduceCtorEq, Int.reduceToNat, Int.reduceEq, Int.reduceBEq, Int.reduceBNe, Int.reduceLT, Int.reduceLE, Int.reduceNeg, Int.reduceAdd, Int.reduceSub, Int.reduceMul, Int.reduceGE, Int.reduceGT, Cl.enc, iv, endO]
 refine guardW (.c (.v (.int .i64 0))) _ (fun E => rfl) (fun E a w' hs => num_calls w' _) ?_
 simp (maxSteps := 2000000) only [forkS, go_sem, ↓condS, ↓exitS, ↓gateS, ↓runOp, ↓gateD, ↓runD, ↓imp_ft, ↓imp_tf, ↓imp_tt, ↓imp_ff, ↓imp_fn, ↓imp_tn, ↓imp_fy, ↓imp_ty, ↓reduceIte, Nat.reduceLT, Nat.reduceLeDiff, Nat.reduceAdd, Nat.reduceSub, Nat.reduceMul, Nat.reduceEqDiff, reduceCtorEq, Int.reduceToNat, Int.reduceEq, Int.reduceBEq, Int.reduceBNe, Int.reduceLT, Int.reduceLE, Int.reduceNeg, Int.reduceAdd, Int.reduceSub, Int.reduceMul, Int.reduceGE, Int.reduceGT, Cl.enc, iv, endO]
 exact retV fun E => by simp [SV.den, SC.den]
end Go.Proofs.Ytkjeedlkkpgopaa.Z
namespace Go.Proofs.Ytkjeedlkkpgopaa.Z
open Go Go.RowKit
def PairC (a b : Cl) : Prop := a.beg < b.beg ∧ (a.thread = b.thread → a.fin ≠ -1 ∧ a.fin < b.beg) ∧ ∀ t, t ≠ -1 → t ∈ a.moves → t ∉ b.moves
theorem getD_lt {xs : List Cl} {i : Nat} (h : i < xs.length) : xs.getD i cl0 = xs[i] := by rw [List.getD_eq_getElem?_getD, List.getElem?_eq_getElem h]; rfl
theorem mayL_iff {xs : List Cl} : mayP xs ↔ (∀ c ∈ xs, shapedB c = true) ∧ xs.Pairwise PairC := by
 constructor
 ·rintro ⟨hA, hB⟩
  have hup : ∀ d j, j + d + 1 < xs.length → (xs.getD j cl0).beg < (xs.getD (j + d + 1) cl0).beg := by
   intro d
   induction d with
   | zero => intro j hj; exact hA.up j hj
   | succ d ih =>
    intro j hj
    have h1 := ih j (by omega)
    have h2 := hA.up (j + d + 1) (by omega)
    have : j + (d + 1) + 1 = j + d + 1 + 1 := by omega
    rw [this]
    omega
  refine ⟨fun c hc => ?_, List.pairwise_iff_getElem.2 fun i j hi hj hij => ?_⟩
  ·obtain ⟨i, hi, rfl⟩ := List.getElem_of_mem hc
   have := hA.shaped i hi
   rwa [getD_lt hi] at this
  ·have h1 := hup (j - i - 1) i (by omega)
   have e : i + (j - i - 1) + 1 = j := by omega
   rw [e, getD_lt hi, getD_lt hj] at h1
   have h2 := hA.thr i j hij hj
   have h3 := hB i j hij hj
   rw [getD_lt hi, getD_lt hj] at h2 h3
   exact ⟨h1, h2, h3⟩
 ·rintro ⟨h1, h2⟩
  have h2 := List.pairwise_iff_getElem.1 h2
  refine ⟨⟨fun k hk => ?_, fun k hk => ?_, fun j k hj hk => ?_⟩, fun j k hj hk => ?_⟩
  ·rw [getD_lt hk]; exact h1 _ (List.getElem_mem hk)
  ·rw [getD_lt (by omega), getD_lt hk]
   exact (h2 k (k + 1) (by omega) hk (by omega)).1
  ·rw [getD_lt (by omega), getD_lt hk]
   exact (h2 j k (by omega) hk hj).2.1
  ·rw [getD_lt (by omega), getD_lt hk]
   exact (h2 j k (by omega) hk hj).2.2
theorem may_sub {xs ys : List Cl} (h : ys.Sublist xs) (hm : mayQ xs = true) : mayQ ys = true := by
 obtain ⟨h1, h2⟩ := mayL_iff.1 (mayQ_iff.1 hm)
 exact mayQ_iff.2 (mayL_iff.2 ⟨fun c hc => h1 c (h.subset hc), h2.sublist h⟩)
theorem range_getD (xs : List Cl) : (List.range xs.length).map (fun i => xs.getD i cl0) = xs := by
 apply List.ext_getElem
 ·simp
 ·intro i h1 h2
  rw [List.getElem_map, List.getElem_range, getD_lt h2]
def idxP (xs : List Cl) (p : Cl → Bool) : List Nat := (List.range xs.length).filter fun i => p (xs.getD i cl0)
theorem idxP_map (xs : List Cl) (p : Cl → Bool) : (idxP xs p).map (fun i => xs.getD i cl0) = xs.filter p := by
 have := List.filter_map (f := fun i => xs.getD i cl0) (p := p) (l := List.range xs.length)
 rw [range_getD] at this
 rw [this]; rfl
theorem cyA_eq (xs : List Cl) : cyA xs = xs.filter cntB := idxP_map xs cntB
theorem ns_iff {xs : List Cl} : nsE xs = 0 ↔ mayQ xs = true ∧ (xs.filter cntB).length ≤ 8 := by
 have h : (cidx xs xs.length).length = (xs.filter cntB).length := by
  rw [← cyA_eq, cyA_len]; rfl
 unfold nsE
 rw [h]
 constructor
 ·intro hn
  split at hn
  ·next h1 =>
   split at hn
   ·next h2 => exact ⟨h1, h2⟩
   ·cases hn
  ·cases hn
 ·rintro ⟨h1, h2⟩
  rw [if_pos h1, if_pos h2]
theorem ns_sub {xs ys : List Cl} (h : ys.Sublist xs) (he : nsE xs = 0) : nsE ys = 0 := by
 obtain ⟨h1, h2⟩ := ns_iff.1 he
 exact ns_iff.2 ⟨may_sub h h1, Nat.le_trans (h.filter cntB).length_le h2⟩
theorem ex_iff {σ : Type} {h : Hist σ} {cand : List Nat} {s0 : σ} (he : ∀ i j, h.ah i j = true → h.ended i = true) : (∃ x, h.Expl cand s0 x) ↔ h.srch cand (h.mayW cand) (cand.length + 1) [] s0 ≠ [] := by
 rw [srch_eq (s0 := s0) he _ _ _ (Hist.Pre.nil s0) closed_nil (by simp)]
 have hm := mem_srchR (h := h) (cand := cand) (s0 := s0) (cand.length + 1) [] s0 (Hist.Pre.nil s0) (by simp)
 constructor
 ·rintro ⟨x, hx⟩ hn
  have := (hm x).2 ⟨hx, List.nil_prefix⟩
  rw [hn] at this; cases this
 ·intro hn
  cases hl : h.srch cand h.nextR (cand.length + 1) [] s0 with
  | nil => exact absurd hl hn
  | cons x l => exact ⟨x, ((hm x).1 (by rw [hl]; simp)).1⟩
theorem ex_via {σ : Type} {h : Hist σ} {nm : Nat → Nat} {c : List Nat} {s0 : σ} (he : ∀ i j, h.ah i j = true → h.ended i = true) (hinj : ∀ a ∈ c, ∀ b ∈ c, nm a = nm b → a = b) : (∃ x, (h.via nm).Expl c s0 x) ↔ ∃ x, h.Expl (c.map nm) s0 x := by
 rw [ex_iff he, ex_iff (h := h.via nm) fun i j hij => he _ _ hij]
 have := srch_via h nm c hinj (c.length + 1) [] s0 (fun i hi => by cases hi)
 rw [List.map_nil] at this
 rw [List.length_map, this]
 constructor
 ·intro hn hm; exact hn (List.map_eq_nil_iff.1 hm)
 ·intro hn hm; exact hn (by rw [hm]; rfl)
theorem ex_part {zs : List Cl} {p : Cl → Bool} : (∃ x, (hY (zs.filter p)).Expl (cY (zs.filter p)) mc0 x) ↔ ∃ x, (hY zs).Expl (idxP zs p) mc0 x := by
 have hl : (zs.filter p).length = (idxP zs p).length := by rw [← idxP_map, List.length_map]
 have hg : ∀ i, (zs.filter p).getD i cl0 = zs.getD ((idxP zs p).getD i zs.length) cl0 := fun i => by
  rw [← idxP_map, List.getD_eq_getElem?_getD, List.getElem?_map]
  by_cases hi : i < (idxP zs p).length
  ·rw [List.getElem?_eq_getElem hi, List.getD_eq_getElem?_getD (l := idxP zs p), List.getElem?_eq_getElem hi]; rfl
  ·rw [List.getElem?_eq_none (by omega), List.getD_eq_getElem?_getD (l := idxP zs p), List.getElem?_eq_none (by omega), List.getD_eq_getElem?_getD, List.getElem?_eq_none (by simp)]; rfl
 have hv : hY (zs.filter p) = (hY zs).via fun i => (idxP zs p).getD i zs.length := by
  simp only [hY, Hist.via, hg]
 have hc : (cY (zs.filter p)).map (fun i => (idxP zs p).getD i zs.length) = idxP zs p := by
  apply List.ext_getElem
  ·simp [cY, hl]
  ·intro i h1 h2
   rw [List.getElem_map]
   simp only [cY, List.getElem_range]
   rw [List.getD_eq_getElem?_getD, List.getElem?_eq_getElem h2]; rfl
 have hnd : (idxP zs p).Nodup := List.nodup_range.sublist List.filter_sublist
 rw [hv, ex_via (hY_ended zs) fun a ha b hb hab => ?_, hc]
 simp only [cY, List.mem_range, hl] at ha hb
 rw [List.getD_eq_getElem?_getD, List.getD_eq_getElem?_getD, List.getElem?_eq_getElem ha, List.getElem?_eq_getElem hb] at hab
 exact (List.getElem_inj hnd).1 hab
theorem find_ex {xs : List Cl} (he : nsE xs = 0) : findE xs = 0 ↔ ∃ x, (hY (cyA xs)).Expl (cY (cyA xs)) mc0 x := by
 have h8 := nsE_0 he
 unfold findE
 rw [if_pos he]
 constructor
 ·intro h
  split at h
  ·next h1 =>
   obtain ⟨x, hx⟩ := Option.isSome_iff_exists.1 h1
   exact ⟨x, (all_expl h8).1 (head_mem hx)⟩
  ·cases h
 ·rintro ⟨x, hx⟩
  have := (all_expl h8).2 hx
  rw [if_pos]
  cases hl : allY xs with
  | nil => rw [hl] at this; cases this
  | cons a l => rfl
end Go.Proofs.Ytkjeedlkkpgopaa.Z
namespace Go.Proofs.Ytkjeedlkkpgopaa.Z
open Go Go.RowKit
theorem doM_partZ {m : MC} {op arg data k : Int} (hk : objOf op = k) (h1 : 1 ≤ k ∧ k ≤ 5) : doM (partM m k) op arg data = (partM (doM m op arg data).1 k, (doM m op arg data).2) := by
 have : k = 1 ∨ k = 2 ∨ k = 3 ∨ k = 4 ∨ k = 5 := by omega
 rcases this with rfl | rfl | rfl | rfl | rfl <;> simp [doM, partM, hk]
theorem doM_otherZ {m : MC} {op arg data k : Int} (h0 : 1 ≤ objOf op ∧ objOf op ≤ 5) (hk : objOf op ≠ k) (h1 : 1 ≤ k ∧ k ≤ 5) : partM (doM m op arg data).1 k = partM m k := by
 have a : k = 1 ∨ k = 2 ∨ k = 3 ∨ k = 4 ∨ k = 5 := by omega
 have b : objOf op = 1 ∨ objOf op = 2 ∨ objOf op = 3 ∨ objOf op = 4 ∨ objOf op = 5 := by omega
 rcases a with rfl | rfl | rfl | rfl | rfl <;> rcases b with b | b | b | b | b <;> first | exact absurd b hk | simp [doM, partM, b]
theorem objOf_rng (op : Int) : 0 ≤ objOf op ∧ objOf op ≤ 5 := by
 unfold objOf
 repeat' split
 all_goals omega
theorem objOf_0 {op : Int} (h : objOf op = 0) : op ≠ 60 ∧ op ≠ 61 := by
 constructor <;> rintro rfl <;> simp [objOf] at h
theorem doM_0 {m : MC} {op a d : Int} (h : objOf op = 0) : (doM m op a d).1 = m := by
 obtain ⟨h1, h2⟩ := objOf_0 h
 unfold doM
 rw [h]
 simp only [doTable, if_neg h1, if_neg h2]
 simp
 split
 ·split <;> rfl
 ·rfl
theorem al_part {s t : MC} {c : Cl} (h1 : 1 ≤ objOf c.op) (hp : partM s (objOf c.op) = partM t (objOf c.op)) : (allowM s c).2 = (allowM t c).2 ∧ partM (allowM s c).1 (objOf c.op) = partM (allowM t c).1 (objOf c.op) := by
 have hr := objOf_rng c.op
 have e1 := doM_partZ (m := s) (op := c.op) (arg := c.arg) (data := c.data) rfl ⟨h1, hr.2⟩
 have e2 := doM_partZ (m := t) (op := c.op) (arg := c.arg) (data := c.data) rfl ⟨h1, hr.2⟩
 rw [hp, e2] at e1
 have g1 : partM (doM t c.op c.arg c.data).1 (objOf c.op) = partM (doM s c.op c.arg c.data).1 (objOf c.op) := (Prod.mk.inj e1).1
 have g2 : (doM t c.op c.arg c.data).2 = (doM s c.op c.arg c.data).2 := (Prod.mk.inj e1).2
 unfold allowM
 rw [g2]
 split
 ·exact ⟨rfl, g1.symm⟩
 ·split
  ·split
   ·exact ⟨rfl, hp⟩
   ·exact ⟨rfl, rfl⟩
  ·split
   ·exact ⟨rfl, g1.symm⟩
   ·exact ⟨rfl, rfl⟩
theorem al_other {s : MC} {c : Cl} {k : Int} (ha : (allowM s c).2 = true) (hk : 1 ≤ k ∧ k ≤ 5) (hne : objOf c.op ≠ k) : partM (allowM s c).1 k = partM s k := by
 have hr := objOf_rng c.op
 have hd : partM (doM s c.op c.arg c.data).1 k = partM s k := by
  by_cases h0 : objOf c.op = 0
  ·rw [doM_0 h0]
  ·exact doM_otherZ ⟨by omega, hr.2⟩ hne hk
 unfold allowM at ha ⊢
 split at ha
 ·next h => rw [if_pos h]; exact hd
 ·next h =>
  rw [if_neg h]
  split at ha
  ·next h2 =>
   rw [if_pos h2]
   split at ha
   ·next h3 => rw [if_pos h3]
   ·cases ha
  ·next h2 =>
   rw [if_neg h2]
   split at ha
   ·next h3 => rw [if_pos h3]; exact hd
   ·cases ha
def obN (zs : List Cl) (i : Nat) : Nat := (objOf (zs.getD i cl0).op).toNat
def prM (k : Nat) (s : MC) : MC := if 1 ≤ k ∧ k ≤ 5 then partM s k else mc0
theorem apart_hY {zs : List Cl} (hc : ∀ c ∈ zs, objOf c.op ≠ 0) : Apart (hY zs) (obN zs) prM := by
 refine ⟨fun s t i h => ?_, fun s i k ha hk => ?_⟩
 ·simp only [hY]
  by_cases hi : i < zs.length
  ·have h0 := hc _ (List.getElem_mem hi)
   rw [← getD_lt hi] at h0
   have hr := objOf_rng (zs.getD i cl0).op
   have e : ((obN zs i : Nat) : Int) = objOf (zs.getD i cl0).op := by unfold obN; omega
   have hob : 1 ≤ obN zs i ∧ obN zs i ≤ 5 := by omega
   simp only [prM, if_pos hob, e] at h ⊢
   exact al_part (by omega) h
  ·have e : zs.getD i cl0 = cl0 := by rw [List.getD_eq_getElem?_getD, List.getElem?_eq_none (by omega)]; rfl
   have hob : ¬ (1 ≤ obN zs i ∧ obN zs i ≤ 5) := by unfold obN; rw [e]; decide
   simp only [prM, if_neg hob, e]
   exact ⟨rfl, trivial⟩
 ·simp only [hY] at ha ⊢
  simp only [prM]
  split
  ·next h =>
   refine al_other ha (by omega) fun he => hk ?_
   unfold obN; rw [he]; rfl
  ·rfl
theorem ah_irr {c : Cl} (h : shapedB c = true) : aheadB c c = false := by
 simp only [shapedB, decide_eq_true_eq] at h
 unfold aheadB
 split
 ·next hf =>
  have := h.1.2.2.2 (by simpa using hf)
  rw [decide_eq_false_iff_not]; omega
 ·rfl
theorem ah_iv {a b c d : Cl} (h1 : aheadB a b = true) (h2 : aheadB c d = true) : aheadB a d = true ∨ aheadB c b = true := by
 unfold aheadB at *
 split at h1
 ·next e1 =>
  split at h2
  ·next e2 =>
   rw [if_pos e1, if_pos e2]
   simp only [decide_eq_true_eq] at *
   omega
  ·cases h2
 ·cases h1
theorem local_find {xs : List Cl} (he : nsE xs = 0) : findE xs = 0 ↔ ∀ k : Int, 1 ≤ k → k ≤ 5 → findE (xs.filter fun c => decide (objOf c.op = k)) = 0 := by
 have hmem : ∀ c ∈ cyA xs, cntB c = true ∧ c ∈ xs := fun c hc => by
  rw [cyA_eq] at hc
  obtain ⟨h1, h2⟩ := List.mem_filter.1 hc
  exact ⟨h2, h1⟩
 have hcnt : ∀ c ∈ cyA xs, objOf c.op ≠ 0 := fun c hc => by
  have := (hmem c hc).1
  simpa [cntB] using this
 have hsh := (mayL_iff.1 (mayQ_iff.1 (ns_iff.1 he).1)).1
 rw [find_ex he, local_iff (m := 5) (apart_hY hcnt) (fun a => ?_) (fun a b c d h1 h2 => ah_iv h1 h2) (fun i hi => ?_)]
 ·have hk : ∀ k : Nat, 1 ≤ k → k ≤ 5 → ((∃ x, (hY (cyA xs)).Expl ((cY (cyA xs)).filter fun i => decide (obN (cyA xs) i = k)) mc0 x) ↔ findE (xs.filter fun c => decide (objOf c.op = (k : Int))) = 0) := fun k h1 h5 => by
   have hid : ((cY (cyA xs)).filter fun i => decide (obN (cyA xs) i = k)) = idxP (cyA xs) fun c => decide (objOf c.op = (k : Int)) := by
    refine List.filter_congr fun i _ => ?_
    have := objOf_rng ((cyA xs).getD i cl0).op
    unfold obN
    rw [decide_eq_decide]
    omega
   have hz : (cyA xs).filter (fun c => decide (objOf c.op = (k : Int))) = cyA (xs.filter fun c => decide (objOf c.op = (k : Int))) := by
    rw [cyA_eq, cyA_eq, List.filter_filter, List.filter_filter]
    exact List.filter_congr fun c _ => Bool.and_comm _ _
   rw [hid, ← ex_part, hz, find_ex (ns_sub List.filter_sublist he)]
  constructor
  ·intro h k h1 h5
   have := (hk k.toNat (by omega) (by omega)).1 (h k.toNat (by omega) (by omega))
   rwa [show ((k.toNat : Nat) : Int) = k from by omega] at this
  ·intro h k h1 h5
   exact (hk k h1 h5).2 (h k (by omega) (by omega))
 ·simp only [hY]
  by_cases ha : a < (cyA xs).length
  ·rw [getD_lt ha]
   exact ah_irr (hsh _ (hmem _ (List.getElem_mem ha)).2)
  ·rw [List.getD_eq_getElem?_getD, List.getElem?_eq_none (by omega)]; rfl
 ·simp only [cY, List.mem_range] at hi
  have h0 := hcnt _ (List.getElem_mem hi)
  rw [← getD_lt hi] at h0
  have := objOf_rng ((cyA xs).getD i cl0).op
  unfold obN
  omega
end Go.Proofs.Ytkjeedlkkpgopaa.Z
