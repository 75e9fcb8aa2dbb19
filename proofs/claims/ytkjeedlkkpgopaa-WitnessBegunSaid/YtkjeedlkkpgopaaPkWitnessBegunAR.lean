/- WitnessBegunSaid: what its proof is made of. No condition. -/
import Derived.Test.YtkjeedlkkpgopaaPkWitnessBegunAQ
set_option linter.unusedSimpArgs false
set_option linter.unusedVariables false
namespace Go.Proofs.Ytkjeedlkkpgopaa.Z
open Go Go.RowKit
theorem objL (op : Int) (w : World) : Calls Try.prog 33 #[.int .i64 op] w (RetV w (.int .i64 (objOf op))) := (lObject op w).mono fun e w' h => ⟨h.1, h.2 ▸ Below.refl _ _⟩
def ir31 : IR := (.seq (.ops [⟨(some 2), (.mv (.k (.c (.v (.bool false))))), none⟩]) (.kill [1, 2, 3, 4, 5, 6, 7, 8, 9, 10, 11] (.seq (.ops [⟨(some 3), (.mv (.k (.c (.v (.int .i64 0))))), none⟩]) (.seq (.seq (.ops [⟨(some 4), (.mv (.k (.c (.v (.int .i64 0))))), none⟩]) (.blk 0 (.loop (.seq (.seq (.ops [⟨(some 5), (.mv (.t 4)), none⟩, ⟨(some 6), (.mv (.t 0)), none⟩, ⟨(some 7), (.len (.t 6)), none⟩, ⟨(some 8), (.bin .lss (.t 5) (.t 7)), none⟩]) (.kill [5, 6, 7, 9, 10, 11, 12, 13, 14, 15, 16, 17, 18, 19] (.cond (.t 8) .skip (.exit 0)))) (.kill [8] (.seq (.blk 1 (.seq (.ops [⟨(some 11), (.mv (.t 0)), none⟩, ⟨(some 12), (.mv (.t 4)), none⟩, ⟨(some 13), (.ia 9 (.t 11) (.t 12)), none⟩, ⟨(some 14), (.fa 1 (.t 13)), none⟩, ⟨(some 15), (.ld false 1 (.t 14)), none⟩, ⟨(some 16), (.call 33 [(.t 15)]), none⟩, ⟨(some 17), (.bin .neq (.t 16) (.k (.c (.v (.int .i64 0))))), none⟩]) (.kill [11, 12, 13, 14, 15, 16] (.cond (.t 17) (.ops [⟨(some 18), (.mv (.t 3)), none⟩, ⟨(some 19), (.bin .add (.t 18) (.k (.c (.v (.int .i64 1))))), none⟩, ⟨(some 3), (.mv (.t 19)), none⟩]) .skip)))) (.kill [11, 12, 13, 14, 15, 16, 17, 18, 19] (.ops [⟨(some 9), (.mv (.t 4)), none⟩, ⟨(some 10), (.bin .add (.t 9) (.k (.c (.v (.int .i64 1))))), none⟩, ⟨(some 4), (.mv (.t 10)), none⟩])))))))) (.kill [4, 5, 6, 7, 8, 9, 10, 11, 12, 13, 14, 15, 16, 17, 18, 19] (.seq (.ops [⟨(some 20), (.mv (.t 3)), none⟩, ⟨(some 21), (.bin .leq (.t 20) (.k (.c (.v (.int .i64 8))))), none⟩, ⟨(some 22), (.mv (.t 21)), none⟩, ⟨(some 23), (.mv (.t 0)), (some (22, true))⟩, ⟨(some 24), (.call 16 [(.t 23)]), (some (22, true))⟩, ⟨(some 25), (.pick (.t 22) (.t 24) (.k (.c (.v (.bool false))))), none⟩, ⟨(some 2), (.mv (.t 25)), none⟩]) (.kill [0, 3, 20, 21, 22, 23, 24, 25] .ret)))))))
def rs31 : List RS := [(.t 2)]
def nt31 : Nat := 26
def ir32 : IR := (.seq (.ops [⟨(some 2), (.mv (.k (.c (.v (.bool false))))), none⟩, ⟨(some 3), (.mv (.k (.c (.v (.bool false))))), none⟩]) (.kill [1, 2, 3, 4, 5, 6, 7, 8, 9, 10, 11] (.seq (.ops [⟨(some 9), (.mv (.t 0)), none⟩, ⟨(some 10), (.call 26 [(.t 9)]), none⟩, ⟨(some 8), (.mv (.t 10)), none⟩, ⟨(some 11), (.ext 0 (.t 8)), none⟩, ⟨(some 12), (.ext 1 (.t 8)), none⟩, ⟨(some 4), (.mv (.t 11)), none⟩, ⟨(some 5), (.mv (.t 12)), none⟩]) (.kill [8, 9, 10, 11, 12] (.seq (.ops [⟨(some 14), (.mv (.t 0)), none⟩, ⟨(some 15), (.call 28 [(.t 14)]), none⟩, ⟨(some 13), (.mv (.t 15)), none⟩, ⟨(some 16), (.ext 0 (.t 13)), none⟩, ⟨(some 17), (.ext 1 (.t 13)), none⟩, ⟨(some 6), (.mv (.t 16)), none⟩, ⟨(some 7), (.mv (.t 17)), none⟩]) (.kill [13, 14, 15, 16, 17] (.seq (.seq (.ops [⟨(some 18), (.mv (.t 7)), none⟩, ⟨(some 19), (.call 21 [(.t 18)]), none⟩, ⟨(some 20), (.bin .neq (.t 19) (.k (.c (.v (.int .i64 0))))), none⟩, ⟨(some 21), (.mv (.t 20)), none⟩, ⟨(some 22), (.mv (.t 5)), (some (21, false))⟩, ⟨(some 23), (.call 21 [(.t 22)]), (some (21, false))⟩, ⟨(some 24), (.bin .neq (.t 23) (.k (.c (.v (.int .i64 0))))), (some (21, false))⟩, ⟨(some 25), (.mv (.t 24)), (some (21, false))⟩, ⟨(some 26), (.mv (.t 5)), (some (25, true))⟩, ⟨(some 27), (.call 21 [(.t 26)]), (some (25, true))⟩, ⟨(some 28), (.bin .neq (.t 27) (.k (.c (.v (.int .i64 124))))), (some (25, true))⟩, ⟨(some 29), (.pick (.t 25) (.t 28) (.k (.c (.v (.bool false))))), (some (21, false))⟩, ⟨(some 30), (.pick (.t 21) (.k (.c (.v (.bool true)))) (.t 29)), none⟩]) (.kill [7, 18, 19, 20, 21, 22, 23, 24, 25, 26, 27, 28, 29] (.cond (.t 30) (.seq (.ops [⟨(some 2), (.mv (.k (.c (.v (.bool false))))), none⟩, ⟨(some 3), (.mv (.k (.c (.v (.bool false))))), none⟩]) (.kill [0, 4, 5, 6, 30] .ret)) .skip))) (.kill [2, 3, 30] (.seq (.seq (.ops [⟨(some 31), (.mv (.t 5)), none⟩, ⟨(some 32), (.call 21 [(.t 31)]), none⟩, ⟨(some 33), (.bin .eql (.t 32) (.k (.c (.v (.int .i64 124))))), none⟩]) (.kill [5, 31, 32] (.cond (.t 33) (.seq (.ops [⟨(some 34), (.mv (.t 6)), none⟩, ⟨(some 35), (.bin .eql (.t 34) (.k (.c (.v (.int .i64 0))))), none⟩, ⟨(some 36), (.mv (.t 35)), none⟩, ⟨(some 37), (.mv (.t 4)), (some (36, true))⟩, ⟨(some 38), (.len (.t 37)), (some (36, true))⟩, ⟨(some 39), (.bin .eql (.t 38) (.k (.c (.v (.int .i64 0))))), (some (36, true))⟩, ⟨(some 40), (.pick (.t 36) (.t 39) (.k (.c (.v (.bool false))))), none⟩, ⟨(some 2), (.mv (.k (.c (.v (.bool false))))), none⟩, ⟨(some 3), (.mv (.t 40)), none⟩]) (.kill [0, 4, 6, 33, 34, 35, 36, 37, 38, 39, 40] .ret)) .skip))) (.kill [2, 3, 33] (.seq (.ops [⟨(some 41), (.mv (.t 6)), none⟩, ⟨(some 42), (.bin .geq (.t 41) (.k (.c (.v (.int .i64 1))))), none⟩, ⟨(some 43), (.mv (.t 42)), none⟩, ⟨(some 44), (.mv (.t 0)), (some (43, true))⟩, ⟨(some 45), (.mv (.t 4)), (some (43, true))⟩, ⟨(some 46), (.call 35 [(.t 44), (.t 45)]), (some (43, true))⟩, ⟨(some 47), (.call 21 [(.t 46)]), (some (43, true))⟩, ⟨(some 48), (.bin .eql (.t 47) (.k (.c (.v (.int .i64 0))))), (some (43, true))⟩, ⟨(some 49), (.pick (.t 43) (.t 48) (.k (.c (.v (.bool false))))), none⟩, ⟨(some 2), (.mv (.k (.c (.v (.bool true))))), none⟩, ⟨(some 3), (.mv (.t 49)), none⟩]) (.kill [0, 4, 6, 41, 42, 43, 44, 45, 46, 47, 48, 49] .ret))))))))))))
def rs32 : List RS := [(.t 2), (.t 3)]
def nt32 : Nat := 50
set_option maxRecDepth 100000 in
set_option maxHeartbeats 400000 in
theorem searched_calls (w : World) (v : Value) (xs : List Cl) (hsz : xs.length * 72 ≤ 140737488355328) (h : Arr w Cl.enc 9 v xs) : Calls Try.prog 31 #[v] w (RetV w (.bool (decide (nsE xs = 0)))) := by
 refine enter1 (A := []) (c := ir31) (rs := rs31) (nt := nt31) cl0 cl_ok h [.c (.xv (0, 0, 0))] _ Try.func31 rfl (by kernel_rfl) (by kernel_rfl) rfl (fun E' h0 => by simp [SV.den, SC.den, h0]) (of_decide_eq_true rfl) ?_
 simp (maxSteps := 2000000) only [ir31, nt31, rs31, go_sem, ↓condS, ↓exitS, ↓gateS, ↓runOp, ↓gateD, ↓runD, ↓imp_ft, ↓imp_tf, ↓imp_tt, ↓imp_ff, ↓imp_fn, ↓imp_tn, ↓imp_fy, ↓imp_ty, ↓reduceIte, Nat.reduceLT, Nat.reduceLeDiff, Nat.reduceAdd, Nat.reduceSub, Nat.reduceMul, Nat.reduceEqDiff, reduceCtorEq, Int.reduceToNat, Int.reduceEq, Int.reduceBEq, Int.reduceBNe, Int.reduceLT, Int.reduceLE, Int.reduceNeg, Int.reduceAdd, Int.reduceSub, Int.reduceMul, Int.reduceGE, Int.reduceGT, Cl.enc, iv, endO]
 refine loopI (ι := { i : Nat // i ≤ xs.length }) (fun i => ⟨26, [(0, .c (.xv (0, 0, 0))), (3, .c (.v (.int .i64 (cidx xs i.1).length))), (4, .c (.v (.int .i64 (i.1 : Nat))))], [], [(0, .one (arrOf Cl.enc 9 xs cl0))], [], 1⟩)
  (fun i => xs.length - i.1) ⟨0, by omega⟩ (le_ren id rfl rfl (by simp [TmpsLe, look, SV.ren, SC.ren, idσ, SV.okN, SC.okN, cidx]) (by simp [OwnLe]) (by simp [ArrsLe, ArrLeO, atN, look, Fm.get, idσ, arrLe_of, arrLe_0]) rfl) ?_
 rintro ⟨i, hi⟩
 simp (maxSteps := 2000000) only [go_sem, ↓condS, ↓exitS, ↓gateS, ↓runOp, ↓gateD, ↓runD, ↓imp_ft, ↓imp_tf, ↓imp_tt, ↓imp_ff, ↓imp_fn, ↓imp_tn, ↓imp_fy, ↓imp_ty, ↓reduceIte, Nat.reduceLT, Nat.reduceLeDiff, Nat.reduceAdd, Nat.reduceSub, Nat.reduceMul, Nat.reduceEqDiff, reduceCtorEq, Int.reduceToNat, Int.reduceEq, Int.reduceBEq, Int.reduceBNe, Int.reduceLT, Int.reduceLE, Int.reduceNeg, Int.reduceAdd, Int.reduceSub, Int.reduceMul, Int.reduceGE, Int.reduceGT, Cl.enc, iv, endO]
 refine both (fun hlt => ?_) (fun hge => ?_)
 ·rw [decide_eq_true_eq] at hlt
  have hlt : i < xs.length := by omega
  have hcl := cidx_len xs i
  have hcs := cidx_succ xs i
  generalize hci : xs.getD i cl0 = ci at hcs
  refine And.intro (by omega) (And.intro (by omega) (And.intro (by omega) ?_))
  refine callV (.c (.v (.int .i64 (objOf ci.op)))) _ (fun E => rfl) (fun E a w' hs => objL ci.op w') ?_
  simp (maxSteps := 2000000) only [go_sem, ↓condS, ↓exitS, ↓gateS, ↓runOp, ↓gateD, ↓runD, ↓imp_ft, ↓imp_tf, ↓imp_tt, ↓imp_ff, ↓imp_fn, ↓imp_tn, ↓imp_fy, ↓imp_ty, ↓reduceIte, Nat.reduceLT, Nat.reduceLeDiff, Nat.reduceAdd, Nat.reduceSub, Nat.reduceMul, Nat.reduceEqDiff, reduceCtorEq, Int.reduceToNat, Int.reduceEq, Int.reduceBEq, Int.reduceBNe, Int.reduceLT, Int.reduceLE, Int.reduceNeg, Int.reduceAdd, Int.reduceSub, Int.reduceMul, Int.reduceGE, Int.reduceGT, Cl.enc, iv, endO]
  rw [wr_succ (by omega), wr_succ (by omega)]
  refine both (fun hb => ?_) (fun hb => ?_)
  ·have e : (cidx xs (i + 1)).length = (cidx xs i).length + 1 := by rw [hcs, if_pos (show cntB ci = true from hb)]; simp
   exact backI ⟨i + 1, by omega⟩ (by simp only; omega) (le_ren id rfl rfl (by simp [TmpsLe, look, SV.ren, SC.ren, idσ, SV.okN, SC.okN, e]) (by simp [OwnLe]) (by simp [ArrsLe, ArrLeO, atN, look, Fm.get, idσ, arrLe_of, arrLe_0]) rfl)
  ·have e : (cidx xs (i + 1)).length = (cidx xs i).length := by rw [hcs, if_neg (by rw [show cntB ci = false from hb]; simp)]
   exact backI ⟨i + 1, by omega⟩ (by simp only; omega) (le_ren id rfl rfl (by simp [TmpsLe, look, SV.ren, SC.ren, idσ, SV.okN, SC.okN, e]) (by simp [OwnLe]) (by simp [ArrsLe, ArrLeO, atN, look, Fm.get, idσ, arrLe_of, arrLe_0]) rfl)
 ·rw [decide_eq_false_iff_not] at hge
  have hin : i = xs.length := by omega
  subst hin
  refine guardW (.c (.bo (mayQ xs))) _ (fun E => rfl) (fun E a w' hs => mayR w' _ xs hsz (arr_at (d := cl0) hs 0 rfl)) ?_
  simp (maxSteps := 2000000) only [go_sem, ↓condS, ↓exitS, ↓gateS, ↓runOp, ↓gateD, ↓runD, ↓imp_ft, ↓imp_tf, ↓imp_tt, ↓imp_ff, ↓imp_fn, ↓imp_tn, ↓imp_fy, ↓imp_ty, ↓reduceIte, Nat.reduceLT, Nat.reduceLeDiff, Nat.reduceAdd, Nat.reduceSub, Nat.reduceMul, Nat.reduceEqDiff, reduceCtorEq, Int.reduceToNat, Int.reduceEq, Int.reduceBEq, Int.reduceBNe, Int.reduceLT, Int.reduceLE, Int.reduceNeg, Int.reduceAdd, Int.reduceSub, Int.reduceMul, Int.reduceGE, Int.reduceGT, Cl.enc, iv, endO]
  refine retV fun E => ?_
  simp only [SV.den, SC.den]
  congr 1
  unfold nsE
  by_cases e : mayQ xs = true
  ·rw [if_pos e]
   by_cases e2 : (cidx xs xs.length).length ≤ 8
   ·rw [if_pos e2]; simp [e]; omega
   ·rw [if_neg e2]; simp [e]; omega
  ·rw [if_neg e]; simp [e]
set_option maxRecDepth 100000 in
set_option maxHeartbeats 400000 in
theorem found_calls (w : World) (v : Value) (xs : List Cl) (hsz : xs.length * 72 ≤ 140737488355328) (he : nsE xs = 0) (h : Arr w Cl.enc 9 v xs) : Calls Try.prog 32 #[v] w (RetV w (.tuple #[.bool (decide (findE xs = 0)), .bool true])) := by
 refine enter1 (A := []) (c := ir32) (rs := rs32) (nt := nt32) cl0 cl_ok h [.c (.xv (0, 0, 0))] _ Try.func32 rfl (by kernel_rfl) (by kernel_rfl) rfl (fun E' h0 => by simp [SV.den, SC.den, h0]) (of_decide_eq_true rfl) ?_
 simp (maxSteps := 2000000) only [ir32, nt32, rs32, go_sem, ↓condS, ↓exitS, ↓gateS, ↓runOp, ↓gateD, ↓runD, ↓imp_ft, ↓imp_tf, ↓imp_tt, ↓imp_ff, ↓imp_fn, ↓imp_tn, ↓imp_fy, ↓imp_ty, ↓reduceIte, Nat.reduceLT, Nat.reduceLeDiff, Nat.reduceAdd, Nat.reduceSub, Nat.reduceMul, Nat.reduceEqDiff, reduceCtorEq, Int.reduceToNat, Int.reduceEq, Int.reduceBEq, Int.reduceBNe, Int.reduceLT, Int.reduceLE, Int.reduceNeg, Int.reduceAdd, Int.reduceSub, Int.reduceMul, Int.reduceGE, Int.reduceGT, Cl.enc, iv, endO]
 refine call_nid 6 (by decide) ?_
 refine callN 1 (leT 1 (findL xs).length (findE xs)) (lsO 3 1 eI (findL xs) 0) (fun E a w' hs => find_calls w' _ xs hsz (arr_at (d := cl0) hs 0 rfl)) ?_
 simp (maxSteps := 2000000) only [go_sem, ↓condS, ↓exitS, ↓gateS, ↓runOp, ↓gateD, ↓runD, ↓imp_ft, ↓imp_tf, ↓imp_tt, ↓imp_ff, ↓imp_fn, ↓imp_tn, ↓imp_fy, ↓imp_ty, ↓reduceIte, Nat.reduceLT, Nat.reduceLeDiff, Nat.reduceAdd, Nat.reduceSub, Nat.reduceMul, Nat.reduceEqDiff, reduceCtorEq, Int.reduceToNat, Int.reduceEq, Int.reduceBEq, Int.reduceBNe, Int.reduceLT, Int.reduceLE, Int.reduceNeg, Int.reduceAdd, Int.reduceSub, Int.reduceMul, Int.reduceGE, Int.reduceGT, Cl.enc, iv, endO, leT, lsO]
 refine callV (.tup [(false, [.v (.int .i64 (cntW xs))]), (false, [.v (.int .i64 (nsE xs))])]) _ (fun E => rfl) (fun E a w' hs => countW_calls w' _ xs hsz (arr_at (d := cl0) hs 0 rfl)) ?_
 simp (maxSteps := 2000000) only [go_sem, ↓condS, ↓exitS, ↓gateS, ↓runOp, ↓gateD, ↓runD, ↓imp_ft, ↓imp_tf, ↓imp_tt, ↓imp_ff, ↓imp_fn, ↓imp_tn, ↓imp_fy, ↓imp_ty, ↓reduceIte, Nat.reduceLT, Nat.reduceLeDiff, Nat.reduceAdd, Nat.reduceSub, Nat.reduceMul, Nat.reduceEqDiff, reduceCtorEq, Int.reduceToNat, Int.reduceEq, Int.reduceBEq, Int.reduceBNe, Int.reduceLT, Int.reduceLE, Int.reduceNeg, Int.reduceAdd, Int.reduceSub, Int.reduceMul, Int.reduceGE, Int.reduceGT, Cl.enc, iv, endO]
 refine callV (.c (.v (.int .i64 (nsE xs)))) _ (fun E => rfl) (fun E a w' hs => num_calls w' _) ?_
 simp (maxSteps := 2000000) only [go_sem, ↓condS, ↓exitS, ↓gateS, ↓runOp, ↓gateD, ↓runD, ↓imp_ft, ↓imp_tf, ↓imp_tt, ↓imp_ff, ↓imp_fn, ↓imp_tn, ↓imp_fy, ↓imp_ty, ↓reduceIte, Nat.reduceLT, Nat.reduceLeDiff, Nat.reduceAdd, Nat.reduceSub, Nat.reduceMul, Nat.reduceEqDiff, reduceCtorEq, Int.reduceToNat, Int.reduceEq, Int.reduceBEq, Int.reduceBNe, Int.reduceLT, Int.reduceLE, Int.reduceNeg, Int.reduceAdd, Int.reduceSub, Int.reduceMul, Int.reduceGE, Int.reduceGT, Cl.enc, iv, endO, he]
 refine guardW (.c (.v (.int .i64 (findE xs)))) _ (fun E => rfl) (fun E a w' hs => num_calls w' _) ?_
 by_cases hf : findE xs = 0
 ·rw [hf]
  obtain ⟨hk, hn⟩ := find_chk he hf
  have hc : cntW xs = ((allY xs).length : Nat) := by unfold cntW; rw [if_pos he]
  simp (maxSteps := 2000000) only [go_sem, ↓condS, ↓exitS, ↓gateS, ↓runOp, ↓gateD, ↓runD, ↓imp_ft, ↓imp_tf, ↓imp_tt, ↓imp_ff, ↓imp_fn, ↓imp_tn, ↓imp_fy, ↓imp_ty, ↓reduceIte, Nat.reduceLT, Nat.reduceLeDiff, Nat.reduceAdd, Nat.reduceSub, Nat.reduceMul, Nat.reduceEqDiff, reduceCtorEq, Int.reduceToNat, Int.reduceEq, Int.reduceBEq, Int.reduceBNe, Int.reduceLT, Int.reduceLE, Int.reduceNeg, Int.reduceAdd, Int.reduceSub, Int.reduceMul, Int.reduceGE, Int.reduceGT, Cl.enc, iv, endO]
  refine guardW (.c (.v (.int .i64 0))) _ (fun E => rfl) (fun E a w' hs => num_calls w' _) ?_
  simp (maxSteps := 2000000) only [go_sem, ↓condS, ↓exitS, ↓gateS, ↓runOp, ↓gateD, ↓runD, ↓imp_ft, ↓imp_tf, ↓imp_tt, ↓imp_ff, ↓imp_fn, ↓imp_tn, ↓imp_fy, ↓imp_ty, ↓reduceIte, Nat.reduceLT, Nat.reduceLeDiff, Nat.reduceAdd, Nat.reduceSub, Nat.reduceMul, Nat.reduceEqDiff, reduceCtorEq, Int.reduceToNat, Int.reduceEq, Int.reduceBEq, Int.reduceBNe, Int.reduceLT, Int.reduceLE, Int.reduceNeg, Int.reduceAdd, Int.reduceSub, Int.reduceMul, Int.reduceGE, Int.reduceGT, Cl.enc, iv, endO]
  refine callV (.c (.v (.int .i64 0))) _ (fun E => rfl) (fun E a w' hs => num_calls w' _) ?_
  simp (maxSteps := 2000000) only [go_sem, ↓condS, ↓exitS, ↓gateS, ↓runOp, ↓gateD, ↓runD, ↓imp_ft, ↓imp_tf, ↓imp_tt, ↓imp_ff, ↓imp_fn, ↓imp_tn, ↓imp_fy, ↓imp_ty, ↓reduceIte, Nat.reduceLT, Nat.reduceLeDiff, Nat.reduceAdd, Nat.reduceSub, Nat.reduceMul, Nat.reduceEqDiff, reduceCtorEq, Int.reduceToNat, Int.reduceEq, Int.reduceBEq, Int.reduceBNe, Int.reduceLT, Int.reduceLE, Int.reduceNeg, Int.reduceAdd, Int.reduceSub, Int.reduceMul, Int.reduceGE, Int.reduceGT, Cl.enc, iv, endO]
  refine guardW (.c (.v (.int .i64 (chkE xs (findL xs))))) _ (fun E => rfl) (fun E a w' hs => check_calls w' _ _ xs (findL xs) hsz (arr_at (d := cl0) hs 0 rfl) (own_at (d := 0) hs 6 _ rfl rfl)) ?_
  rw [hk]
  simp (maxSteps := 2000000) only [go_sem, ↓condS, ↓exitS, ↓gateS, ↓runOp, ↓gateD, ↓runD, ↓imp_ft, ↓imp_tf, ↓imp_tt, ↓imp_ff, ↓imp_fn, ↓imp_tn, ↓imp_fy, ↓imp_ty, ↓reduceIte, Nat.reduceLT, Nat.reduceLeDiff, Nat.reduceAdd, Nat.reduceSub, Nat.reduceMul, Nat.reduceEqDiff, reduceCtorEq, Int.reduceToNat, Int.reduceEq, Int.reduceBEq, Int.reduceBNe, Int.reduceLT, Int.reduceLE, Int.reduceNeg, Int.reduceAdd, Int.reduceSub, Int.reduceMul, Int.reduceGE, Int.reduceGT, Cl.enc, iv, endO]
  refine guardW (.c (.v (.int .i64 0))) _ (fun E => rfl) (fun E a w' hs => num_calls w' _) ?_
  simp (maxSteps := 2000000) only [go_sem, ↓condS, ↓exitS, ↓gateS, ↓runOp, ↓gateD, ↓runD, ↓imp_ft, ↓imp_tf, ↓imp_tt, ↓imp_ff, ↓imp_fn, ↓imp_tn, ↓imp_fy, ↓imp_ty, ↓reduceIte, Nat.reduceLT, Nat.reduceLeDiff, Nat.reduceAdd, Nat.reduceSub, Nat.reduceMul, Nat.reduceEqDiff, reduceCtorEq, Int.reduceToNat, Int.reduceEq, Int.reduceBEq, Int.reduceBNe, Int.reduceLT, Int.reduceLE, Int.reduceNeg, Int.reduceAdd, Int.reduceSub, Int.reduceMul, Int.reduceGE, Int.reduceGT, Cl.enc, iv, endO]
  refine retV fun E => ?_
  have : decide (cntW xs ≥ 1) = true := by rw [hc]; simp; omega
  simp [SV.den, SC.den, den1, this]
 ·obtain ⟨g1, g2, g3⟩ := find_no he hf
  have hc : cntW xs = 0 := by unfold cntW; rw [if_pos he, g3]; rfl
  rw [g1, g2, hc]
  simp (maxSteps := 2000000) only [go_sem, ↓condS, ↓exitS, ↓gateS, ↓runOp, ↓gateD, ↓runD, ↓imp_ft, ↓imp_tf, ↓imp_tt, ↓imp_ff, ↓imp_fn, ↓imp_tn, ↓imp_fy, ↓imp_ty, ↓reduceIte, Nat.reduceLT, Nat.reduceLeDiff, Nat.reduceAdd, Nat.reduceSub, Nat.reduceMul, Nat.reduceEqDiff, reduceCtorEq, Int.reduceToNat, Int.reduceEq, Int.reduceBEq, Int.reduceBNe, Int.reduceLT, Int.reduceLE, Int.reduceNeg, Int.reduceAdd, Int.reduceSub, Int.reduceMul, Int.reduceGE, Int.reduceGT, Cl.enc, iv, endO]
  refine guardW (.c (.v (.int .i64 124))) _ (fun E => rfl) (fun E a w' hs => num_calls w' _) ?_
  simp (maxSteps := 2000000) only [go_sem, ↓condS, ↓exitS, ↓gateS, ↓runOp, ↓gateD, ↓runD, ↓imp_ft, ↓imp_tf, ↓imp_tt, ↓imp_ff, ↓imp_fn, ↓imp_tn, ↓imp_fy, ↓imp_ty, ↓reduceIte, Nat.reduceLT, Nat.reduceLeDiff, Nat.reduceAdd, Nat.reduceSub, Nat.reduceMul, Nat.reduceEqDiff, reduceCtorEq, Int.reduceToNat, Int.reduceEq, Int.reduceBEq, Int.reduceBNe, Int.reduceLT, Int.reduceLE, Int.reduceNeg, Int.reduceAdd, Int.reduceSub, Int.reduceMul, Int.reduceGE, Int.reduceGT, Cl.enc, iv, endO]
  refine callV (.c (.v (.int .i64 124))) _ (fun E => rfl) (fun E a w' hs => num_calls w' _) ?_
  simp (maxSteps := 2000000) only [go_sem, ↓condS, ↓exitS, ↓gateS, ↓runOp, ↓gateD, ↓runD, ↓imp_ft, ↓imp_tf, ↓imp_tt, ↓imp_ff, ↓imp_fn, ↓imp_tn, ↓imp_fy, ↓imp_ty, ↓reduceIte, Nat.reduceLT, Nat.reduceLeDiff, Nat.reduceAdd, Nat.reduceSub, Nat.reduceMul, Nat.reduceEqDiff, reduceCtorEq, Int.reduceToNat, Int.reduceEq, Int.reduceBEq, Int.reduceBNe, Int.reduceLT, Int.reduceLE, Int.reduceNeg, Int.reduceAdd, Int.reduceSub, Int.reduceMul, Int.reduceGE, Int.reduceGT, Cl.enc, iv, endO]
  refine retV fun E => ?_
  simp [SV.den, SC.den, den1]
end Go.Proofs.Ytkjeedlkkpgopaa.Z
namespace Go.Proofs.Ytkjeedlkkpgopaa.Z
open Go Go.RowKit
def L3 : List Cl := [⟨0, 30, 1, 0, 0, 9, 8, 1, 0⟩, ⟨1, 31, 0, 0, 1, 3, 2, 3, 0⟩, ⟨1, 31, 0, 0, 10, 14, 12, 2, 1⟩]
theorem l3_lt {P : Nat → Prop} (h0 : P 0) (h1 : P 1) (h2 : P 2) : ∀ k, k < 3 → P k
 | 0, _ => h0
 | 1, _ => h1
 | 2, _ => h2
theorem l3_may : mayP L3 := by
 refine ⟨⟨?_, ?_, ?_⟩, ?_⟩
 ·exact l3_lt (by decide) (by decide) (by decide)
 ·intro k hk
  have hk : k + 1 < 3 := hk
  match k, hk with
  | 0, _ => decide
  | 1, _ => decide
 ·intro j k hj hk
  have hk : k < 3 := hk
  have : (j = 0 ∧ k = 1) ∨ (j = 0 ∧ k = 2) ∨ (j = 1 ∧ k = 2) := by omega
  rcases this with ⟨rfl, rfl⟩ | ⟨rfl, rfl⟩ | ⟨rfl, rfl⟩ <;> decide
 ·intro j k hj hk t ht
  have hk : k < 3 := hk
  have : (j = 0 ∧ k = 1) ∨ (j = 0 ∧ k = 2) ∨ (j = 1 ∧ k = 2) := by omega
  rcases this with ⟨rfl, rfl⟩ | ⟨rfl, rfl⟩ | ⟨rfl, rfl⟩ <;> simp [L3, Cl.moves] <;> omega
theorem l3_nm : nmA L3 = [0, 1, 2] := by decide
theorem l3_cy : cyA L3 = L3 := by decide
theorem l3_ns : nsE L3 = 0 := by
 unfold nsE
 rw [if_pos (mayQ_iff.2 l3_may), show cidx L3 L3.length = [0, 1, 2] from l3_nm]
 rfl
theorem l3_all : allY L3 = [[1, 0, 2]] := by
 unfold allY
 rw [l3_cy]
 decide
theorem l3_find : findE L3 = 0 ∧ findL L3 = [1, 0, 2] ∧ cntW L3 = 1 := by
 unfold findE findL cntW nmL
 rw [if_pos l3_ns, if_pos l3_ns, if_pos l3_ns, l3_all, l3_nm]
 exact ⟨rfl, rfl, rfl⟩
theorem l3_chk : chkE L3 [1, 0, 2] = 0 := by
 have := (find_chk l3_ns l3_find.1).1
 rwa [l3_find.2.1] at this
theorem l3_no : chkE L3 [0, 1, 2] = 123 := by
 unfold chkE
 have h1 : IsO L3 [0, 1, 2] := ⟨by decide, by decide, fun i hi _ _ => l3_lt (P := fun i => (i : Int) ∈ [0, 1, 2]) (by decide) (by decide) (by decide) i hi⟩
 have h2 : InT L3 [0, 1, 2] := by unfold InT; decide
 rw [if_pos (pB_t.2 l3_may), if_pos (pB_t.2 h1), if_pos (pB_t.2 h2), if_neg (by decide)]
end Go.Proofs.Ytkjeedlkkpgopaa.Z
namespace Go.Proofs.Ytkjeedlkkpgopaa.Z
open Go Go.RowKit
def ir30 : IR := (.seq (.ops [⟨(some 0), (.mv (.k (.c (.v (.bool false))))), none⟩]) (.kill [0, 1, 2, 3, 4, 5, 6, 7, 8, 9, 10, 11] (.seq (.ops [⟨(some 6), (.build [(.v (.int .i64 0)), (.v (.int .i64 0))] [(0, (1, (.k (.c (.v (.int .i64 1))))))]), none⟩, ⟨(some 7), (.build [(.v (.int .i64 0)), (.v (.int .i64 0)), (.v (.int .i64 0)), (.v (.int .i64 0)), (.v (.int .i64 0)), (.v (.int .i64 0)), (.v (.int .i64 0)), (.v (.int .i64 0)), (.v (.int .i64 0))] [(0, (1, (.k (.c (.v (.int .i64 0)))))), (1, (1, (.k (.c (.v (.int .i64 30)))))), (2, (1, (.k (.c (.v (.int .i64 1)))))), (4, (1, (.k (.c (.v (.int .i64 0)))))), (5, (1, (.k (.c (.v (.int .i64 9)))))), (6, (1, (.k (.c (.v (.int .i64 8)))))), (7, (2, (.t 6)))]), none⟩, ⟨(some 8), (.build [(.v (.int .i64 0)), (.v (.int .i64 0))] [(0, (1, (.k (.c (.v (.int .i64 3))))))]), none⟩, ⟨(some 9), (.build [(.v (.int .i64 0)), (.v (.int .i64 0)), (.v (.int .i64 0)), (.v (.int .i64 0)), (.v (.int .i64 0)), (.v (.int .i64 0)), (.v (.int .i64 0)), (.v (.int .i64 0)), (.v (.int .i64 0))] [(0, (1, (.k (.c (.v (.int .i64 1)))))), (1, (1, (.k (.c (.v (.int .i64 31)))))), (4, (1, (.k (.c (.v (.int .i64 1)))))), (5, (1, (.k (.c (.v (.int .i64 3)))))), (6, (1, (.k (.c (.v (.int .i64 2)))))), (7, (2, (.t 8)))]), none⟩, ⟨(some 10), (.build [(.v (.int .i64 0)), (.v (.int .i64 0))] [(0, (1, (.k (.c (.v (.int .i64 2)))))), (1, (1, (.k (.c (.v (.int .i64 1))))))]), none⟩, ⟨(some 11), (.build [(.v (.int .i64 0)), (.v (.int .i64 0)), (.v (.int .i64 0)), (.v (.int .i64 0)), (.v (.int .i64 0)), (.v (.int .i64 0)), (.v (.int .i64 0)), (.v (.int .i64 0)), (.v (.int .i64 0))] [(0, (1, (.k (.c (.v (.int .i64 1)))))), (1, (1, (.k (.c (.v (.int .i64 31)))))), (4, (1, (.k (.c (.v (.int .i64 10)))))), (5, (1, (.k (.c (.v (.int .i64 14)))))), (6, (1, (.k (.c (.v (.int .i64 12)))))), (7, (2, (.t 10)))]), none⟩, ⟨(some 12), (.mkSl 53 3 9 [(.v (.int .i64 0)), (.v (.int .i64 0)), (.v (.int .i64 0)), (.v (.int .i64 0)), (.v (.int .i64 0)), (.v (.int .i64 0)), (.v (.int .i64 0)), (.v (.int .i64 0)), (.v (.int .i64 0)), (.v (.int .i64 0)), (.v (.int .i64 0)), (.v (.int .i64 0)), (.v (.int .i64 0)), (.v (.int .i64 0)), (.v (.int .i64 0)), (.v (.int .i64 0)), (.v (.int .i64 0)), (.v (.int .i64 0)), (.v (.int .i64 0)), (.v (.int .i64 0)), (.v (.int .i64 0)), (.v (.int .i64 0)), (.v (.int .i64 0)), (.v (.int .i64 0)), (.v (.int .i64 0)), (.v (.int .i64 0)), (.v (.int .i64 0))] [(0, (9, (.t 7))), (9, (9, (.t 9))), (18, (9, (.t 11)))]), none⟩, ⟨(some 1), (.mv (.t 12)), none⟩]) (.kill [6, 7, 8, 9, 10, 11, 12] (.seq (.ops [⟨(some 14), (.mv (.t 1)), none⟩, ⟨(some 15), (.call 26 [(.t 14)]), none⟩, ⟨(some 13), (.mv (.t 15)), none⟩, ⟨(some 16), (.ext 0 (.t 13)), none⟩, ⟨(some 17), (.ext 1 (.t 13)), none⟩, ⟨(some 2), (.mv (.t 16)), none⟩, ⟨(some 3), (.mv (.t 17)), none⟩]) (.kill [13, 14, 15, 16, 17] (.seq (.ops [⟨(some 19), (.mv (.t 1)), none⟩, ⟨(some 20), (.call 28 [(.t 19)]), none⟩, ⟨(some 18), (.mv (.t 20)), none⟩, ⟨(some 21), (.ext 0 (.t 18)), none⟩, ⟨(some 22), (.ext 1 (.t 18)), none⟩, ⟨(some 4), (.mv (.t 21)), none⟩, ⟨(some 5), (.mv (.t 22)), none⟩]) (.kill [18, 19, 20, 21, 22] (.seq (.ops [⟨(some 23), (.mv (.t 3)), none⟩, ⟨(some 24), (.call 21 [(.t 23)]), none⟩, ⟨(some 25), (.bin .eql (.t 24) (.k (.c (.v (.int .i64 0))))), none⟩, ⟨(some 26), (.mv (.t 25)), none⟩, ⟨(some 27), (.mv (.t 5)), (some (26, true))⟩, ⟨(some 28), (.call 21 [(.t 27)]), (some (26, true))⟩, ⟨(some 29), (.bin .eql (.t 28) (.k (.c (.v (.int .i64 0))))), (some (26, true))⟩, ⟨(some 30), (.pick (.t 26) (.t 29) (.k (.c (.v (.bool false))))), none⟩, ⟨(some 31), (.mv (.t 30)), none⟩, ⟨(some 32), (.mv (.t 4)), (some (31, true))⟩, ⟨(some 33), (.bin .eql (.t 32) (.k (.c (.v (.int .i64 1))))), (some (31, true))⟩, ⟨(some 34), (.pick (.t 31) (.t 33) (.k (.c (.v (.bool false))))), none⟩, ⟨(some 35), (.mv (.t 34)), none⟩, ⟨(some 36), (.mv (.t 2)), (some (35, true))⟩, ⟨(some 37), (.mkSl 3 3 1 [(.v (.int .i64 0)), (.v (.int .i64 0)), (.v (.int .i64 0))] [(0, (1, (.k (.c (.v (.int .i64 1)))))), (1, (1, (.k (.c (.v (.int .i64 0)))))), (2, (1, (.k (.c (.v (.int .i64 2))))))]), (some (35, true))⟩, ⟨(some 38), (.call 23 [(.t 36), (.t 37)]), (some (35, true))⟩, ⟨(some 39), (.pick (.t 35) (.t 38) (.k (.c (.v (.bool false))))), none⟩, ⟨(some 40), (.mv (.t 39)), none⟩, ⟨(some 41), (.mv (.t 1)), (some (40, true))⟩, ⟨(some 42), (.mkSl 3 3 1 [(.v (.int .i64 0)), (.v (.int .i64 0)), (.v (.int .i64 0))] [(0, (1, (.k (.c (.v (.int .i64 0)))))), (1, (1, (.k (.c (.v (.int .i64 1)))))), (2, (1, (.k (.c (.v (.int .i64 2))))))]), (some (40, true))⟩, ⟨(some 43), (.call 35 [(.t 41), (.t 42)]), (some (40, true))⟩, ⟨(some 44), (.call 21 [(.t 43)]), (some (40, true))⟩, ⟨(some 45), (.bin .eql (.t 44) (.k (.c (.v (.int .i64 123))))), (some (40, true))⟩, ⟨(some 46), (.pick (.t 40) (.t 45) (.k (.c (.v (.bool false))))), none⟩, ⟨(some 47), (.mv (.t 46)), none⟩, ⟨(some 48), (.mv (.t 1)), (some (47, true))⟩, ⟨(some 49), (.mv (.t 2)), (some (47, true))⟩, ⟨(some 50), (.call 35 [(.t 48), (.t 49)]), (some (47, true))⟩, ⟨(some 51), (.call 21 [(.t 50)]), (some (47, true))⟩, ⟨(some 52), (.bin .eql (.t 51) (.k (.c (.v (.int .i64 0))))), (some (47, true))⟩, ⟨(some 53), (.pick (.t 47) (.t 52) (.k (.c (.v (.bool false))))), none⟩, ⟨(some 0), (.mv (.t 53)), none⟩]) (.kill [1, 2, 3, 4, 5, 23, 24, 25, 26, 27, 28, 29, 30, 31, 32, 33, 34, 35, 36, 37, 38, 39, 40, 41, 42, 43, 44, 45, 46, 47, 48, 49, 50, 51, 52, 53] .ret))))))))))
def rs30 : List RS := [(.t 0)]
def nt30 : Nat := 54
set_option maxRecDepth 100000 in
set_option maxHeartbeats 400000 in
theorem awake_calls (w : World) : Calls Try.prog 30 #[] w (RetV w (.bool true)) := by
 refine enter0 (A := []) (c := ir30) (rs := rs30) (nt := nt30) [] _ Try.func30 rfl (by kernel_rfl) (by kernel_rfl) rfl (fun E' => rfl) (of_decide_eq_true rfl) ?_
 simp (maxSteps := 2000000) only [ir30, nt30, rs30, go_sem, ↓condS, ↓exitS, ↓gateS, ↓runOp, ↓gateD, ↓runD, ↓imp_ft, ↓imp_tf, ↓imp_tt, ↓imp_ff, ↓imp_fn, ↓imp_tn, ↓imp_fy, ↓imp_ty, ↓reduceIte, Nat.reduceLT, Nat.reduceLeDiff, Nat.reduceAdd, Nat.reduceSub, Nat.reduceMul, Nat.reduceEqDiff, reduceCtorEq, Int.reduceToNat, Int.reduceEq, Int.reduceBEq, Int.reduceBNe, Int.reduceLT, Int.reduceLE, Int.reduceNeg, Int.reduceAdd, Int.reduceSub, Int.reduceMul, Int.reduceGE, Int.reduceGT, Cl.enc, iv, endO]
 have hL : ∀ {C : Ctx} {E : Env} {S : St} {a : Act} {w' : World}, Sat C.B C.W C.w0 E S a w' → look S.own 0 = some (.one (.ar 3 9 (segs 9 (Cl.sc ⟨0, 30, 1, 0, 0, 9, 8, 1, 0⟩ ++ Cl.sc ⟨1, 31, 0, 0, 1, 3, 2, 3, 0⟩ ++ Cl.sc ⟨1, 31, 0, 0, 10, 14, 12, 2, 1⟩)) 53)) → Arr w' Cl.enc 9 ((SC.sl (0, 0, 0) 9 0 3 none).den E) L3 := fun hs h0 =>
  arr_own (d := cl0) hs 0 3 3 _ h0 rfl (Nat.le_refl _) (l3_lt rfl rfl rfl)
 obtain ⟨f1, f2, f3⟩ := l3_find
 refine And.intro (by decide) ?_
 refine callN 1 (leT 1 (findL L3).length (findE L3)) (lsO 3 1 eI (findL L3) 0) (fun E a w' hs => find_calls w' _ L3 (by decide) (hL hs rfl)) ?_
 rw [f1, f2]
 simp (maxSteps := 2000000) only [go_sem, ↓condS, ↓exitS, ↓gateS, ↓runOp, ↓gateD, ↓runD, ↓imp_ft, ↓imp_tf, ↓imp_tt, ↓imp_ff, ↓imp_fn, ↓imp_tn, ↓imp_fy, ↓imp_ty, ↓reduceIte, Nat.reduceLT, Nat.reduceLeDiff, Nat.reduceAdd, Nat.reduceSub, Nat.reduceMul, Nat.reduceEqDiff, reduceCtorEq, Int.reduceToNat, Int.reduceEq, Int.reduceBEq, Int.reduceBNe, Int.reduceLT, Int.reduceLE, Int.reduceNeg, Int.reduceAdd, Int.reduceSub, Int.reduceMul, Int.reduceGE, Int.reduceGT, Cl.enc, iv, endO, leT, lsO]
 refine callV (.tup [(false, [.v (.int .i64 1)]), (false, [.v (.int .i64 0)])]) (.tuple #[.int .i64 1, .int .i64 0]) (fun E => rfl) (fun E a w' hs => by
  have := countW_calls w' _ L3 (by decide) (hL hs rfl)
  rw [f3, l3_ns] at this
  exact this) ?_
 simp (maxSteps := 2000000) only [go_sem, ↓condS, ↓exitS, ↓gateS, ↓runOp, ↓gateD, ↓runD, ↓imp_ft, ↓imp_tf, ↓imp_tt, ↓imp_ff, ↓imp_fn, ↓imp_tn, ↓imp_fy, ↓imp_ty, ↓reduceIte, Nat.reduceLT, Nat.reduceLeDiff, Nat.reduceAdd, Nat.reduceSub, Nat.reduceMul, Nat.reduceEqDiff, reduceCtorEq, Int.reduceToNat, Int.reduceEq, Int.reduceBEq, Int.reduceBNe, Int.reduceLT, Int.reduceLE, Int.reduceNeg, Int.reduceAdd, Int.reduceSub, Int.reduceMul, Int.reduceGE, Int.reduceGT, Cl.enc, iv, endO]
 refine callV (.c (.v (.int .i64 0))) _ (fun E => rfl) (fun E a w' hs => num_calls w' _) ?_
 simp (maxSteps := 2000000) only [go_sem, ↓condS, ↓exitS, ↓gateS, ↓runOp, ↓gateD, ↓runD, ↓imp_ft, ↓imp_tf, ↓imp_tt, ↓imp_ff, ↓imp_fn, ↓imp_tn, ↓imp_fy, ↓imp_ty, ↓reduceIte, Nat.reduceLT, Nat.reduceLeDiff, Nat.reduceAdd, Nat.reduceSub, Nat.reduceMul, Nat.reduceEqDiff, reduceCtorEq, Int.reduceToNat, Int.reduceEq, Int.reduceBEq, Int.reduceBNe, Int.reduceLT, Int.reduceLE, Int.reduceNeg, Int.reduceAdd, Int.reduceSub, Int.reduceMul, Int.reduceGE, Int.reduceGT, Cl.enc, iv, endO]
 refine guardW (.c (.v (.int .i64 0))) _ (fun E => rfl) (fun E a w' hs => num_calls w' _) ?_
 simp (maxSteps := 2000000) only [go_sem, ↓condS, ↓exitS, ↓gateS, ↓runOp, ↓gateD, ↓runD, ↓imp_ft, ↓imp_tf, ↓imp_tt, ↓imp_ff, ↓imp_fn, ↓imp_tn, ↓imp_fy, ↓imp_ty, ↓reduceIte, Nat.reduceLT, Nat.reduceLeDiff, Nat.reduceAdd, Nat.reduceSub, Nat.reduceMul, Nat.reduceEqDiff, reduceCtorEq, Int.reduceToNat, Int.reduceEq, Int.reduceBEq, Int.reduceBNe, Int.reduceLT, Int.reduceLE, Int.reduceNeg, Int.reduceAdd, Int.reduceSub, Int.reduceMul, Int.reduceGE, Int.reduceGT, Cl.enc, iv, endO]
 simp (maxSteps := 2000000) only [forkS, go_sem, ↓condS, ↓exitS, ↓gateS, ↓runOp, ↓gateD, ↓runD, ↓imp_ft, ↓imp_tf, ↓imp_tt, ↓imp_ff, ↓imp_fn, ↓imp_tn, ↓imp_fy, ↓imp_ty, ↓reduceIte, Nat.reduceLT, Nat.reduceLeDiff, Nat.reduceAdd, Nat.reduceSub, Nat.reduceMul, Nat.reduceEqDiff, reduceCtorEq, Int.reduceToNat, Int.reduceEq, Int.reduceBEq, Int.reduceBNe, Int.reduceLT, Int.reduceLE, Int.reduceNeg, Int.reduceAdd, Int.reduceSub, Int.reduceMul, Int.reduceGE, Int.reduceGT, Cl.enc, iv, endO]
 refine And.intro (by decide) ?_
 refine callV (.c (.v (.bool true))) (.bool true) (fun E => rfl) (fun E a w' hs => same_calls w' _ _ [1, 0, 2] [1, 0, 2] (own_at (d := 0) hs 1 3 rfl rfl) (arr_own (d := 0) hs 2 3 3 _ rfl rfl (Nat.le_refl _) (l3_lt rfl rfl rfl))) ?_
 simp (maxSteps := 2000000) only [forkS, go_sem, ↓condS, ↓exitS, ↓gateS, ↓runOp, ↓gateD, ↓runD, ↓imp_ft, ↓imp_tf, ↓imp_tt, ↓imp_ff, ↓imp_fn, ↓imp_tn, ↓imp_fy, ↓imp_ty, ↓reduceIte, Nat.reduceLT, Nat.reduceLeDiff, Nat.reduceAdd, Nat.reduceSub, Nat.reduceMul, Nat.reduceEqDiff, reduceCtorEq, Int.reduceToNat, Int.reduceEq, Int.reduceBEq, Int.reduceBNe, Int.reduceLT, Int.reduceLE, Int.reduceNeg, Int.reduceAdd, Int.reduceSub, Int.reduceMul, Int.reduceGE, Int.reduceGT, Cl.enc, iv, endO]
 refine And.intro (by decide) ?_
 refine callV (.c (.v (.int .i64 123))) (.int .i64 123) (fun E => rfl) (fun E a w' hs => by
  have := check_calls w' _ _ L3 [0, 1, 2] (by decide) (hL hs rfl) (arr_own (d := 0) hs 3 3 3 _ rfl rfl (Nat.le_refl _) (l3_lt rfl rfl rfl))
  rw [l3_no] at this
  exact this) ?_
 simp (maxSteps := 2000000) only [forkS, go_sem, ↓condS, ↓exitS, ↓gateS, ↓runOp, ↓gateD, ↓runD, ↓imp_ft, ↓imp_tf, ↓imp_tt, ↓imp_ff, ↓imp_fn, ↓imp_tn, ↓imp_fy, ↓imp_ty, ↓reduceIte, Nat.reduceLT, Nat.reduceLeDiff, Nat.reduceAdd, Nat.reduceSub, Nat.reduceMul, Nat.reduceEqDiff, reduceCtorEq, Int.reduceToNat, Int.reduceEq, Int.reduceBEq, Int.reduceBNe, Int.reduceLT, Int.reduceLE, Int.reduceNeg, Int.reduceAdd, Int.reduceSub, Int.reduceMul, Int.reduceGE, Int.reduceGT, Cl.enc, iv, endO]
 refine callV (.c (.v (.int .i64 123))) _ (fun E => rfl) (fun E a w' hs => num_calls w' _) ?_
 simp (maxSteps := 2000000) only [forkS, go_sem, ↓condS, ↓exitS, ↓gateS, ↓runOp, ↓gateD, ↓runD, ↓imp_ft, ↓imp_tf, ↓imp_tt, ↓imp_ff, ↓imp_fn, ↓imp_tn, ↓imp_fy, ↓imp_ty, ↓reduceIte, Nat.reduceLT, Nat.reduceLeDiff, Nat.reduceAdd, Nat.reduceSub, Nat.reduceMul, Nat.reduceEqDiff, reduceCtorEq, Int.reduceToNat, Int.reduceEq, Int.reduceBEq, Int.reduceBNe, Int.reduceLT, Int.reduceLE, Int.reduceNeg, Int.reduceAdd, Int.reduceSub, Int.reduceMul, Int.reduceGE, Int.reduceGT, Cl.enc, iv, endO]
 refine guardW (.c (.v (.int .i64 0))) (.int .i64 0) (fun E => rfl) (fun E a w' hs => by
  have := check_calls w' _ _ L3 [1, 0, 2] (by decide) (hL hs rfl) (own_at (d := 0) hs 1 3 rfl rfl)
  rw [l3_chk] at this
  exact this) ?_
 simp (maxSteps := 2000000) only [forkS, go_sem, ↓condS, ↓exitS, ↓gateS, ↓runOp, ↓gateD, ↓runD, ↓imp_ft, ↓imp_tf, ↓imp_tt, ↓imp_ff, ↓imp_fn, ↓imp_tn, ↓imp_fy, ↓imp_ty, ↓reduceIte, Nat.reduceLT, Nat.reduceLeDiff, Nat.reduceAdd, Nat.reduceSub, Nat.reduceMul, Nat.reduceEqDiff, reduceCtorEq, Int.reduceToNat, Int.reduceEq, Int.reduceBEq, Int.reduceBNe, Int.reduceLT, Int.reduceLE, Int.reduceNeg, Int.reduceAdd, Int.reduceSub, Int.reduceMul, Int.reduceGE, Int.reduceGT, Cl.enc, iv, endO]
 refine guardW (.c (.v (.int .i64 0))) _ (fun E => rfl) (fun E a w' hs => num_calls w' _) ?_
 simp (maxSteps := 2000000) only [forkS, go_sem, ↓condS, ↓exitS, ↓gateS, ↓runOp, ↓gateD, ↓runD, ↓imp_ft, ↓imp_tf, ↓imp_tt, ↓imp_ff, ↓imp_fn, ↓imp_tn, ↓imp_fy, ↓imp_ty, ↓reduceIte, Nat.reduceLT, Nat.reduceLeDiff, Nat.reduceAdd, Nat.reduceSub, Nat.reduceMul, Nat.reduceEqDiff, reduceCtorEq, Int.reduceToNat, Int.reduceEq, Int.reduceBEq, Int.reduceBNe, Int.reduceLT, Int.reduceLE, Int.reduceNeg, Int.reduceAdd, Int.reduceSub, Int.reduceMul, Int.reduceGE, Int.reduceGT, Cl.enc, iv, endO]
 exact retV fun E => by simp [SV.den, SC.den]
end Go.Proofs.Ytkjeedlkkpgopaa.Z
namespace Go.Proofs.Ytkjeedlkkpgopaa.Z
open Go Go.RowKit
def PairC (a b : Cl) : Prop := a.beg < b.beg ∧ (a.thread = b.thread → a.fin ≠ -1 ∧ a.fin < b.beg) ∧ ∀ t, t ≠ -1 → t ∈ a.moves → t ∉ b.moves
theorem getD_lt {xs : List Cl} {i : Nat} (h : i < xs.length) : xs.getD i cl0 = xs[i] := by rw [List.getD_eq_getElem?_getD, List.getElem?_eq_getElem h]; rfl
theorem mayL_iff {xs : List Cl} : mayP xs ↔ (∀ c ∈ xs, shapedB c = true) ∧ xs.Pairwise PairC := by
 constructor
 ·rintro ⟨hA, hB⟩
  have hup : ∀ d j, j + d + 1 < xs.length → (xs.getD j cl0).beg < (xs.getD (j + d + 1) cl0).beg := by
   intro d
   induction d with
   | zero => intro j hj; exact hA.up j hj
   | succ d ih =>
    intro j hj
    have h1 := ih j (by omega)
    have h2 := hA.up (j + d + 1) (by omega)
    have : j + (d + 1) + 1 = j + d + 1 + 1 := by omega
    rw [this]
    omega
  refine ⟨fun c hc => ?_, List.pairwise_iff_getElem.2 fun i j hi hj hij => ?_⟩
  ·obtain ⟨i, hi, rfl⟩ := List.getElem_of_mem hc
   have := hA.shaped i hi
   rwa [getD_lt hi] at this
  ·have h1 := hup (j - i - 1) i (by omega)
   have e : i + (j - i - 1) + 1 = j := by omega
   rw [e, getD_lt hi, getD_lt hj] at h1
   have h2 := hA.thr i j hij hj
   have h3 := hB i j hij hj
   rw [getD_lt hi, getD_lt hj] at h2 h3
   exact ⟨h1, h2, h3⟩
 ·rintro ⟨h1, h2⟩
  have h2 := List.pairwise_iff_getElem.1 h2
  refine ⟨⟨fun k hk => ?_, fun k hk => ?_, fun j k hj hk => ?_⟩, fun j k hj hk => ?_⟩
  ·rw [getD_lt hk]; exact h1 _ (List.getElem_mem hk)
  ·rw [getD_lt (by omega), getD_lt hk]
   exact (h2 k (k + 1) (by omega) hk (by omega)).1
  ·rw [getD_lt (by omega), getD_lt hk]
   exact (h2 j k (by omega) hk hj).2.1
  ·rw [getD_lt (by omega), getD_lt hk]
   exact (h2 j k (by omega) hk hj).2.2
theorem range_getD (xs : List Cl) : (List.range xs.length).map (fun i => xs.getD i cl0) = xs := by
 apply List.ext_getElem
 ·simp
 ·intro i h1 h2
  rw [List.getElem_map, List.getElem_range, getD_lt h2]
def idxP (xs : List Cl) (p : Cl → Bool) : List Nat := (List.range xs.length).filter fun i => p (xs.getD i cl0)
theorem idxP_map (xs : List Cl) (p : Cl → Bool) : (idxP xs p).map (fun i => xs.getD i cl0) = xs.filter p := by
 have := List.filter_map (f := fun i => xs.getD i cl0) (p := p) (l := List.range xs.length)
 rw [range_getD] at this
 rw [this]; rfl
theorem cyA_eq (xs : List Cl) : cyA xs = xs.filter cntB := idxP_map xs cntB
theorem ns_iff {xs : List Cl} : nsE xs = 0 ↔ mayQ xs = true ∧ (xs.filter cntB).length ≤ 8 := by
 have h : (cidx xs xs.length).length = (xs.filter cntB).length := by
  rw [← cyA_eq, cyA_len]; rfl
 unfold nsE
 rw [h]
 constructor
 ·intro hn
  split at hn
  ·next h1 =>
   split at hn
   ·next h2 => exact ⟨h1, h2⟩
   ·cases hn
  ·cases hn
 ·rintro ⟨h1, h2⟩
  rw [if_pos h1, if_pos h2]
theorem ex_iff {σ : Type} {h : Hist σ} {cand : List Nat} {s0 : σ} (he : ∀ i j, h.ah i j = true → h.ended i = true) : (∃ x, h.Expl cand s0 x) ↔ h.srch cand (h.mayW cand) (cand.length + 1) [] s0 ≠ [] := by
 rw [srch_eq (s0 := s0) he _ _ _ (Hist.Pre.nil s0) closed_nil (by simp)]
 have hm := mem_srchR (h := h) (cand := cand) (s0 := s0) (cand.length + 1) [] s0 (Hist.Pre.nil s0) (by simp)
 constructor
 ·rintro ⟨x, hx⟩ hn
  have := (hm x).2 ⟨hx, List.nil_prefix⟩
  rw [hn] at this; cases this
 ·intro hn
  cases hl : h.srch cand h.nextR (cand.length + 1) [] s0 with
  | nil => exact absurd hl hn
  | cons x l => exact ⟨x, ((hm x).1 (by rw [hl]; simp)).1⟩
theorem ex_via {σ : Type} {h : Hist σ} {nm : Nat → Nat} {c : List Nat} {s0 : σ} (he : ∀ i j, h.ah i j = true → h.ended i = true) (hinj : ∀ a ∈ c, ∀ b ∈ c, nm a = nm b → a = b) : (∃ x, (h.via nm).Expl c s0 x) ↔ ∃ x, h.Expl (c.map nm) s0 x := by
 rw [ex_iff he, ex_iff (h := h.via nm) fun i j hij => he _ _ hij]
 have := srch_via h nm c hinj (c.length + 1) [] s0 (fun i hi => by cases hi)
 rw [List.map_nil] at this
 rw [List.length_map, this]
 constructor
 ·intro hn hm; exact hn (List.map_eq_nil_iff.1 hm)
 ·intro hn hm; exact hn (by rw [hm]; rfl)
theorem ex_part {zs : List Cl} {p : Cl → Bool} : (∃ x, (hY (zs.filter p)).Expl (cY (zs.filter p)) mc0 x) ↔ ∃ x, (hY zs).Expl (idxP zs p) mc0 x := by
 have hl : (zs.filter p).length = (idxP zs p).length := by rw [← idxP_map, List.length_map]
 have hg : ∀ i, (zs.filter p).getD i cl0 = zs.getD ((idxP zs p).getD i zs.length) cl0 := fun i => by
  rw [← idxP_map, List.getD_eq_getElem?_getD, List.getElem?_map]
  by_cases hi : i < (idxP zs p).length
  ·rw [List.getElem?_eq_getElem hi, List.getD_eq_getElem?_getD (l := idxP zs p), List.getElem?_eq_getElem hi]; rfl
  ·rw [List.getElem?_eq_none (by omega), List.getD_eq_getElem?_getD (l := idxP zs p), List.getElem?_eq_none (by omega), List.getD_eq_getElem?_getD, List.getElem?_eq_none (by simp)]; rfl
 have hv : hY (zs.filter p) = (hY zs).via fun i => (idxP zs p).getD i zs.length := by
  simp only [hY, Hist.via, hg]
 have hc : (cY (zs.filter p)).map (fun i => (idxP zs p).getD i zs.length) = idxP zs p := by
  apply List.ext_getElem
  ·simp [cY, hl]
  ·intro i h1 h2
   rw [List.getElem_map]
   simp only [cY, List.getElem_range]
   rw [List.getD_eq_getElem?_getD, List.getElem?_eq_getElem h2]; rfl
 have hnd : (idxP zs p).Nodup := List.nodup_range.sublist List.filter_sublist
 rw [hv, ex_via (hY_ended zs) fun a ha b hb hab => ?_, hc]
 simp only [cY, List.mem_range, hl] at ha hb
 rw [List.getD_eq_getElem?_getD, List.getD_eq_getElem?_getD, List.getElem?_eq_getElem ha, List.getElem?_eq_getElem hb] at hab
 exact (List.getElem_inj hnd).1 hab
theorem find_ex {xs : List Cl} (he : nsE xs = 0) : findE xs = 0 ↔ ∃ x, (hY (cyA xs)).Expl (cY (cyA xs)) mc0 x := by
 have h8 := nsE_0 he
 unfold findE
 rw [if_pos he]
 constructor
 ·intro h
  split at h
  ·next h1 =>
   obtain ⟨x, hx⟩ := Option.isSome_iff_exists.1 h1
   exact ⟨x, (all_expl h8).1 (head_mem hx)⟩
  ·cases h
 ·rintro ⟨x, hx⟩
  have := (all_expl h8).2 hx
  rw [if_pos]
  cases hl : allY xs with
  | nil => rw [hl] at this; cases this
  | cons a l => rfl
end Go.Proofs.Ytkjeedlkkpgopaa.Z
namespace Go.Proofs.Ytkjeedlkkpgopaa.Z
open Go Go.RowKit
def cutC (m : Int) (c : Cl) : Cl := ⟨c.thread, c.op, c.arg, c.data, c.beg, if c.fin ≥ m then -1 else c.fin, if c.point ≥ m then -1 else c.point, if c.fin ≥ m then 0 else c.kind, if c.fin ≥ m then 0 else c.val⟩
def cutP (m : Int) (c : Cl) : Bool := decide (c.beg < m)
def cutL (xs : List Cl) (m : Int) : List Cl := (xs.filter (cutP m)).map (cutC m)
theorem getD_ltC {α : Type} {xs : List α} {i : Nat} {d : α} (h : i < xs.length) : xs.getD i d = xs[i] := by rw [List.getD_eq_getElem?_getD, List.getElem?_eq_getElem h]; rfl
theorem cutL_len (xs : List Cl) (m : Int) : (cutL xs m).length ≤ xs.length := by
 unfold cutL; rw [List.length_map]; exact List.length_filter_le _ _
def cutK (xs : List Cl) (m : Int) (i : Nat) : List Cl := cutL (xs.take i) m
theorem cutK_len (xs : List Cl) (m : Int) (i : Nat) : (cutK xs m i).length ≤ i := by
 have := cutL_len (xs.take i) m
 have h2 := List.length_take_le i xs
 unfold cutK; omega
theorem cutK_succ (xs : List Cl) (m : Int) {i : Nat} (h : i < xs.length) : cutK xs m (i + 1) = if (xs.getD i cl0).beg ≥ m then cutK xs m i else cutK xs m i ++ [cutC m (xs.getD i cl0)] := by
 unfold cutK cutL
 rw [List.take_succ_eq_append_getElem h, List.filter_append, getD_ltC h]
 by_cases e : xs[i].beg ≥ m
 ·rw [if_pos e, List.filter_cons_of_neg (by simp [cutP]; omega)]; simp
 ·rw [if_neg e, List.filter_cons_of_pos (by simp [cutP]; omega)]; simp
def ir34 : IR := (.seq (.ops [⟨(some 4), (.mv (.k (.c (.v (.slice none 0 0))))), none⟩]) (.kill [2, 3, 4, 5, 6, 7, 8, 9, 10, 11] (.seq (.ops [⟨(some 5), (.mv (.k (.c (.v (.slice none 0 0))))), none⟩]) (.seq (.seq (.ops [⟨(some 6), (.mv (.k (.c (.v (.int .i64 0))))), none⟩]) (.blk 0 (.loop (.seq (.seq (.ops [⟨(some 8), (.mv (.t 6)), none⟩, ⟨(some 9), (.mv (.t 0)), none⟩, ⟨(some 10), (.len (.t 9)), none⟩, ⟨(some 11), (.bin .lss (.t 8) (.t 10)), none⟩]) (.kill [7, 8, 9, 10, 12, 13, 14, 15, 16, 17, 18, 19, 20, 21, 22, 23, 24, 25, 26, 27, 28, 29, 30, 31, 32, 33, 34, 35, 36, 37] (.cond (.t 11) .skip (.exit 0)))) (.kill [11] (.seq (.blk 1 (.seq (.ops [⟨(some 14), (.mv (.t 0)), none⟩, ⟨(some 15), (.mv (.t 6)), none⟩, ⟨(some 16), (.ia 9 (.t 14) (.t 15)), none⟩, ⟨(some 17), (.ld true 9 (.t 16)), none⟩, ⟨(some 7), (.new 53 [(.v (.int .i64 0)), (.v (.int .i64 0)), (.v (.int .i64 0)), (.v (.int .i64 0)), (.v (.int .i64 0)), (.v (.int .i64 0)), (.v (.int .i64 0)), (.v (.int .i64 0)), (.v (.int .i64 0))]), none⟩, ⟨none, (.st 9 (.t 7) (.t 17)), none⟩]) (.kill [14, 15, 16, 17] (.seq (.seq (.ops [⟨(some 18), (.fa 4 (.t 7)), none⟩, ⟨(some 19), (.ld false 1 (.t 18)), none⟩, ⟨(some 20), (.mv (.t 1)), none⟩, ⟨(some 21), (.bin .geq (.t 19) (.t 20)), none⟩]) (.kill [18, 19, 20] (.cond (.t 21) (.exit 1) .skip))) (.kill [21] (.seq (.seq (.ops [⟨(some 22), (.fa 5 (.t 7)), none⟩, ⟨(some 23), (.ld false 1 (.t 22)), none⟩, ⟨(some 24), (.mv (.t 1)), none⟩, ⟨(some 25), (.bin .geq (.t 23) (.t 24)), none⟩]) (.kill [22, 23, 24] (.cond (.t 25) (.seq (.ops [⟨(some 26), (.fa 5 (.t 7)), none⟩, ⟨none, (.st 1 (.t 26) (.k (.c (.v (.int .i64 (-1)))))), none⟩]) (.kill [25, 26] (.ops [⟨(some 27), (.build [(.v (.int .i64 0)), (.v (.int .i64 0))] []), none⟩, ⟨(some 28), (.fa 7 (.t 7)), none⟩, ⟨none, (.st 2 (.t 28) (.t 27)), none⟩]))) .skip))) (.kill [25, 27, 28] (.seq (.seq (.ops [⟨(some 29), (.fa 6 (.t 7)), none⟩, ⟨(some 30), (.ld false 1 (.t 29)), none⟩, ⟨(some 31), (.mv (.t 1)), none⟩, ⟨(some 32), (.bin .geq (.t 30) (.t 31)), none⟩]) (.kill [29, 30, 31] (.cond (.t 32) (.ops [⟨(some 33), (.fa 6 (.t 7)), none⟩, ⟨none, (.st 1 (.t 33) (.k (.c (.v (.int .i64 (-1)))))), none⟩]) .skip))) (.kill [32, 33] (.ops [⟨(some 34), (.mv (.t 5)), none⟩, ⟨(some 35), (.ld true 9 (.t 7)), none⟩, ⟨(some 36), (.mkSl 53 1 9 [(.v (.int .i64 0)), (.v (.int .i64 0)), (.v (.int .i64 0)), (.v (.int .i64 0)), (.v (.int .i64 0)), (.v (.int .i64 0)), (.v (.int .i64 0)), (.v (.int .i64 0)), (.v (.int .i64 0))] [(0, (9, (.t 35)))]), none⟩, ⟨(some 37), (.app 53 9 72 [(.v (.int .i64 0)), (.v (.int .i64 0)), (.v (.int .i64 0)), (.v (.int .i64 0)), (.v (.int .i64 0)), (.v (.int .i64 0)), (.v (.int .i64 0)), (.v (.int .i64 0)), (.v (.int .i64 0))] (.t 34) (.t 36)), none⟩, ⟨(some 5), (.mv (.t 37)), none⟩])))))))))) (.kill [7, 14, 15, 16, 17, 18, 19, 20, 21, 22, 23, 24, 25, 26, 27, 28, 29, 30, 31, 32, 33, 34, 35, 36, 37] (.ops [⟨(some 12), (.mv (.t 6)), none⟩, ⟨(some 13), (.bin .add (.t 12) (.k (.c (.v (.int .i64 1))))), none⟩, ⟨(some 6), (.mv (.t 13)), none⟩])))))))) (.kill [0, 1, 6, 7, 8, 9, 10, 11, 12, 13, 14, 15, 16, 17, 18, 19, 20, 21, 22, 23, 24, 25, 26, 27, 28, 29, 30, 31, 32, 33, 34, 35, 36, 37] (.seq (.ops [⟨(some 38), (.mv (.t 5)), none⟩, ⟨(some 4), (.mv (.t 38)), none⟩]) (.kill [5, 38] .ret)))))))
def rs34 : List RS := [(.t 4)]
def nt34 : Nat := 39
set_option maxRecDepth 100000 in
set_option maxHeartbeats 400000 in
theorem cut_calls (w : World) (v : Value) (xs : List Cl) (m : Int) (hsz : (xs.length + 1) * 72 ≤ 140737488355328) (h : Arr w Cl.enc 9 v xs) : Calls Try.prog 34 #[v, .int .i64 m] w (RetN w 1 (lsT 9 (cutL xs m).length) (lsO 53 9 Cl.enc (cutL xs m) cl0)) := by
 refine enter1 (A := []) (c := ir34) (rs := rs34) (nt := nt34) cl0 cl_ok h [.c (.xv (0, 0, 0)), .c (.v (.int .i64 m))] _ Try.func34 rfl (by kernel_rfl) (by kernel_rfl) rfl (fun E' h0 => by simp [SV.den, SC.den, h0]) (of_decide_eq_true rfl) ?_
 simp (maxSteps := 2000000) only [ir34, nt34, rs34, go_sem, ↓condS, ↓exitS, ↓gateS, ↓runOp, ↓gateD, ↓runD, ↓imp_ft, ↓imp_tf, ↓imp_tt, ↓imp_ff, ↓imp_fn, ↓imp_tn, ↓imp_fy, ↓imp_ty, ↓reduceIte, Nat.reduceLT, Nat.reduceLeDiff, Nat.reduceAdd, Nat.reduceSub, Nat.reduceMul, Nat.reduceEqDiff, reduceCtorEq, Int.reduceToNat, Int.reduceEq, Int.reduceBEq, Int.reduceBNe, Int.reduceLT, Int.reduceLE, Int.reduceNeg, Int.reduceAdd, Int.reduceSub, Int.reduceMul, Int.reduceGE, Int.reduceGT, Cl.enc, iv, endO]
 refine loopI (ι := { i : Nat // i ≤ xs.length }) (fun i => ⟨39, [(0, .c (.xv (0, 0, 0))), (1, .c (.v (.int .i64 m))), (5, .c (.sl (1, 0, 0) 9 0 (cutK xs m i.1).length none)), (6, .c (.v (.int .i64 (i.1 : Nat))))], [(1, .one (.ar (cutK xs m i.1).length 9 (ats Cl.enc (cutK xs m i.1) cl0) 53))], [(0, .one (arrOf Cl.enc 9 xs cl0))], [], 2⟩)
  (fun i => xs.length - i.1) ⟨0, by omega⟩ ?_ ?_
 ·refine le_tr (le_nilown (tmps' := [(0, .c (.xv (0, 0, 0))), (1, .c (.v (.int .i64 m))), (5, .c (.sl (1, 0, 0) 9 0 0 none)), (6, .c (.v (.int .i64 0)))]) 9 53 (ats Cl.enc [] cl0) (by simp [TmpsNil, look]) rfl) ?_
  exact le_ren id rfl rfl (by simp [TmpsLe, look, SV.ren, SC.ren, idσ, SV.okN, SC.okN, cutK, cutL]) (by simp [OwnLe, BlkLeO, BlkLe, atN, look, Fm.get, idσ, SC.renL, SC.ren, SC.okL, SC.okN, ren_ats, ok_ats, renL_v, okL_v, cutK, cutL]) (by simp [ArrsLe, ArrLeO, atN, look, Fm.get, idσ, arrLe_of, arrLe_0]) rfl
 rintro ⟨i, hi⟩
 simp (maxSteps := 2000000) only [go_sem, ↓condS, ↓exitS, ↓gateS, ↓runOp, ↓gateD, ↓runD, ↓imp_ft, ↓imp_tf, ↓imp_tt, ↓imp_ff, ↓imp_fn, ↓imp_tn, ↓imp_fy, ↓imp_ty, ↓reduceIte, Nat.reduceLT, Nat.reduceLeDiff, Nat.reduceAdd, Nat.reduceSub, Nat.reduceMul, Nat.reduceEqDiff, reduceCtorEq, Int.reduceToNat, Int.reduceEq, Int.reduceBEq, Int.reduceBNe, Int.reduceLT, Int.reduceLE, Int.reduceNeg, Int.reduceAdd, Int.reduceSub, Int.reduceMul, Int.reduceGE, Int.reduceGT, Cl.enc, iv, endO]
 refine both (fun hlt => ?_) (fun hge => ?_)
 ·rw [decide_eq_true_eq] at hlt
  have hlt : i < xs.length := by omega
  have hpl := cutK_len xs m i
  have hps := cutK_succ xs m hlt
  generalize hci : xs.getD i cl0 = ci at hps
  refine And.intro hlt (And.intro hlt (both (fun hb => ?_) (fun hb => ?_)))
  ·rw [decide_eq_true_eq] at hb
   rw [if_pos hb] at hps
   rw [wr_succ (by omega)]
   exact backI ⟨i + 1, by omega⟩ (by simp only; omega) (le_ren id rfl rfl (by simp [TmpsLe, look, SV.ren, SC.ren, idσ, SV.okN, SC.okN, hps]) (by simp [OwnLe, BlkLeO, BlkLe, atN, look, Fm.get, idσ, SC.renL, SC.ren, SC.okL, SC.okN, ren_ats, ok_ats, renL_v, okL_v, hps]) (by simp [ArrsLe, ArrLeO, atN, look, Fm.get, idσ, arrLe_of, arrLe_0]) rfl)
  ·rw [decide_eq_false_iff_not] at hb
   rw [if_neg hb] at hps
   have hml : (cutK xs m i).length + 1 ≤ maxLen := by simp only [maxLen]; omega
   have h72 : ((cutK xs m i).length + 1 + ((cutK xs m i).length + 1) / 4 + 192) * 72 ≤ 281474976710656 := fit_app _ (by omega)
   have hone : 1 ≤ maxLen := by decide
   have hpl1 : (cutK xs m (i + 1)).length = (cutK xs m i).length + 1 := by rw [hps]; simp
   refine both (fun hf => ?_) (fun hf => ?_)
   ·rw [decide_eq_true_eq] at hf
    refine both (fun hp => ?_) (fun hp => ?_)
    ·rw [decide_eq_true_eq] at hp
     have hcc : cutC m ci = ⟨ci.thread, ci.op, ci.arg, ci.data, ci.beg, -1, -1, 0, 0⟩ := by simp only [cutC, if_pos hf, if_pos hp]
     refine And.intro hone (And.intro ⟨Nat.le_refl _, h72, hml⟩ ?_)
     rw [wr_succ (by omega)]
     refine backI ⟨i + 1, by omega⟩ (by simp only; omega) (le_ren (fun k => if k = 1 then 4 else k) rfl rfl (by simp [TmpsLe, look, SV.ren, SC.ren, idσ, SV.okN, SC.okN, hpl1]) ⟨⟨of_decide_eq_true rfl, ?_⟩, trivial⟩ (by simp [ArrsLe, ArrLeO, atN, look, Fm.get, idσ, arrLe_of, arrLe_0]) rfl)
     refine ⟨by simp only [hpl1]; omega, rfl, rfl, fun e he => ⟨?_, okL_v _ _⟩⟩
     show _ = SC.renL _ ((Cl.enc ((cutK xs m (i + 1)).getD e cl0)).map .v)
     rw [renL_v]
     refine (ats_push (d := cl0) (enc := Cl.enc) hps rfl (fun e he => rfl) (by rw [hcc]; simp [segs, Cl.enc, take', drop', iv]) e (by simpa using he))
    ·rw [decide_eq_false_iff_not] at hp
     have hcc : cutC m ci = ⟨ci.thread, ci.op, ci.arg, ci.data, ci.beg, -1, ci.point, 0, 0⟩ := by simp only [cutC, if_pos hf, if_neg hp]
     refine And.intro hone (And.intro ⟨Nat.le_refl _, h72, hml⟩ ?_)
     rw [wr_succ (by omega)]
     refine backI ⟨i + 1, by omega⟩ (by simp only; omega) (le_ren (fun k => if k = 1 then 4 else k) rfl rfl (by simp [TmpsLe, look, SV.ren, SC.ren, idσ, SV.okN, SC.okN, hpl1]) ⟨⟨of_decide_eq_true rfl, ?_⟩, trivial⟩ (by simp [ArrsLe, ArrLeO, atN, look, Fm.get, idσ, arrLe_of, arrLe_0]) rfl)
     refine ⟨by simp only [hpl1]; omega, rfl, rfl, fun e he => ⟨?_, okL_v _ _⟩⟩
     show _ = SC.renL _ ((Cl.enc ((cutK xs m (i + 1)).getD e cl0)).map .v)
     rw [renL_v]
     refine (ats_push (d := cl0) (enc := Cl.enc) hps rfl (fun e he => rfl) (by rw [hcc]; simp [segs, Cl.enc, take', drop', iv]) e (by simpa using he))
   ·rw [decide_eq_false_iff_not] at hf
    refine both (fun hp => ?_) (fun hp => ?_)
    ·rw [decide_eq_true_eq] at hp
     have hcc : cutC m ci = ⟨ci.thread, ci.op, ci.arg, ci.data, ci.beg, ci.fin, -1, ci.kind, ci.val⟩ := by simp only [cutC, if_neg hf, if_pos hp]
     refine And.intro hone (And.intro ⟨Nat.le_refl _, h72, hml⟩ ?_)
     rw [wr_succ (by omega)]
     refine backI ⟨i + 1, by omega⟩ (by simp only; omega) (le_ren (fun k => if k = 1 then 4 else k) rfl rfl (by simp [TmpsLe, look, SV.ren, SC.ren, idσ, SV.okN, SC.okN, hpl1]) ⟨⟨of_decide_eq_true rfl, ?_⟩, trivial⟩ (by simp [ArrsLe, ArrLeO, atN, look, Fm.get, idσ, arrLe_of, arrLe_0]) rfl)
     refine ⟨by simp only [hpl1]; omega, rfl, rfl, fun e he => ⟨?_, okL_v _ _⟩⟩
     show _ = SC.renL _ ((Cl.enc ((cutK xs m (i + 1)).getD e cl0)).map .v)
     rw [renL_v]
     refine (ats_push (d := cl0) (enc := Cl.enc) hps rfl (fun e he => rfl) (by rw [hcc]; simp [segs, Cl.enc, take', drop', iv]) e (by simpa using he))
    ·rw [decide_eq_false_iff_not] at hp
     have hcc : cutC m ci = ⟨ci.thread, ci.op, ci.arg, ci.data, ci.beg, ci.fin, ci.point, ci.kind, ci.val⟩ := by simp only [cutC, if_neg hf, if_neg hp]
     refine And.intro hone (And.intro ⟨Nat.le_refl _, h72, hml⟩ ?_)
     rw [wr_succ (by omega)]
     refine backI ⟨i + 1, by omega⟩ (by simp only; omega) (le_ren (fun k => if k = 1 then 4 else k) rfl rfl (by simp [TmpsLe, look, SV.ren, SC.ren, idσ, SV.okN, SC.okN, hpl1]) ⟨⟨of_decide_eq_true rfl, ?_⟩, trivial⟩ (by simp [ArrsLe, ArrLeO, atN, look, Fm.get, idσ, arrLe_of, arrLe_0]) rfl)
     refine ⟨by simp only [hpl1]; omega, rfl, rfl, fun e he => ⟨?_, okL_v _ _⟩⟩
     show _ = SC.renL _ ((Cl.enc ((cutK xs m (i + 1)).getD e cl0)).map .v)
     rw [renL_v]
     refine (ats_push (d := cl0) (enc := Cl.enc) hps rfl (fun e he => rfl) (by rw [hcc]; simp [segs, Cl.enc, take', drop', iv]) e (by simpa using he))
 ·rw [decide_eq_false_iff_not] at hge
  have hin : i = xs.length := by omega
  subst hin
  have hpe : cutK xs m xs.length = cutL xs m := by unfold cutK; rw [List.take_length]
  rw [hpe]
  exact retList' 1 _ _ rfl (by simp) (by simp) fun e he => rfl
end Go.Proofs.Ytkjeedlkkpgopaa.Z
namespace Go.Proofs.Ytkjeedlkkpgopaa.Z
open Go Go.RowKit
theorem cut_shaped {c : Cl} {m : Int} (h : shapedB c = true) : shapedB (cutC m c) = true := by
 simp only [shapedB, decide_eq_true_eq] at h ⊢
 simp only [cutC]
 obtain ⟨⟨h1, h2, h3, h4⟩, h5, ⟨h6, h7, h8⟩, h9⟩ := h
 refine ⟨⟨h1, h2, h3, fun h => ?_⟩, fun h => ?_, ⟨?_, ?_, ?_⟩, ?_⟩
 ·split at h
  ·exact absurd rfl h
  ·next g => rw [if_neg g]; exact h4 h
 ·split at h
  ·exact absurd rfl h
  ·next g =>
   rw [if_neg g]
   obtain ⟨k1, k2⟩ := h5 h
   refine ⟨k1, fun h' => ?_⟩
   split at h'
   ·exact absurd rfl h'
   ·next g' => rw [if_neg g']; exact k2 h'
 ·split <;> omega
 ·split <;> omega
 ·split
  ·exact ⟨fun _ => rfl, fun _ => rfl⟩
  ·exact h8
 ·split
  ·exact Or.inr rfl
  ·exact h9
theorem cut_moves {c : Cl} {m t : Int} (ht : t ≠ -1) (h : t ∈ (cutC m c).moves) : t ∈ c.moves := by
 simp only [Cl.moves, cutC, List.mem_cons, List.not_mem_nil, or_false] at h ⊢
 rcases h with h | h | h
 ·exact Or.inl h
 ·split at h
  ·exact absurd h ht
  ·exact Or.inr (Or.inl h)
 ·split at h
  ·exact absurd h ht
  ·exact Or.inr (Or.inr h)
theorem cut_pair {a b : Cl} {m : Int} (hb : b.beg < m) (h : PairC a b) : PairC (cutC m a) (cutC m b) := by
 obtain ⟨h1, h2, h3⟩ := h
 refine ⟨h1, fun ht => ?_, fun t ht ha hb => h3 t ht (cut_moves ht ha) (cut_moves ht hb)⟩
 obtain ⟨g1, g2⟩ := h2 ht
 have e : (cutC m a).fin = a.fin := by simp only [cutC]; rw [if_neg (by omega)]
 rw [e]
 exact ⟨g1, g2⟩
theorem cut_may {xs : List Cl} (hm : mayQ xs = true) (m : Int) : mayQ (cutL xs m) = true := by
 obtain ⟨h1, h2⟩ := mayL_iff.1 (mayQ_iff.1 hm)
 refine mayQ_iff.2 (mayL_iff.2 ⟨fun c hc => ?_, ?_⟩)
 ·obtain ⟨x, hx, rfl⟩ := List.mem_map.1 hc
  exact cut_shaped (h1 x (List.mem_filter.1 hx).1)
 ·unfold cutL
  rw [List.pairwise_map]
  refine (h2.sublist List.filter_sublist).imp_of_mem fun {a b} ha hb hab => cut_pair ?_ hab
  have := (List.mem_filter.1 hb).2
  simpa [cutP] using this
theorem cut_cy (xs : List Cl) (m : Int) : cyA (cutL xs m) = ((cyA xs).map (cutC m)).filter (cutP m) := by
 rw [cyA_eq, cyA_eq]
 unfold cutL
 rw [List.filter_map, List.filter_map]
 rw [List.filter_filter, List.filter_filter]
 congr 1
 refine List.filter_congr fun c _ => ?_
 show (cntB c && cutP m c) = (cutP m c && cntB c)
 exact Bool.and_comm _ _
theorem cut_ns {xs : List Cl} (he : nsE xs = 0) (m : Int) : nsE (cutL xs m) = 0 := by
 obtain ⟨h1, h2⟩ := ns_iff.1 he
 refine ns_iff.2 ⟨cut_may h1 m, ?_⟩
 rw [← cyA_eq, cut_cy]
 have := List.length_filter_le (cutP m) ((cyA xs).map (cutC m))
 rw [List.length_map] at this
 have e : (cyA xs).length = (xs.filter cntB).length := by rw [cyA_eq]
 omega
theorem cut_at (zs : List Cl) (m : Int) (i : Nat) : (zs.map (cutC m)).getD i cl0 = if i < zs.length then cutC m (zs.getD i cl0) else cl0 := by
 rw [List.getD_eq_getElem?_getD, List.getElem?_map]
 by_cases h : i < zs.length
 ·rw [if_pos h, getD_lt h, List.getElem?_eq_getElem h]; rfl
 ·rw [if_neg h, List.getElem?_eq_none (by omega)]; rfl
theorem out_at {zs : List Cl} {i : Nat} (h : ¬ i < zs.length) : zs.getD i cl0 = cl0 := by rw [List.getD_eq_getElem?_getD, List.getElem?_eq_none (by omega)]; rfl
theorem cut_al {m : Int} {c : Cl} {s : MC} (hsk : ¬ (c.kind = 4 ∧ c.fin ≥ m)) (ha : (allowM s c).2 = true) : allowM s (cutC m c) = allowM s c := by
 by_cases hf : c.fin ≥ m
 ·have hk : c.kind ≠ 4 := fun h => hsk ⟨h, hf⟩
  have e : allowM s (cutC m c) = ((doM s c.op c.arg c.data).1, true) := by
   unfold allowM
   simp only [cutC, if_pos hf, if_true]
  rw [e]
  unfold allowM at ha ⊢
  split at ha
  ·next h => rw [if_pos h]
  ·next h =>
   rw [if_neg h, if_neg hk]
   split at ha
   ·next h3 => rw [if_pos h3]
   ·cases ha
 ·unfold allowM
  simp only [cutC, if_neg hf]
theorem cut_find {xs : List Cl} (he : nsE xs = 0) (m : Int) (hf : findE xs = 0) : findE (cutL xs m) = 0 := by
 obtain ⟨x, hx⟩ := (find_ex he).1 hf
 refine (find_ex (cut_ns he m)).2 ?_
 have hsh := (mayL_iff.1 (mayQ_iff.1 (ns_iff.1 he).1)).1
 have hs : ∀ i, i < (cyA xs).length → shapedB ((cyA xs).getD i cl0) = true := fun i hi => by
  rw [getD_lt hi]
  have := List.getElem_mem hi
  generalize (cyA xs)[i] = c at this
  rw [cyA_eq] at this
  exact hsh _ (List.mem_filter.1 this).1
 rw [cut_cy]
 refine ex_part.2 ?_
 generalize hz : cyA xs = zs at hx hs
 have hcl : ∀ i, i ∈ cY zs ↔ i < zs.length := fun i => by simp [cY]
 refine expl_begun (h := hY zs) (cand := cY zs) (fun i => decide (i < zs.length ∧ (zs.getD i cl0).kind = 4 ∧ (zs.getD i cl0).fin ≥ m)) (fun i hi => ?_) (fun i hi h => ?_) (fun l hl h a ha hla => ?_) (fun i j h => ?_) (fun i h => ?_) (fun i h s ha => ?_) hx
 ·have := (List.mem_filter.1 hi).1
  rw [List.length_map] at this
  exact this
 ·have hi := (hcl i).1 hi
  simp only [hY, cut_at, if_pos hi, cutC] at h
  have hb := hs i hi
  simp only [shapedB, decide_eq_true_eq] at hb
  split at h
  ·simp at h
  ·next g =>
   have hn : (zs.getD i cl0).fin ≠ -1 := by simpa using h
   have := hb.1.2.2.2 hn
   refine ⟨List.mem_filter.2 ⟨List.mem_range.2 (by rw [List.length_map]; exact hi), ?_⟩, by simpa [hY] using hn⟩
   rw [cut_at, if_pos hi]
   exact decide_eq_true (show (zs.getD i cl0).beg < m by omega)
 ·have hl := (hcl l).1 hl
  have ha := (hcl a).1 ha
  simp only [hY, cut_at, if_pos hl, cutC] at h
  split at h
  ·simp at h
  ·next g =>
   have hn : (zs.getD l cl0).fin ≠ -1 := by simpa using h
   have hb := hs l hl
   simp only [shapedB, decide_eq_true_eq] at hb
   have hb2 := hb.1.2.2.2 hn
   have hb3 := hb.1.2.2.1
   clear hb
   simp only [hY, aheadB] at hla
   rw [if_pos (by simpa using hn), decide_eq_false_iff_not] at hla
   refine List.mem_filter.2 ⟨List.mem_range.2 (by rw [List.length_map]; exact ha), ?_⟩
   rw [cut_at, if_pos ha]
   exact decide_eq_true (show (zs.getD a cl0).beg < m by omega)
 ·simp only [hY, aheadB] at h ⊢
  have hbj : ((zs.map (cutC m)).getD j cl0).beg = (zs.getD j cl0).beg := by
   rw [cut_at]; split
   ·rfl
   ·next g => rw [out_at g]
  rw [hbj] at h
  split at h
  ·next hn =>
   have hfi : ((zs.map (cutC m)).getD i cl0).fin = (zs.getD i cl0).fin := by
    rw [cut_at] at hn ⊢
    split at hn
    ·next g =>
     rw [if_pos g]
     simp only [cutC] at hn ⊢
     split at hn
     ·simp at hn
     ·next g2 => rw [if_neg g2]
    ·next g => rw [if_neg g, out_at g]
   rw [hfi] at hn h
   rw [if_pos hn]; exact h
  ·cases h
 ·rw [decide_eq_true_eq] at h
  obtain ⟨h1, h2, h3⟩ := h
  refine ⟨?_, fun s hs => ?_⟩
  ·simp only [hY, cut_at, if_pos h1, cutC, if_pos h3]; rfl
  ·simp only [hY] at hs ⊢
   unfold allowM at hs ⊢
   rw [h2] at hs ⊢
   rw [if_neg (by decide), if_pos rfl] at hs ⊢
   split at hs
   ·next g => rw [if_pos g]
   ·cases hs
 ·rw [decide_eq_false_iff_not] at h
  simp only [hY] at ha ⊢
  rw [cut_at]
  split
  ·next g => exact cut_al (fun k => h ⟨g, k⟩) ha
  ·next g => rw [out_at g]
end Go.Proofs.Ytkjeedlkkpgopaa.Z
namespace Go.Proofs.Ytkjeedlkkpgopaa.Z
open Go Go.RowKit
def ir9 : IR := (.seq (.ops [⟨(some 4), (.mv (.k (.c (.v (.bool false))))), none⟩]) (.kill [2, 3, 4, 5, 6, 7, 8, 9, 10, 11] (.seq (.seq (.ops [⟨(some 10), (.call 30 []), none⟩, ⟨(some 11), (.un .not (.t 10)), none⟩]) (.kill [10] (.cond (.t 11) (.seq (.ops [⟨(some 4), (.mv (.k (.c (.v (.bool false))))), none⟩]) (.kill [0, 1, 11] .ret)) .skip))) (.kill [4, 11] (.seq (.seq (.ops [⟨(some 12), (.mv (.t 0)), none⟩, ⟨(some 13), (.call 31 [(.t 12)]), none⟩, ⟨(some 14), (.un .not (.t 13)), none⟩]) (.kill [12, 13] (.cond (.t 14) (.seq (.ops [⟨(some 4), (.mv (.k (.c (.v (.bool true))))), none⟩]) (.kill [0, 1, 14] .ret)) .skip))) (.kill [4, 14] (.seq (.ops [⟨(some 16), (.mv (.t 0)), none⟩, ⟨(some 17), (.call 32 [(.t 16)]), none⟩, ⟨(some 15), (.mv (.t 17)), none⟩, ⟨(some 18), (.ext 0 (.t 15)), none⟩, ⟨(some 19), (.ext 1 (.t 15)), none⟩, ⟨(some 5), (.mv (.t 18)), none⟩, ⟨(some 6), (.mv (.t 19)), none⟩]) (.kill [15, 16, 17, 18, 19] (.seq (.seq (.ops [⟨(some 20), (.mv (.t 6)), none⟩, ⟨(some 21), (.un .not (.t 20)), none⟩]) (.kill [6, 20] (.cond (.t 21) (.seq (.ops [⟨(some 4), (.mv (.k (.c (.v (.bool false))))), none⟩]) (.kill [0, 1, 5, 21] .ret)) .skip))) (.kill [4, 21] (.seq (.ops [⟨(some 22), (.mv (.t 0)), none⟩, ⟨(some 23), (.mv (.t 1)), none⟩, ⟨(some 24), (.call 34 [(.t 22), (.t 23)]), none⟩, ⟨(some 7), (.mv (.t 24)), none⟩]) (.kill [0, 1, 22, 23, 24] (.seq (.seq (.ops [⟨(some 25), (.mv (.t 7)), none⟩, ⟨(some 26), (.call 16 [(.t 25)]), none⟩, ⟨(some 27), (.un .not (.t 26)), none⟩, ⟨(some 28), (.mv (.t 27)), none⟩, ⟨(some 29), (.mv (.t 7)), (some (28, false))⟩, ⟨(some 30), (.call 15 [(.t 29)]), (some (28, false))⟩, ⟨(some 31), (.un .not (.t 30)), (some (28, false))⟩, ⟨(some 32), (.pick (.t 28) (.k (.c (.v (.bool true)))) (.t 31)), none⟩]) (.kill [25, 26, 27, 28, 29, 30, 31] (.cond (.t 32) (.seq (.ops [⟨(some 4), (.mv (.k (.c (.v (.bool false))))), none⟩]) (.kill [5, 7, 32] .ret)) .skip))) (.kill [4, 32] (.seq (.ops [⟨(some 34), (.mv (.t 7)), none⟩, ⟨(some 35), (.call 32 [(.t 34)]), none⟩, ⟨(some 33), (.mv (.t 35)), none⟩, ⟨(some 36), (.ext 0 (.t 33)), none⟩, ⟨(some 37), (.ext 1 (.t 33)), none⟩, ⟨(some 8), (.mv (.t 36)), none⟩, ⟨(some 9), (.mv (.t 37)), none⟩]) (.kill [7, 33, 34, 35, 36, 37] (.seq (.ops [⟨(some 38), (.mv (.t 9)), none⟩, ⟨(some 39), (.mv (.t 38)), none⟩, ⟨(some 40), (.mv (.t 8)), (some (39, true))⟩, ⟨(some 41), (.mv (.t 40)), (some (39, true))⟩, ⟨(some 42), (.mv (.t 5)), (some (41, false))⟩, ⟨(some 43), (.un .not (.t 42)), (some (41, false))⟩, ⟨(some 44), (.pick (.t 41) (.k (.c (.v (.bool true)))) (.t 43)), (some (39, true))⟩, ⟨(some 45), (.pick (.t 39) (.t 44) (.k (.c (.v (.bool false))))), none⟩, ⟨(some 4), (.mv (.t 45)), none⟩]) (.kill [5, 8, 9, 38, 39, 40, 41, 42, 43, 44, 45] .ret))))))))))))))))))
def rs9 : List RS := [(.t 4)]
def nt9 : Nat := 46
set_option maxRecDepth 100000 in
set_option maxHeartbeats 400000 in
theorem begun_walk (w : World) (v : Value) (xs : List Cl) (m : Int) (hsz : (xs.length + 1) * 72 ≤ 140737488355328) (h : Arr w Cl.enc 9 v xs) : Calls Try.prog 9 #[v, .int .i64 m] w (RetV w (.bool true)) := by
 refine enter1 (A := []) (c := ir9) (rs := rs9) (nt := nt9) cl0 cl_ok h [.c (.xv (0, 0, 0)), iA m] _ Try.func9 rfl (by kernel_rfl) (by kernel_rfl) rfl (fun E' h0 => by simp [SV.den, SC.den, iA, h0]) (of_decide_eq_true rfl) ?_
 simp (maxSteps := 2000000) only [ir9, nt9, rs9, go_sem, ↓condS, ↓exitS, ↓gateS, ↓runOp, ↓gateD, ↓runD, ↓imp_ft, ↓imp_tf, ↓imp_tt, ↓imp_ff, ↓imp_fn, ↓imp_tn, ↓imp_fy, ↓imp_ty, ↓reduceIte, Nat.reduceLT, Nat.reduceLeDiff, Nat.reduceAdd, Nat.reduceSub, Nat.reduceMul, Nat.reduceEqDiff, reduceCtorEq, Int.reduceToNat, Int.reduceEq, Int.reduceBEq, Int.reduceBNe, Int.reduceLT, Int.reduceLE, Int.reduceNeg, Int.reduceAdd, Int.reduceSub, Int.reduceMul, Int.reduceGE, Int.reduceGT, Cl.enc, iv, endO, iA]
 refine callV (.c (.v (.bool true))) (.bool true) (fun E => rfl) (fun E a w' hs => awake_calls w') ?_
 simp (maxSteps := 2000000) only [go_sem, ↓condS, ↓exitS, ↓gateS, ↓runOp, ↓gateD, ↓runD, ↓imp_ft, ↓imp_tf, ↓imp_tt, ↓imp_ff, ↓imp_fn, ↓imp_tn, ↓imp_fy, ↓imp_ty, ↓reduceIte, Nat.reduceLT, Nat.reduceLeDiff, Nat.reduceAdd, Nat.reduceSub, Nat.reduceMul, Nat.reduceEqDiff, reduceCtorEq, Int.reduceToNat, Int.reduceEq, Int.reduceBEq, Int.reduceBNe, Int.reduceLT, Int.reduceLE, Int.reduceNeg, Int.reduceAdd, Int.reduceSub, Int.reduceMul, Int.reduceGE, Int.reduceGT, Cl.enc, iv, endO]
 by_cases he : nsE xs = 0
 ·have hlc := cutL_len xs m
  refine callV (.c (.v (.bool true))) (.bool true) (fun E => rfl) (fun E a w' hs => by
   have := searched_calls w' _ xs (by omega) (arr_at (d := cl0) hs 0 rfl)
   rw [decide_eq_true he] at this
   exact this) ?_
  simp (maxSteps := 2000000) only [go_sem, ↓condS, ↓exitS, ↓gateS, ↓runOp, ↓gateD, ↓runD, ↓imp_ft, ↓imp_tf, ↓imp_tt, ↓imp_ff, ↓imp_fn, ↓imp_tn, ↓imp_fy, ↓imp_ty, ↓reduceIte, Nat.reduceLT, Nat.reduceLeDiff, Nat.reduceAdd, Nat.reduceSub, Nat.reduceMul, Nat.reduceEqDiff, reduceCtorEq, Int.reduceToNat, Int.reduceEq, Int.reduceBEq, Int.reduceBNe, Int.reduceLT, Int.reduceLE, Int.reduceNeg, Int.reduceAdd, Int.reduceSub, Int.reduceMul, Int.reduceGE, Int.reduceGT, Cl.enc, iv, endO]
  refine callV (.tup [(false, [.bo (decide (findE xs = 0))]), (false, [.v (.bool true)])]) (.tuple #[.bool (decide (findE xs = 0)), .bool true]) (fun E => rfl) (fun E a w' hs => found_calls w' _ xs (by omega) he (arr_at (d := cl0) hs 0 rfl)) ?_
  simp (maxSteps := 2000000) only [go_sem, ↓condS, ↓exitS, ↓gateS, ↓runOp, ↓gateD, ↓runD, ↓imp_ft, ↓imp_tf, ↓imp_tt, ↓imp_ff, ↓imp_fn, ↓imp_tn, ↓imp_fy, ↓imp_ty, ↓reduceIte, Nat.reduceLT, Nat.reduceLeDiff, Nat.reduceAdd, Nat.reduceSub, Nat.reduceMul, Nat.reduceEqDiff, reduceCtorEq, Int.reduceToNat, Int.reduceEq, Int.reduceBEq, Int.reduceBNe, Int.reduceLT, Int.reduceLE, Int.reduceNeg, Int.reduceAdd, Int.reduceSub, Int.reduceMul, Int.reduceGE, Int.reduceGT, Cl.enc, iv, endO]
  refine callN 1 (lsT 9 (cutL xs m).length) (lsO 53 9 Cl.enc (cutL xs m) cl0) (fun E a w' hs => cut_calls w' _ xs m hsz (arr_at (d := cl0) hs 0 rfl)) ?_
  simp (maxSteps := 2000000) only [go_sem, ↓condS, ↓exitS, ↓gateS, ↓runOp, ↓gateD, ↓runD, ↓imp_ft, ↓imp_tf, ↓imp_tt, ↓imp_ff, ↓imp_fn, ↓imp_tn, ↓imp_fy, ↓imp_ty, ↓reduceIte, Nat.reduceLT, Nat.reduceLeDiff, Nat.reduceAdd, Nat.reduceSub, Nat.reduceMul, Nat.reduceEqDiff, reduceCtorEq, Int.reduceToNat, Int.reduceEq, Int.reduceBEq, Int.reduceBNe, Int.reduceLT, Int.reduceLE, Int.reduceNeg, Int.reduceAdd, Int.reduceSub, Int.reduceMul, Int.reduceGE, Int.reduceGT, Cl.enc, iv, endO, lsT, lsO]
  have hm := cut_may (ns_iff.1 he).1 m
  refine callV (.c (.v (.bool true))) _ (fun E => rfl) (fun E a w' hs => by
   have := mayR w' _ (cutL xs m) (by omega) (own_at (d := cl0) hs 1 _ rfl rfl)
   rw [hm] at this
   exact this) ?_
  simp (maxSteps := 2000000) only [go_sem, ↓condS, ↓exitS, ↓gateS, ↓runOp, ↓gateD, ↓runD, ↓imp_ft, ↓imp_tf, ↓imp_tt, ↓imp_ff, ↓imp_fn, ↓imp_tn, ↓imp_fy, ↓imp_ty, ↓reduceIte, Nat.reduceLT, Nat.reduceLeDiff, Nat.reduceAdd, Nat.reduceSub, Nat.reduceMul, Nat.reduceEqDiff, reduceCtorEq, Int.reduceToNat, Int.reduceEq, Int.reduceBEq, Int.reduceBNe, Int.reduceLT, Int.reduceLE, Int.reduceNeg, Int.reduceAdd, Int.reduceSub, Int.reduceMul, Int.reduceGE, Int.reduceGT, Cl.enc, iv, endO]
  refine callV (.c (.v (.bool true))) _ (fun E => rfl) (fun E a w' hs => by
   have := mayW w' _ (cutL xs m) (own_at (d := cl0) hs 1 _ rfl rfl)
   rw [hm] at this
   exact this) ?_
  simp (maxSteps := 2000000) only [go_sem, ↓condS, ↓exitS, ↓gateS, ↓runOp, ↓gateD, ↓runD, ↓imp_ft, ↓imp_tf, ↓imp_tt, ↓imp_ff, ↓imp_fn, ↓imp_tn, ↓imp_fy, ↓imp_ty, ↓reduceIte, Nat.reduceLT, Nat.reduceLeDiff, Nat.reduceAdd, Nat.reduceSub, Nat.reduceMul, Nat.reduceEqDiff, reduceCtorEq, Int.reduceToNat, Int.reduceEq, Int.reduceBEq, Int.reduceBNe, Int.reduceLT, Int.reduceLE, Int.reduceNeg, Int.reduceAdd, Int.reduceSub, Int.reduceMul, Int.reduceGE, Int.reduceGT, Cl.enc, iv, endO]
  have hns := cut_ns he m
  refine callV (.tup [(false, [.bo (decide (findE (cutL xs m) = 0))]), (false, [.v (.bool true)])]) (.tuple #[.bool (decide (findE (cutL xs m) = 0)), .bool true]) (fun E => rfl) (fun E a w' hs => found_calls w' _ (cutL xs m) (by omega) hns (own_at (d := cl0) hs 1 _ rfl rfl)) ?_
  simp (maxSteps := 2000000) only [go_sem, ↓condS, ↓exitS, ↓gateS, ↓runOp, ↓gateD, ↓runD, ↓imp_ft, ↓imp_tf, ↓imp_tt, ↓imp_ff, ↓imp_fn, ↓imp_tn, ↓imp_fy, ↓imp_ty, ↓reduceIte, Nat.reduceLT, Nat.reduceLeDiff, Nat.reduceAdd, Nat.reduceSub, Nat.reduceMul, Nat.reduceEqDiff, reduceCtorEq, Int.reduceToNat, Int.reduceEq, Int.reduceBEq, Int.reduceBNe, Int.reduceLT, Int.reduceLE, Int.reduceNeg, Int.reduceAdd, Int.reduceSub, Int.reduceMul, Int.reduceGE, Int.reduceGT, Cl.enc, iv, endO]
  have hcf := cut_find he m
  exact retV fun E => by
   by_cases hf : findE xs = 0
   ·simp [SV.den, SC.den, hf, hcf hf]
   ·simp [SV.den, SC.den, hf]
 ·refine callV (.c (.v (.bool false))) (.bool false) (fun E => rfl) (fun E a w' hs => by
   have := searched_calls w' _ xs (by omega) (arr_at (d := cl0) hs 0 rfl)
   rw [decide_eq_false he] at this
   exact this) ?_
  simp (maxSteps := 2000000) only [go_sem, ↓condS, ↓exitS, ↓gateS, ↓runOp, ↓gateD, ↓runD, ↓imp_ft, ↓imp_tf, ↓imp_tt, ↓imp_ff, ↓imp_fn, ↓imp_tn, ↓imp_fy, ↓imp_ty, ↓reduceIte, Nat.reduceLT, Nat.reduceLeDiff, Nat.reduceAdd, Nat.reduceSub, Nat.reduceMul, Nat.reduceEqDiff, reduceCtorEq, Int.reduceToNat, Int.reduceEq, Int.reduceBEq, Int.reduceBNe, Int.reduceLT, Int.reduceLE, Int.reduceNeg, Int.reduceAdd, Int.reduceSub, Int.reduceMul, Int.reduceGE, Int.reduceGT, Cl.enc, iv, endO]
  exact retV fun E => by simp [SV.den, SC.den]
end Go.Proofs.Ytkjeedlkkpgopaa.Z
namespace Go.Proofs.Ytkjeedlkkpgopaa.Z
open Go Go.RowKit Go.ChangeShapes Go.WideShapes Go.ChangeAt
theorem own : ownKnob Try.prog.godebug = none := by kernel_rfl
theorem laidOut : laidOutB Try.prog = true := by kernel_rfl
theorem leavesCl : leavesIn Try.prog 9 53 = some [3, 48, 3, 3, 3, 3, 3, 49, 3] := by kernel_rfl
theorem cellsCl : Try.prog.cellsOf 53 = 9 := by kernel_rfl
theorem bytesCl : Try.prog.bytesOf 53 = 72 := by kernel_rfl
section
variable {H : Type} {enc : TypeId × Value → H} {w : World}
theorem leavesCs : leavesIn Try.prog 9 22 = some [22] := by kernel_rfl
theorem reach_len {α : Type} {x : List α} {s : Nat} {ws : List Nat} (hr : ∀ k ∈ ws, k ≤ reachBytes) (h : x = [] ∨ ∃ k ∈ ws, x.length * s ≤ k) : x.length * s ≤ 140737488351232 := by
 rcases h with rfl | ⟨k, hk, h⟩
 ·simp
 ·have := hr k hk
  unfold reachBytes at this
  omega
theorem lit_rng {n : Int} (h : (Lit.int .i64 n).wf = true) : -9223372036854775808 ≤ n ∧ n ≤ 9223372036854775807 := by
 simp [Lit.wf, IntKind.min, IntKind.max, IntKind.signed, IntKind.bits] at h
 omega
def ClR (c : Cl) : Prop := c.beg ≤ 9223372036854775807 ∧ c.fin ≤ 9223372036854775807 ∧ c.point ≤ 9223372036854775807
theorem leaf_calls {b : Nat} {ws : List Nat} {c : Value} (h : LeafAt enc Try.prog w 0 (fun _ => true) true b ws 22 c) :
  ∃ xs : List Cl, Arr w Cl.enc 9 c xs ∧ (∀ c ∈ xs, ClR c) ∧ xs.length + 1 ≤ b ∧ (xs = [] ∨ ∃ k ∈ ws, xs.length * 72 ≤ k) := by
 obtain ⟨xs, h1, h4, h2, h3⟩ := h.slice (α := Cl) Try.underlying22 (by decide) cellsCl Cl.enc ClR (fun m cs y hl ht => by
  match cs, hl with
  | [c0, c1, c2, c3, c4, c5, c6, c7, c8], _ =>
   have L := leaf_of 9 _ _ leavesCl m _ _ ht
   obtain ⟨x0, rfl, _⟩ := (L 0 _ c0 rfl rfl).int Try.underlying3
   obtain ⟨x1, rfl, _⟩ := (L 1 _ c1 rfl rfl).int Try.underlying48
   obtain ⟨x2, rfl, _⟩ := (L 2 _ c2 rfl rfl).int Try.underlying3
   obtain ⟨x3, rfl, _⟩ := (L 3 _ c3 rfl rfl).int Try.underlying3
   obtain ⟨x4, rfl, r4⟩ := (L 4 _ c4 rfl rfl).int Try.underlying3
   obtain ⟨x5, rfl, r5⟩ := (L 5 _ c5 rfl rfl).int Try.underlying3
   obtain ⟨x6, rfl, r6⟩ := (L 6 _ c6 rfl rfl).int Try.underlying3
   obtain ⟨x7, rfl, _⟩ := (L 7 _ c7 rfl rfl).int Try.underlying49
   obtain ⟨x8, rfl, _⟩ := (L 8 _ c8 rfl rfl).int Try.underlying3
   exact ⟨⟨x0, x1, x2, x3, x4, x5, x6, x7, x8⟩, rfl, (lit_rng r4).2, (lit_rng r5).2, (lit_rng r6).2⟩)
 rw [bytesCl] at h3
 exact ⟨xs, h1, h4, h2, h3⟩
set_option maxRecDepth 100000 in
theorem open_callsR {base : Nat} {v : Value} {d : DataW H} {p : List MemPlace} (hv : Value.okWide Try.prog w .any base 22 v) (h : DataW.Trod enc Try.prog w 0 (fun _ => true) true 22 v d p) :
  ∃ xs, Arr w Cl.enc 9 v xs ∧ (∀ c ∈ xs, ClR c) ∧ ((∀ k ∈ d.weights Try.prog 22, k ≤ reachBytes) → xs.length * 72 ≤ 140737488351232) := by
 obtain ⟨ba, len, cap, rfl⟩ := okWide_slice Try.underlying22 hv
 obtain ⟨fuel, hf⟩ := h
 obtain ⟨xs, h1, h4, _, h2⟩ := leaf_calls (leaf_of 9 _ _ leavesCs fuel _ _ hf 0 22 _ rfl rfl)
 exact ⟨xs, h1, h4, fun hr => reach_len hr h2⟩
end
end Go.Proofs.Ytkjeedlkkpgopaa.Z
