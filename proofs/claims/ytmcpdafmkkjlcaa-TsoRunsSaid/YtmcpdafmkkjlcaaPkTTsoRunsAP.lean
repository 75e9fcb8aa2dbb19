/- TsoRunsSaid: what its proof is made of. No condition. -/
import Derived.Test.YtmcpdafmkkjlcaaPkTTsoRunsAO
set_option linter.unusedSimpArgs false
set_option linter.unusedVariables false
namespace Go.Proofs.Ytmcpdafmkkjlcaa.Z
open Go Go.RowKit
noncomputable def runE (L : Lt) (o : Int) (n : Nat) : Int := if checkB L = true then (if n ≤ 4096 then (if 1 ≤ o ∧ o ≤ 3 then 0 else 191) else 3) else 190
def nilT (e : Int) : SV := .tup [(true, [.v (.slice none 0 0), .v (.slice none 0 0), .v (.slice none 0 0), .v (.slice none 0 0)]), (false, [.v (.int .i64 0)]), (false, [.v (.int .i64 e)])]
def nilU (e : Int) : Value := .tuple #[.agg #[.slice none 0 0, .slice none 0 0, .slice none 0 0, .slice none 0 0], .int .i64 0, .int .i64 e]
theorem nilT_den (e : Int) (E : Env) : (nilT e).den E = nilU e := by simp [nilT, nilU, SV.den, SC.den, den1]
set_option maxRecDepth 100000 in
set_option maxHeartbeats 1000000 in
theorem run_err (w : World) (v v' : Value) (L : Lt) (o : Int) (ts : List Tn) (hok : LtOk L) (he : runE L o ts.length ≠ 0) (h : LtR w v L) (h' : Arr w Tn.enc 3 v' ts) : Calls Try.prog 11 #[v, .int .i64 o, v'] w (RetV w (nilU (runE L o ts.length))) := by
 refine enterLtT (A := []) (c := ir11) (rs := rs11) (nt := nt11) h h' [.agg (ltS 0), .c (.v (.int .i64 o)), .c (.xv (3, 0, 0))] _ Try.func11 rfl (by kernel_rfl) (by kernel_rfl) rfl (fun E' h0 h1 => by simp only [List.map_cons, List.map_nil, h0]; simp [SV.den, SC.den, h1]) (of_decide_eq_true rfl) ?_
 unfold runE at he ⊢
 simp (maxSteps := 2000000) only [ir11, nt11, rs11, go_sem, ↓condS, ↓exitS, ↓gateS, ↓runOp, ↓gateD, ↓runD, ↓imp_ft, ↓imp_tf, ↓imp_tt, ↓imp_ff, ↓imp_fn, ↓imp_tn, ↓imp_fy, ↓imp_ty, ↓reduceIte, Nat.reduceLT, Nat.reduceLeDiff, Nat.reduceAdd, Nat.reduceSub, Nat.reduceMul, Nat.reduceEqDiff, reduceCtorEq, Int.reduceToNat, Int.reduceEq, Int.reduceBEq, Int.reduceBNe, Int.reduceLT, Int.reduceLE, Int.reduceNeg, Int.reduceAdd, Int.reduceSub, Int.reduceMul, Int.reduceGE, Int.reduceGT, endO, ltA, ltS]
 by_cases hL : checkB L = true
 ·rw [if_pos hL] at he ⊢
  refine callN 5 (bgT L) (fun b => stO b (beginS L)) (fun E a w' hs => begin_calls w' _ L hL hok (ltL_at hs rfl rfl rfl)) ?_
  by_cases hlen : ts.length ≤ 4096
  ·rw [if_pos hlen] at he ⊢
   have dl : decide ((ts.length : Int) > 4096) = false := decide_eq_false (by omega)
   by_cases ho : 1 ≤ o ∧ o ≤ 3
   ·rw [if_pos ho] at he; exact absurd rfl he
   rw [if_neg ho]
   simp (maxSteps := 2000000) only [go_sem, ↓condS, ↓exitS, ↓gateS, ↓runOp, ↓gateD, ↓runD, ↓imp_ft, ↓imp_tf, ↓imp_tt, ↓imp_ff, ↓imp_fn, ↓imp_tn, ↓imp_fy, ↓imp_ty, ↓reduceIte, Nat.reduceLT, Nat.reduceLeDiff, Nat.reduceAdd, Nat.reduceSub, Nat.reduceMul, Nat.reduceEqDiff, reduceCtorEq, Int.reduceToNat, Int.reduceEq, Int.reduceBEq, Int.reduceBNe, Int.reduceLT, Int.reduceLE, Int.reduceNeg, Int.reduceAdd, Int.reduceSub, Int.reduceMul, Int.reduceGE, Int.reduceGT, endO, bgT, stO, stC, dl]
   refine callV (.c (.v (.int .i64 191))) _ (fun E => rfl) (fun E a w' hs => by
    have := look_calls w' _ L o hok (ltL_at hs rfl rfl rfl)
    rw [if_pos hL, if_neg ho] at this
    exact this) ?_
   simp (maxSteps := 2000000) only [go_sem, ↓condS, ↓exitS, ↓gateS, ↓runOp, ↓gateD, ↓runD, ↓imp_ft, ↓imp_tf, ↓imp_tt, ↓imp_ff, ↓imp_fn, ↓imp_tn, ↓imp_fy, ↓imp_ty, ↓reduceIte, Nat.reduceLT, Nat.reduceLeDiff, Nat.reduceAdd, Nat.reduceSub, Nat.reduceMul, Nat.reduceEqDiff, reduceCtorEq, Int.reduceToNat, Int.reduceEq, Int.reduceBEq, Int.reduceBNe, Int.reduceLT, Int.reduceLE, Int.reduceNeg, Int.reduceAdd, Int.reduceSub, Int.reduceMul, Int.reduceGE, Int.reduceGT, endO]
   exact retV fun E => nilT_den 191 E
  ·rw [if_neg hlen]
   have dl : decide ((ts.length : Int) > 4096) = true := decide_eq_true (by omega)
   simp (maxSteps := 2000000) only [go_sem, ↓condS, ↓exitS, ↓gateS, ↓runOp, ↓gateD, ↓runD, ↓imp_ft, ↓imp_tf, ↓imp_tt, ↓imp_ff, ↓imp_fn, ↓imp_tn, ↓imp_fy, ↓imp_ty, ↓reduceIte, Nat.reduceLT, Nat.reduceLeDiff, Nat.reduceAdd, Nat.reduceSub, Nat.reduceMul, Nat.reduceEqDiff, reduceCtorEq, Int.reduceToNat, Int.reduceEq, Int.reduceBEq, Int.reduceBNe, Int.reduceLT, Int.reduceLE, Int.reduceNeg, Int.reduceAdd, Int.reduceSub, Int.reduceMul, Int.reduceGE, Int.reduceGT, endO, bgT, stO, stC, dl]
   exact retV fun E => nilT_den 3 E
 ·have hL : checkB L = false := by simpa using hL
  rw [if_neg (by simp [hL])]
  refine callV (.tup [(true, [.v (.slice none 0 0), .v (.slice none 0 0), .v (.slice none 0 0), .v (.slice none 0 0)]), (false, [.v (.int .i64 190)])]) _ (fun E => rfl) (fun E a w' hs => begin_err w' _ L hL hok (ltL_at hs rfl rfl rfl)) ?_
  simp (maxSteps := 2000000) only [go_sem, ↓condS, ↓exitS, ↓gateS, ↓runOp, ↓gateD, ↓runD, ↓imp_ft, ↓imp_tf, ↓imp_tt, ↓imp_ff, ↓imp_fn, ↓imp_tn, ↓imp_fy, ↓imp_ty, ↓reduceIte, Nat.reduceLT, Nat.reduceLeDiff, Nat.reduceAdd, Nat.reduceSub, Nat.reduceMul, Nat.reduceEqDiff, reduceCtorEq, Int.reduceToNat, Int.reduceEq, Int.reduceBEq, Int.reduceBNe, Int.reduceLT, Int.reduceLE, Int.reduceNeg, Int.reduceAdd, Int.reduceSub, Int.reduceMul, Int.reduceGE, Int.reduceGT, endO]
  exact retV fun E => nilT_den 190 E
def ir12 : IR := (.seq (.ops [⟨(some 3), (.box 25 (.t 0)), none⟩, ⟨(some 6), (.new 32 [(.v (.slice none 0 0)), (.v (.slice none 0 0)), (.v (.slice none 0 0)), (.v (.slice none 0 0))]), none⟩, ⟨(some 7), (.mv (.k (.c (.v (.int .i64 0))))), none⟩, ⟨(some 8), (.mv (.k (.c (.v (.int .i64 0))))), none⟩]) (.kill [0, 4, 5, 7, 8, 9, 10, 11] (.seq (.seq (.ops [⟨(some 12), (.ld true 2 (.t 3)), none⟩, ⟨(some 13), (.call 18 [(.t 12)]), none⟩, ⟨(some 14), (.un .not (.t 13)), none⟩]) (.kill [12, 13] (.cond (.t 14) (.seq (.ops [⟨(some 15), (.build [(.v (.slice none 0 0)), (.v (.slice none 0 0)), (.v (.slice none 0 0)), (.v (.slice none 0 0))] []), none⟩, ⟨none, (.st 4 (.t 6) (.t 15)), none⟩, ⟨(some 7), (.mv (.k (.c (.v (.int .i64 0))))), none⟩, ⟨(some 8), (.mv (.k (.c (.v (.int .i64 190))))), none⟩]) (.kill [1, 2, 3, 14, 15] .ret)) .skip))) (.kill [7, 8, 14] (.seq (.seq (.ops [⟨(some 16), (.mv (.t 2)), none⟩, ⟨(some 17), (.len (.t 16)), none⟩, ⟨(some 18), (.bin .gtr (.t 17) (.k (.c (.v (.int .i64 4096))))), none⟩]) (.kill [16, 17] (.cond (.t 18) (.seq (.ops [⟨(some 19), (.build [(.v (.slice none 0 0)), (.v (.slice none 0 0)), (.v (.slice none 0 0)), (.v (.slice none 0 0))] []), none⟩, ⟨none, (.st 4 (.t 6) (.t 19)), none⟩, ⟨(some 7), (.mv (.k (.c (.v (.int .i64 0))))), none⟩, ⟨(some 8), (.mv (.k (.c (.v (.int .i64 3))))), none⟩]) (.kill [1, 2, 3, 18, 19] .ret)) .skip))) (.kill [7, 8, 18] (.seq (.seq (.ops [⟨(some 20), (.mv (.t 1)), none⟩, ⟨(some 21), (.call 23 [(.t 20)]), none⟩, ⟨(some 22), (.un .not (.t 21)), none⟩]) (.kill [20, 21] (.cond (.t 22) (.seq (.ops [⟨(some 23), (.build [(.v (.slice none 0 0)), (.v (.slice none 0 0)), (.v (.slice none 0 0)), (.v (.slice none 0 0))] []), none⟩, ⟨none, (.st 4 (.t 6) (.t 23)), none⟩, ⟨(some 7), (.mv (.k (.c (.v (.int .i64 0))))), none⟩, ⟨(some 8), (.mv (.k (.c (.v (.int .i64 191))))), none⟩]) (.kill [1, 2, 3, 22, 23] .ret)) .skip))) (.kill [7, 8, 22] (.seq (.ops [⟨(some 24), (.ld true 2 (.t 3)), none⟩, ⟨(some 25), (.call 20 [(.t 24)]), none⟩, ⟨(some 9), (.new 32 [(.v (.slice none 0 0)), (.v (.slice none 0 0)), (.v (.slice none 0 0)), (.v (.slice none 0 0))]), none⟩, ⟨none, (.st 4 (.t 9) (.t 25)), none⟩]) (.kill [24, 25] (.seq (.ops [⟨(some 10), (.mv (.k (.c (.v (.int .i64 0))))), none⟩]) (.seq (.seq (.ops [⟨(some 11), (.mv (.k (.c (.v (.int .i64 0))))), none⟩]) (.blk 0 (.loop (.seq (.seq (.ops [⟨(some 26), (.mv (.t 11)), none⟩, ⟨(some 27), (.mv (.t 2)), none⟩, ⟨(some 28), (.len (.t 27)), none⟩, ⟨(some 29), (.bin .lss (.t 26) (.t 28)), none⟩]) (.kill [26, 27, 28, 30, 31, 32, 33, 34, 35, 36, 37, 38, 39, 40] (.cond (.t 29) .skip (.exit 0)))) (.kill [29] (.seq (.blk 1 (.seq (.draw [(⟨(some 32), (.ld true 2 (.t 3)), none⟩, ([], [33, 34, 35, 36, 37])), (⟨(some 33), (.mv (.t 1)), none⟩, ([0], [32, 34, 35, 36, 37])), (⟨(some 34), (.mv (.t 2)), none⟩, ([0, 1], [32, 33, 35])), (⟨(some 35), (.mv (.t 11)), none⟩, ([0, 1, 2], [32, 33, 34])), (⟨(some 36), (.ia 3 (.t 34) (.t 35)), none⟩, ([0, 1], [32, 33])), (⟨(some 37), (.ld true 3 (.t 36)), none⟩, ([0, 1], [32, 33])), (⟨(some 38), (.call 25 [(.t 32), (.t 33), (.t 9), (.t 37)]), none⟩, ([], []))]) (.kill [32, 33, 34, 35, 36, 37] (.cond (.t 38) (.ops [⟨(some 39), (.mv (.t 10)), none⟩, ⟨(some 40), (.bin .add (.t 39) (.k (.c (.v (.int .i64 1))))), none⟩, ⟨(some 10), (.mv (.t 40)), none⟩]) .skip)))) (.kill [32, 33, 34, 35, 36, 37, 38, 39, 40] (.ops [⟨(some 30), (.mv (.t 11)), none⟩, ⟨(some 31), (.bin .add (.t 30) (.k (.c (.v (.int .i64 1))))), none⟩, ⟨(some 11), (.mv (.t 31)), none⟩])))))))) (.kill [1, 2, 3, 11, 26, 27, 28, 29, 30, 31, 32, 33, 34, 35, 36, 37, 38, 39, 40] (.seq (.ops [⟨(some 41), (.ld true 4 (.t 9)), none⟩, ⟨(some 42), (.mv (.t 10)), none⟩, ⟨none, (.st 4 (.t 6) (.t 41)), none⟩, ⟨(some 7), (.mv (.t 42)), none⟩, ⟨(some 8), (.mv (.k (.c (.v (.int .i64 0))))), none⟩]) (.kill [9, 10, 41, 42] .ret)))))))))))))))
def rs12 : List RS := [(.cell 6 true 4), (.t 7), (.t 8)]
def nt12 : Nat := 43
set_option maxRecDepth 100000 in
set_option maxHeartbeats 1000000 in
theorem rrun_err (w : World) (v v' : Value) (L : Lt) (o : Int) (ts : List Tn) (he : runE L o ts.length ≠ 0) (h : LtR w v L) (h' : Arr w Tn.enc 3 v' ts) : Calls Try.prog 12 #[v, .int .i64 o, v'] w (RetV w (nilU (runE L o ts.length))) := by
 refine enterLtT (A := []) (c := ir12) (rs := rs12) (nt := nt12) h h' [.agg (ltS 0), .c (.v (.int .i64 o)), .c (.xv (3, 0, 0))] _ Try.func12 rfl (by kernel_rfl) (by kernel_rfl) rfl (fun E' h0 h1 => by simp only [List.map_cons, List.map_nil, h0]; simp [SV.den, SC.den, h1]) (of_decide_eq_true rfl) ?_
 unfold runE at he ⊢
 simp (maxSteps := 2000000) only [ir12, nt12, rs12, go_sem, ↓condS, ↓exitS, ↓gateS, ↓runOp, ↓gateD, ↓runD, ↓imp_ft, ↓imp_tf, ↓imp_tt, ↓imp_ff, ↓imp_fn, ↓imp_tn, ↓imp_fy, ↓imp_ty, ↓reduceIte, Nat.reduceLT, Nat.reduceLeDiff, Nat.reduceAdd, Nat.reduceSub, Nat.reduceMul, Nat.reduceEqDiff, reduceCtorEq, Int.reduceToNat, Int.reduceEq, Int.reduceBEq, Int.reduceBNe, Int.reduceLT, Int.reduceLE, Int.reduceNeg, Int.reduceAdd, Int.reduceSub, Int.reduceMul, Int.reduceGE, Int.reduceGT, endO, ltA, ltS]
 refine callV (.c (.v (.bool (checkB L)))) _ (fun E => rfl) (fun E a w' hs => rcheck_calls w' _ L (ltL_at hs rfl rfl rfl)) ?_
 by_cases hL : checkB L = true
 ·rw [if_pos hL] at he ⊢
  rw [hL]
  by_cases hlen : ts.length ≤ 4096
  ·rw [if_pos hlen] at he ⊢
   have dl : decide ((ts.length : Int) > 4096) = false := decide_eq_false (by omega)
   by_cases ho : 1 ≤ o ∧ o ≤ 3
   ·rw [if_pos ho] at he; exact absurd rfl he
   rw [if_neg ho]
   simp (maxSteps := 2000000) only [go_sem, ↓condS, ↓exitS, ↓gateS, ↓runOp, ↓gateD, ↓runD, ↓imp_ft, ↓imp_tf, ↓imp_tt, ↓imp_ff, ↓imp_fn, ↓imp_tn, ↓imp_fy, ↓imp_ty, ↓reduceIte, Nat.reduceLT, Nat.reduceLeDiff, Nat.reduceAdd, Nat.reduceSub, Nat.reduceMul, Nat.reduceEqDiff, reduceCtorEq, Int.reduceToNat, Int.reduceEq, Int.reduceBEq, Int.reduceBNe, Int.reduceLT, Int.reduceLE, Int.reduceNeg, Int.reduceAdd, Int.reduceSub, Int.reduceMul, Int.reduceGE, Int.reduceGT, endO, dl]
   refine callV (.c (.v (.bool false))) _ (fun E => rfl) (fun E a w' hs => by
    have := isorder_calls w' o
    rw [decide_eq_false ho] at this
    exact this) ?_
   simp (maxSteps := 2000000) only [go_sem, ↓condS, ↓exitS, ↓gateS, ↓runOp, ↓gateD, ↓runD, ↓imp_ft, ↓imp_tf, ↓imp_tt, ↓imp_ff, ↓imp_fn, ↓imp_tn, ↓imp_fy, ↓imp_ty, ↓reduceIte, Nat.reduceLT, Nat.reduceLeDiff, Nat.reduceAdd, Nat.reduceSub, Nat.reduceMul, Nat.reduceEqDiff, reduceCtorEq, Int.reduceToNat, Int.reduceEq, Int.reduceBEq, Int.reduceBNe, Int.reduceLT, Int.reduceLE, Int.reduceNeg, Int.reduceAdd, Int.reduceSub, Int.reduceMul, Int.reduceGE, Int.reduceGT, endO]
   exact retV fun E => nilT_den 191 E
  ·rw [if_neg hlen]
   have dl : decide ((ts.length : Int) > 4096) = true := decide_eq_true (by omega)
   simp (maxSteps := 2000000) only [go_sem, ↓condS, ↓exitS, ↓gateS, ↓runOp, ↓gateD, ↓runD, ↓imp_ft, ↓imp_tf, ↓imp_tt, ↓imp_ff, ↓imp_fn, ↓imp_tn, ↓imp_fy, ↓imp_ty, ↓reduceIte, Nat.reduceLT, Nat.reduceLeDiff, Nat.reduceAdd, Nat.reduceSub, Nat.reduceMul, Nat.reduceEqDiff, reduceCtorEq, Int.reduceToNat, Int.reduceEq, Int.reduceBEq, Int.reduceBNe, Int.reduceLT, Int.reduceLE, Int.reduceNeg, Int.reduceAdd, Int.reduceSub, Int.reduceMul, Int.reduceGE, Int.reduceGT, endO, dl]
   exact retV fun E => nilT_den 3 E
 ·have hL : checkB L = false := by simpa using hL
  rw [if_neg (by simp [hL]), hL]
  simp (maxSteps := 2000000) only [go_sem, ↓condS, ↓exitS, ↓gateS, ↓runOp, ↓gateD, ↓runD, ↓imp_ft, ↓imp_tf, ↓imp_tt, ↓imp_ff, ↓imp_fn, ↓imp_tn, ↓imp_fy, ↓imp_ty, ↓reduceIte, Nat.reduceLT, Nat.reduceLeDiff, Nat.reduceAdd, Nat.reduceSub, Nat.reduceMul, Nat.reduceEqDiff, reduceCtorEq, Int.reduceToNat, Int.reduceEq, Int.reduceBEq, Int.reduceBNe, Int.reduceLT, Int.reduceLE, Int.reduceNeg, Int.reduceAdd, Int.reduceSub, Int.reduceMul, Int.reduceGE, Int.reduceGT, endO]
  exact retV fun E => nilT_den 190 E
set_option maxRecDepth 100000 in
set_option maxHeartbeats 1000000 in
theorem rrun_calls (w : World) (v v' : Value) (L : Lt) (o : Int) (ts : List Tn) (hL : checkB L = true) (ho : 1 ≤ o ∧ o ≤ 3) (hlen : ts.length ≤ 4096) (h : LtR w v L) (h' : Arr w Tn.enc 3 v' ts) : Calls Try.prog 12 #[v, .int .i64 o, v'] w (RetN w 5 (rnT (runT L o ts ts.length).1 (runT L o ts ts.length).2) (fun b => stO b (runT L o ts ts.length).1)) := by
 refine enterLtT (A := []) (c := ir12) (rs := rs12) (nt := nt12) h h' [.agg (ltS 0), .c (.v (.int .i64 o)), .c (.xv (3, 0, 0))] _ Try.func12 rfl (by kernel_rfl) (by kernel_rfl) rfl (fun E' h0 h1 => by simp only [List.map_cons, List.map_nil, h0]; simp [SV.den, SC.den, h1]) (of_decide_eq_true rfl) ?_
 generalize hR : RetN w 5 (rnT (runT L o ts ts.length).1 (runT L o ts ts.length).2) (fun b => stO b (runT L o ts ts.length).1) = R
 have dl : decide ((ts.length : Int) > 4096) = false := decide_eq_false (by omega)
 simp (maxSteps := 2000000) only [ir12, nt12, rs12, go_sem, ↓condS, ↓exitS, ↓gateS, ↓runOp, ↓gateD, ↓runD, ↓imp_ft, ↓imp_tf, ↓imp_tt, ↓imp_ff, ↓imp_fn, ↓imp_tn, ↓imp_fy, ↓imp_ty, ↓reduceIte, Nat.reduceLT, Nat.reduceLeDiff, Nat.reduceAdd, Nat.reduceSub, Nat.reduceMul, Nat.reduceEqDiff, reduceCtorEq, Int.reduceToNat, Int.reduceEq, Int.reduceBEq, Int.reduceBNe, Int.reduceLT, Int.reduceLE, Int.reduceNeg, Int.reduceAdd, Int.reduceSub, Int.reduceMul, Int.reduceGE, Int.reduceGT, endO, ltA, ltS, dl]
 refine callV (.c (.v (.bool true))) _ (fun E => rfl) (fun E a w' hs => by
  have := rcheck_calls w' _ L (ltL_at hs rfl rfl rfl)
  rw [hL] at this
  exact this) ?_
 simp (maxSteps := 2000000) only [go_sem, ↓condS, ↓exitS, ↓gateS, ↓runOp, ↓gateD, ↓runD, ↓imp_ft, ↓imp_tf, ↓imp_tt, ↓imp_ff, ↓imp_fn, ↓imp_tn, ↓imp_fy, ↓imp_ty, ↓reduceIte, Nat.reduceLT, Nat.reduceLeDiff, Nat.reduceAdd, Nat.reduceSub, Nat.reduceMul, Nat.reduceEqDiff, reduceCtorEq, Int.reduceToNat, Int.reduceEq, Int.reduceBEq, Int.reduceBNe, Int.reduceLT, Int.reduceLE, Int.reduceNeg, Int.reduceAdd, Int.reduceSub, Int.reduceMul, Int.reduceGE, Int.reduceGT, endO, dl]
 refine callV (.c (.v (.bool true))) _ (fun E => rfl) (fun E a w' hs => by
  have := isorder_calls w' o
  rw [decide_eq_true ho] at this
  exact this) ?_
 simp (maxSteps := 2000000) only [go_sem, ↓condS, ↓exitS, ↓gateS, ↓runOp, ↓gateD, ↓runD, ↓imp_ft, ↓imp_tf, ↓imp_tt, ↓imp_ff, ↓imp_fn, ↓imp_tn, ↓imp_fy, ↓imp_ty, ↓reduceIte, Nat.reduceLT, Nat.reduceLeDiff, Nat.reduceAdd, Nat.reduceSub, Nat.reduceMul, Nat.reduceEqDiff, reduceCtorEq, Int.reduceToNat, Int.reduceEq, Int.reduceBEq, Int.reduceBNe, Int.reduceLT, Int.reduceLE, Int.reduceNeg, Int.reduceAdd, Int.reduceSub, Int.reduceMul, Int.reduceGE, Int.reduceGT, endO]
 refine callN 5 (fun b => .agg (stC b (beginS L))) (fun b => stO b (beginS L)) (fun E a w' hs => rbegin_calls w' _ L hL (ltL_at hs rfl rfl rfl)) ?_
 simp (maxSteps := 2000000) only [go_sem, ↓condS, ↓exitS, ↓gateS, ↓runOp, ↓gateD, ↓runD, ↓imp_ft, ↓imp_tf, ↓imp_tt, ↓imp_ff, ↓imp_fn, ↓imp_tn, ↓imp_fy, ↓imp_ty, ↓reduceIte, Nat.reduceLT, Nat.reduceLeDiff, Nat.reduceAdd, Nat.reduceSub, Nat.reduceMul, Nat.reduceEqDiff, reduceCtorEq, Int.reduceToNat, Int.reduceEq, Int.reduceBEq, Int.reduceBNe, Int.reduceLT, Int.reduceLE, Int.reduceNeg, Int.reduceAdd, Int.reduceSub, Int.reduceMul, Int.reduceGE, Int.reduceGT, endO, stO, stC]
 refine loopI (ι := { i : Nat // i ≤ ts.length }) (fun i => ⟨43, [(1, .c (.v (.int .i64 o))), (2, .c (.xv (3, 0, 0))), (3, .c (.ptr (4, 0, 0) 0)), (6, .c (.ptr (11, 0, 0) 0)), (9, .c (.ptr (5, 0, 0) 0)), (10, .c (.v (.int .i64 ((runT L o ts i.1).2 : Nat)))), (11, .c (.v (.int .i64 (i.1 : Nat))))],
  stP (runT L o ts i.1).1 ++ [(4, .one (.bk [.xv (0, 0, 0), .xv (1, 0, 0)] 25)), (11, .one (.bk [.v (.slice none 0 0), .v (.slice none 0 0), .v (.slice none 0 0), .v (.slice none 0 0)] 32))], [(0, .one (arrOf eI 1 L.words 0)), (1, .one (nestF 2 L.thr.length)), (2, .fam L.thr.length fun k => arrOf Ins.enc 7 (L.thr.getD k []) in0), (3, .one (arrOf Tn.enc 3 ts tn0))], [], 12⟩)
  (fun i => ts.length - i.1) ⟨0, by omega⟩ ?_ ?_
 ·refine le_ren (fun i => if i = 5 then 11 else if i = 11 then 5 else i) rfl rfl (by simp [TmpsLe, look, SV.ren, SC.ren, idσ, SV.okN, SC.okN, runT, runS]) ?_ (by simp +contextual [ArrsLe, ArrLeO, atN, look, Fm.get, idσ, arrLe_of, arrLe_0, arrLe_nest]) rfl
  simp +contextual [stP, stO, stC, OwnLe, BlkLeO, BlkLe, atN, look, Fm.get, idσ, SC.renL, SC.ren, SC.okL, SC.okN, renL_v, okL_v, ren_ats, ok_ats, bfC, bfO, runT, runS]
 rintro ⟨i, hi⟩
 obtain ⟨hwf, hn⟩ := runT_wf (o := o) hL i hi
 have hsu := fun h => runT_succ (L := L) (o := o) (ts := ts) (i := i) h
 simp (maxSteps := 2000000) only [go_sem, ↓condS, ↓exitS, ↓gateS, ↓runOp, ↓gateD, ↓runD, ↓imp_ft, ↓imp_tf, ↓imp_tt, ↓imp_ff, ↓imp_fn, ↓imp_tn, ↓imp_fy, ↓imp_ty, ↓reduceIte, Nat.reduceLT, Nat.reduceLeDiff, Nat.reduceAdd, Nat.reduceSub, Nat.reduceMul, Nat.reduceEqDiff, reduceCtorEq, Int.reduceToNat, Int.reduceEq, Int.reduceBEq, Int.reduceBNe, Int.reduceLT, Int.reduceLE, Int.reduceNeg, Int.reduceAdd, Int.reduceSub, Int.reduceMul, Int.reduceGE, Int.reduceGT, endO, stP, stO, stC]
 refine both (fun hlt => ?_) (fun hge => ?_)
 ·rw [decide_eq_true_eq] at hlt
  have hlt : i < ts.length := by omega
  have hsu := hsu hlt
  have hs1 : (runT L o ts (i + 1)).1 = (turnS L o (runT L o ts i).1 (ts.getD i tn0)).1 := by rw [hsu]
  have hs2 : (runT L o ts (i + 1)).2 = if (turnS L o (runT L o ts i).1 (ts.getD i tn0)).2 = true then (runT L o ts i).2 + 1 else (runT L o ts i).2 := by rw [hsu]
  refine draw_vc (by kernel_rfl) (mkTab_ok _ _) (of_decide_eq_true rfl) (of_decide_eq_true rfl) ?_
  repeat (first | simp (maxSteps := 2000000) only [go_sem, ↓condS, ↓exitS, ↓gateS, ↓runOp, ↓gateD, ↓runD, ↓imp_ft, ↓imp_tf, ↓imp_tt, ↓imp_ff, ↓imp_fn, ↓imp_tn, ↓imp_fy, ↓imp_ty, ↓reduceIte, Nat.reduceLT, Nat.reduceLeDiff, Nat.reduceAdd, Nat.reduceSub, Nat.reduceMul, Nat.reduceEqDiff, reduceCtorEq, Int.reduceToNat, Int.reduceEq, Int.reduceBEq, Int.reduceBNe, Int.reduceLT, Int.reduceLE, Int.reduceNeg, Int.reduceAdd, Int.reduceSub, Int.reduceMul, Int.reduceGE, Int.reduceGT, endO, Tn.enc] | rw [dr_cons])
  refine And.intro hlt (And.intro hlt ?_)
  refine dcall_intro (cr_own 11 (stP (runT L o ts i).1) (ltA 0 L) (show 11 ≤ 12 by decide) (stP_plain _) (stP_le (fun i h => h) (fun _ _ => rfl) rfl rfl rfl rfl rfl rfl) (by simp +contextual [ltA, ArrsLe, ArrLeO, atN, look, Fm.get, idσ, arrLe_of, arrLe_0, arrLe_nest]) stE_key (fun E w h => rturn_own w E L o _ (ts.getD i tn0) i hL hwf (by omega) h)) rfl trivial ?_ ?_ ?_
  ·simp [wrOk, killO, stE, wrFree, wkImp]
  ·intro q hq hlt2
   have hlt2 : q < 12 := hlt2
   have hq : q = 10 ∨ q = 5 ∨ q = 6 ∨ q = 7 ∨ q = 8 ∨ q = 9 ∨ q = 12 := by simpa [keysL, killO, stE] using hq
   rcases hq with rfl | rfl | rfl | rfl | rfl | rfl | rfl
   all_goals first | rfl | omega
  generalize turnS L o (runT L o ts i).1 (ts.getD i tn0) = q at hs1 hs2 ⊢
  repeat (first | simp (maxSteps := 2000000) only [go_sem, ↓condS, ↓exitS, ↓gateS, ↓runOp, ↓gateD, ↓runD, ↓imp_ft, ↓imp_tf, ↓imp_tt, ↓imp_ff, ↓imp_fn, ↓imp_tn, ↓imp_fy, ↓imp_ty, ↓reduceIte, Nat.reduceLT, Nat.reduceLeDiff, Nat.reduceAdd, Nat.reduceSub, Nat.reduceMul, Nat.reduceEqDiff, reduceCtorEq, Int.reduceToNat, Int.reduceEq, Int.reduceBEq, Int.reduceBNe, Int.reduceLT, Int.reduceLE, Int.reduceNeg, Int.reduceAdd, Int.reduceSub, Int.reduceMul, Int.reduceGE, Int.reduceGT, endO, killO, stE, stC] | rw [dr_cons])
  refine both (fun hd => ?_) (fun hd => ?_)
  ·rw [if_pos hd] at hs2
   rw [wr_succ (by omega), wr_succ (by omega)]
   refine backI ⟨i + 1, by omega⟩ (by simp only; omega) (le_ren (fun i => if i = 10 then 12 else i) rfl rfl (by simp [TmpsLe, look, SV.ren, SC.ren, idσ, SV.okN, SC.okN, hs2]) ?_ (by simp +contextual [ArrsLe, ArrLeO, atN, look, Fm.get, idσ, arrLe_of, arrLe_0, arrLe_nest]) rfl)
   show OwnLe (· < 12) _ _ (stP (runT L o ts (i + 1)).1 ++ [(4, .one (.bk [.xv (0, 0, 0), .xv (1, 0, 0)] 25)), (11, .one (.bk [.v (.slice none 0 0), .v (.slice none 0 0), .v (.slice none 0 0), .v (.slice none 0 0)] 32))])
   rw [hs1]
   exact ownLe_app (stP_leE 12 (fun i h => Nat.lt_succ_of_lt h) (fun i h => by simp; omega) rfl rfl rfl rfl rfl rfl rfl) (by simp [OwnLe, BlkLeO, BlkLe, atN, look, Fm.get, idσ, SC.renL, SC.ren, SC.okL, SC.okN])
  ·rw [if_neg (by simp [hd])] at hs2
   rw [wr_succ (by omega)]
   refine backI ⟨i + 1, by omega⟩ (by simp only; omega) (le_ren (fun i => if i = 10 then 12 else i) rfl rfl (by simp [TmpsLe, look, SV.ren, SC.ren, idσ, SV.okN, SC.okN, hs2]) ?_ (by simp +contextual [ArrsLe, ArrLeO, atN, look, Fm.get, idσ, arrLe_of, arrLe_0, arrLe_nest]) rfl)
   show OwnLe (· < 12) _ _ (stP (runT L o ts (i + 1)).1 ++ [(4, .one (.bk [.xv (0, 0, 0), .xv (1, 0, 0)] 25)), (11, .one (.bk [.v (.slice none 0 0), .v (.slice none 0 0), .v (.slice none 0 0), .v (.slice none 0 0)] 32))])
   rw [hs1]
   exact ownLe_app (stP_leE 12 (fun i h => Nat.lt_succ_of_lt h) (fun i h => by simp; omega) rfl rfl rfl rfl rfl rfl rfl) (by simp [OwnLe, BlkLeO, BlkLe, atN, look, Fm.get, idσ, SC.renL, SC.ren, SC.okL, SC.okN])
 ·rw [decide_eq_false_iff_not] at hge
  have hin : i = ts.length := by omega
  subst hin
  rw [← hR]
  exact st_ret (fun b => by simp [rnT, stC, SV.ren, SC.ren, SC.renL, ren1L, ren1, fromσ, SV.okN, SC.okN, SC.okL, ok1L, NewIds]) rfl rfl rfl rfl rfl
end Go.Proofs.Ytmcpdafmkkjlcaa.Z
namespace Go.Proofs.Ytmcpdafmkkjlcaa.Z
open Go Go.RowKit
theorem lt_own {C : Ctx} {E : Env} {S : St} {a : Act} {w : World} (hs : Sat C.B C.W C.w0 E S a w) {L : Lt} (h5 : look S.own 5 = some (.one (.ar L.words.length 1 (ats eI L.words 0) 3))) (h6 : look S.own 6 = some (.one (.ar L.thr.length 1 (thC 7 L) 80))) (h7 : look S.own 7 = some (.fam L.thr.length (thO L))) :
  LtR w ((SV.agg [.sl (5, 0, 0) 1 0 L.words.length none, .sl (6, 0, 0) 1 0 L.thr.length none]).den E) L :=
 ⟨(SC.sl (5, 0, 0) 1 0 L.words.length none).den E, (SC.sl (6, 0, 0) 1 0 L.thr.length none).den E, by simp [SV.den], own_at (d := 0) hs 5 _ h5 rfl, nest_own (d := in0) hs (6, 0, 0) 7 _ rfl (thC 7 L) (by simp [atN, h6, Fm.get]; rfl) (fun _ _ => rfl) (fun k hk => by simp [atN, h7, Fm.get, hk, thO]; rfl)⟩
theorem st_own {C : Ctx} {E : Env} {S : St} {a : Act} {w : World} (hs : Sat C.B C.W C.w0 E S a w) {s : LS} (b : Nat) (h6 : look S.own b = some (.one (.ar s.words.length 1 (ats eI s.words 0) 3))) (h7 : look S.own (b + 1) = some (.one (.ar s.regs.length 4 (ats R4.enc s.regs r40) 68))) (h8 : look S.own (b + 2) = some (.one (.ar s.places.length 1 (ats eI s.places 0) 3)))
  (h9 : look S.own (b + 3) = some (.one (.ar s.bufs.length 1 (bfC (b + 4) s) 86))) (h10 : look S.own (b + 4) = some (.fam s.bufs.length (bfO s))) : StR w ((SV.agg (stC b s)).den E) s :=
 ⟨_, _, _, _, by simp [stC, SV.den], own_at (d := 0) hs b _ h6 rfl, own_at (d := r40) hs (b + 1) _ h7 rfl, own_at (d := 0) hs (b + 2) _ h8 rfl, nest_own (d := pd0) hs (b + 3, 0, 0) (b + 4) _ rfl (bfC (b + 4) s) (by simp [atN, h9, Fm.get]; rfl) (fun _ _ => rfl) (fun k hk => by simp [atN, h10, Fm.get, hk, bfO]; rfl)⟩
theorem st_nil (w : World) : StR w (.agg #[.slice none 0 0, .slice none 0 0, .slice none 0 0, .slice none 0 0]) ⟨[], [], [], []⟩ :=
 ⟨_, _, _, _, rfl, Arr.nil _ _ _, Arr.nil _ _ _, Arr.nil _ _ _, [], Arr.nil _ _ _, rfl, fun k hk => by simp at hk⟩
def ir3 : IR := (.seq (.ops [⟨(some 3), (.box 25 (.t 0)), none⟩, ⟨(some 6), (.mv (.k (.c (.v (.bool false))))), none⟩]) (.kill [0, 4, 5, 6, 7, 8, 9, 10, 11] (.seq (.ops [⟨(some 15), (.ld true 2 (.t 3)), none⟩, ⟨(some 16), (.call 10 [(.t 15)]), none⟩, ⟨(some 7), (.new 25 [(.v (.slice none 0 0)), (.v (.slice none 0 0))]), none⟩, ⟨none, (.st 2 (.t 7) (.t 16)), none⟩]) (.kill [15, 16] (.seq (.ops [⟨(some 17), (.mkSl 44 0 3 [] []), none⟩, ⟨(some 18), (.mv (.t 2)), none⟩, ⟨(some 19), (.app 44 3 24 [(.v (.int .i64 0)), (.v (.bool false)), (.v (.int .i64 0))] (.t 17) (.t 18)), none⟩, ⟨(some 8), (.mv (.t 19)), none⟩]) (.kill [17, 18, 19] (.seq (.ops [⟨(some 21), (.ld true 2 (.t 7)), none⟩, ⟨(some 22), (.mv (.t 1)), none⟩, ⟨(some 23), (.mv (.t 8)), none⟩, ⟨(some 24), (.call 11 [(.t 21), (.t 22), (.t 23)]), none⟩, ⟨(some 20), (.mv (.t 24)), none⟩, ⟨(some 25), (.ext 0 (.t 20)), none⟩, ⟨(some 26), (.ext 1 (.t 20)), none⟩, ⟨(some 27), (.ext 2 (.t 20)), none⟩, ⟨(some 9), (.new 32 [(.v (.slice none 0 0)), (.v (.slice none 0 0)), (.v (.slice none 0 0)), (.v (.slice none 0 0))]), none⟩, ⟨none, (.st 4 (.t 9) (.t 25)), none⟩, ⟨(some 10), (.mv (.t 26)), none⟩, ⟨(some 11), (.mv (.t 27)), none⟩]) (.kill [20, 21, 22, 23, 24, 25, 26, 27] (.seq (.ops [⟨(some 29), (.ld true 2 (.t 3)), none⟩, ⟨(some 30), (.mv (.t 1)), none⟩, ⟨(some 31), (.mv (.t 2)), none⟩, ⟨(some 32), (.call 12 [(.t 29), (.t 30), (.t 31)]), none⟩, ⟨(some 28), (.mv (.t 32)), none⟩, ⟨(some 33), (.ext 0 (.t 28)), none⟩, ⟨(some 34), (.ext 1 (.t 28)), none⟩, ⟨(some 35), (.ext 2 (.t 28)), none⟩, ⟨(some 12), (.new 32 [(.v (.slice none 0 0)), (.v (.slice none 0 0)), (.v (.slice none 0 0)), (.v (.slice none 0 0))]), none⟩, ⟨none, (.st 4 (.t 12) (.t 33)), none⟩, ⟨(some 13), (.mv (.t 34)), none⟩, ⟨(some 14), (.mv (.t 35)), none⟩]) (.kill [1, 28, 29, 30, 31, 32, 33, 34, 35] (.seq (.ops [⟨(some 36), (.ld true 4 (.t 9)), none⟩, ⟨(some 37), (.ld true 4 (.t 12)), none⟩, ⟨(some 38), (.call 13 [(.t 36), (.t 37)]), none⟩, ⟨(some 39), (.mv (.t 38)), none⟩, ⟨(some 40), (.mv (.t 10)), (some (39, true))⟩, ⟨(some 41), (.mv (.t 13)), (some (39, true))⟩, ⟨(some 42), (.bin .eql (.t 40) (.t 41)), (some (39, true))⟩, ⟨(some 43), (.pick (.t 39) (.t 42) (.k (.c (.v (.bool false))))), none⟩, ⟨(some 44), (.mv (.t 43)), none⟩, ⟨(some 45), (.mv (.t 11)), (some (44, true))⟩, ⟨(some 46), (.call 14 [(.t 45)]), (some (44, true))⟩, ⟨(some 47), (.mv (.t 14)), (some (44, true))⟩, ⟨(some 48), (.bin .eql (.t 46) (.t 47)), (some (44, true))⟩, ⟨(some 49), (.pick (.t 44) (.t 48) (.k (.c (.v (.bool false))))), none⟩, ⟨(some 50), (.mv (.t 49)), none⟩, ⟨(some 51), (.ld true 2 (.t 7)), (some (50, true))⟩, ⟨(some 52), (.ld true 2 (.t 3)), (some (50, true))⟩, ⟨(some 53), (.call 15 [(.t 51), (.t 52)]), (some (50, true))⟩, ⟨(some 54), (.pick (.t 50) (.t 53) (.k (.c (.v (.bool false))))), none⟩, ⟨(some 55), (.mv (.t 54)), none⟩, ⟨(some 56), (.mv (.t 8)), (some (55, true))⟩, ⟨(some 57), (.mv (.t 2)), (some (55, true))⟩, ⟨(some 58), (.call 16 [(.t 56), (.t 57)]), (some (55, true))⟩, ⟨(some 59), (.pick (.t 55) (.t 58) (.k (.c (.v (.bool false))))), none⟩, ⟨(some 6), (.mv (.t 59)), none⟩]) (.kill [2, 3, 7, 8, 9, 10, 11, 12, 13, 14, 36, 37, 38, 39, 40, 41, 42, 43, 44, 45, 46, 47, 48, 49, 50, 51, 52, 53, 54, 55, 56, 57, 58, 59] .ret))))))))))))
def rs3 : List RS := [(.t 6)]
def nt3 : Nat := 60
set_option maxRecDepth 100000 in
set_option maxHeartbeats 1000000 in
theorem runs_walk (w : World) (v v' : Value) (L : Lt) (o : Int) (ts : List Tn) (hok : LtOk L) (hsz : LtSz L) (hts : ts.length * 24 ≤ 140737488351232) (h : LtR w v L) (h' : Arr w Tn.enc 3 v' ts) : Calls Try.prog 3 #[v, .int .i64 o, v'] w (RetV w (.bool true)) := by
 refine enterLtT (A := []) (c := ir3) (rs := rs3) (nt := nt3) h h' [.agg (ltS 0), .c (.v (.int .i64 o)), .c (.xv (3, 0, 0))] _ Try.func3 rfl (by kernel_rfl) (by kernel_rfl) rfl (fun E' h0 h1 => by simp only [List.map_cons, List.map_nil, h0]; simp [SV.den, SC.den, h1]) (of_decide_eq_true rfl) ?_
 have y1 := fit24 ts.length (by omega)
 simp (maxSteps := 2000000) only [ir3, nt3, rs3, go_sem, ↓condS, ↓exitS, ↓gateS, ↓runOp, ↓gateD, ↓runD, ↓imp_ft, ↓imp_tf, ↓imp_tt, ↓imp_ff, ↓imp_fn, ↓imp_tn, ↓imp_fy, ↓imp_ty, ↓reduceIte, Nat.reduceLT, Nat.reduceLeDiff, Nat.reduceAdd, Nat.reduceSub, Nat.reduceMul, Nat.reduceEqDiff, reduceCtorEq, Int.reduceToNat, Int.reduceEq, Int.reduceBEq, Int.reduceBNe, Int.reduceLT, Int.reduceLE, Int.reduceNeg, Int.reduceAdd, Int.reduceSub, Int.reduceMul, Int.reduceGE, Int.reduceGT, endO, ltA, ltS]
 refine callN 3 (fun b => .agg (twS b L)) (fun b => twO b L) (fun E a w' hs => twin_calls w' _ L hsz (ltL_at hs rfl rfl rfl)) ?_
 simp (maxSteps := 2000000) only [go_sem, ↓condS, ↓exitS, ↓gateS, ↓runOp, ↓gateD, ↓runD, ↓imp_ft, ↓imp_tf, ↓imp_tt, ↓imp_ff, ↓imp_fn, ↓imp_tn, ↓imp_fy, ↓imp_ty, ↓reduceIte, Nat.reduceLT, Nat.reduceLeDiff, Nat.reduceAdd, Nat.reduceSub, Nat.reduceMul, Nat.reduceEqDiff, reduceCtorEq, Int.reduceToNat, Int.reduceEq, Int.reduceBEq, Int.reduceBNe, Int.reduceLT, Int.reduceLE, Int.reduceNeg, Int.reduceAdd, Int.reduceSub, Int.reduceMul, Int.reduceGE, Int.reduceGT, endO, twS, twO]
 refine And.intro (Nat.zero_le _) (And.intro ⟨y1, by simp only [maxLen]; omega⟩ ?_)
 have hG : ∀ {C : Ctx} {E : Env} {S : St} {a : Act} {w' : World}, Sat C.B C.W C.w0 E S a w' → look S.own 10 = some (.one (.ar ts.length 3 (appAt 0 (segs 3 []) (arrOf Tn.enc 3 ts tn0).at_) 44)) → Arr w' Tn.enc 3 ((SC.sl (10, 0, 0) 3 0 ts.length none).den E) ts := fun hs hl =>
  arr_own (d := tn0) hs 10 _ _ _ hl rfl (Nat.le_refl _) (fun e he => by simp [appAt, arrOf_ats])
 by_cases he : runE L o ts.length = 0
 ·have hc : checkB L = true ∧ ts.length ≤ 4096 ∧ 1 ≤ o ∧ o ≤ 3 := by
   unfold runE at he
   split at he
   ·next h1 =>
    split at he
    ·next h2 =>
     split at he
     ·next h3 => exact ⟨h1, h2, h3⟩
     ·cases he
    ·cases he
   ·cases he
  obtain ⟨hL, hlen, ho⟩ := hc
  refine callN 5 (rnT (runT L o ts ts.length).1 (runT L o ts ts.length).2) (fun b => stO b (runT L o ts ts.length).1) (fun E a w' hs => run_calls w' _ _ L o ts hL hok ho hlen (lt_own hs rfl rfl rfl) (hG hs rfl)) ?_
  simp (maxSteps := 2000000) only [go_sem, ↓condS, ↓exitS, ↓gateS, ↓runOp, ↓gateD, ↓runD, ↓imp_ft, ↓imp_tf, ↓imp_tt, ↓imp_ff, ↓imp_fn, ↓imp_tn, ↓imp_fy, ↓imp_ty, ↓reduceIte, Nat.reduceLT, Nat.reduceLeDiff, Nat.reduceAdd, Nat.reduceSub, Nat.reduceMul, Nat.reduceEqDiff, reduceCtorEq, Int.reduceToNat, Int.reduceEq, Int.reduceBEq, Int.reduceBNe, Int.reduceLT, Int.reduceLE, Int.reduceNeg, Int.reduceAdd, Int.reduceSub, Int.reduceMul, Int.reduceGE, Int.reduceGT, endO, rnT, stC, stO]
  refine callN 5 (rnT (runT L o ts ts.length).1 (runT L o ts ts.length).2) (fun b => stO b (runT L o ts ts.length).1) (fun E a w' hs => rrun_calls w' _ _ L o ts hL ho hlen (ltL_at hs rfl rfl rfl) (arr_at (d := tn0) hs 3 rfl)) ?_
  simp (maxSteps := 2000000) only [go_sem, ↓condS, ↓exitS, ↓gateS, ↓runOp, ↓gateD, ↓runD, ↓imp_ft, ↓imp_tf, ↓imp_tt, ↓imp_ff, ↓imp_fn, ↓imp_tn, ↓imp_fy, ↓imp_ty, ↓reduceIte, Nat.reduceLT, Nat.reduceLeDiff, Nat.reduceAdd, Nat.reduceSub, Nat.reduceMul, Nat.reduceEqDiff, reduceCtorEq, Int.reduceToNat, Int.reduceEq, Int.reduceBEq, Int.reduceBNe, Int.reduceLT, Int.reduceLE, Int.reduceNeg, Int.reduceAdd, Int.reduceSub, Int.reduceMul, Int.reduceGE, Int.reduceGT, endO, rnT, stC, stO]
  refine callV (.c (.v (.bool true))) _ (fun E => rfl) (fun E a w' hs => sstate_calls w' _ _ (runT L o ts ts.length).1 (st_own hs 11 rfl rfl rfl rfl rfl) (st_own hs 17 rfl rfl rfl rfl rfl)) ?_
  simp (maxSteps := 2000000) only [go_sem, ↓condS, ↓exitS, ↓gateS, ↓runOp, ↓gateD, ↓runD, ↓imp_ft, ↓imp_tf, ↓imp_tt, ↓imp_ff, ↓imp_fn, ↓imp_tn, ↓imp_fy, ↓imp_ty, ↓reduceIte, Nat.reduceLT, Nat.reduceLeDiff, Nat.reduceAdd, Nat.reduceSub, Nat.reduceMul, Nat.reduceEqDiff, reduceCtorEq, Int.reduceToNat, Int.reduceEq, Int.reduceBEq, Int.reduceBNe, Int.reduceLT, Int.reduceLE, Int.reduceNeg, Int.reduceAdd, Int.reduceSub, Int.reduceMul, Int.reduceGE, Int.reduceGT, endO]
  refine guardW (.c (.v (.int .i64 0))) _ (fun E => rfl) (fun E a w' hs => num_calls w' _) ?_
  simp (maxSteps := 2000000) only [go_sem, ↓condS, ↓exitS, ↓gateS, ↓runOp, ↓gateD, ↓runD, ↓imp_ft, ↓imp_tf, ↓imp_tt, ↓imp_ff, ↓imp_fn, ↓imp_tn, ↓imp_fy, ↓imp_ty, ↓reduceIte, Nat.reduceLT, Nat.reduceLeDiff, Nat.reduceAdd, Nat.reduceSub, Nat.reduceMul, Nat.reduceEqDiff, reduceCtorEq, Int.reduceToNat, Int.reduceEq, Int.reduceBEq, Int.reduceBNe, Int.reduceLT, Int.reduceLE, Int.reduceNeg, Int.reduceAdd, Int.reduceSub, Int.reduceMul, Int.reduceGE, Int.reduceGT, endO]
  refine guardW (.c (.v (.bool true))) _ (fun E => rfl) (fun E a w' hs => slitmus_calls w' _ _ L (lt_own hs rfl rfl rfl) (ltL_at hs rfl rfl rfl)) ?_
  simp (maxSteps := 2000000) only [go_sem, ↓condS, ↓exitS, ↓gateS, ↓runOp, ↓gateD, ↓runD, ↓imp_ft, ↓imp_tf, ↓imp_tt, ↓imp_ff, ↓imp_fn, ↓imp_tn, ↓imp_fy, ↓imp_ty, ↓reduceIte, Nat.reduceLT, Nat.reduceLeDiff, Nat.reduceAdd, Nat.reduceSub, Nat.reduceMul, Nat.reduceEqDiff, reduceCtorEq, Int.reduceToNat, Int.reduceEq, Int.reduceBEq, Int.reduceBNe, Int.reduceLT, Int.reduceLE, Int.reduceNeg, Int.reduceAdd, Int.reduceSub, Int.reduceMul, Int.reduceGE, Int.reduceGT, endO]
  refine guardW (.c (.v (.bool true))) _ (fun E => rfl) (fun E a w' hs => sturns_calls w' _ _ ts (hG hs rfl) (arr_at (d := tn0) hs 3 rfl)) ?_
  simp (maxSteps := 2000000) only [go_sem, ↓condS, ↓exitS, ↓gateS, ↓runOp, ↓gateD, ↓runD, ↓imp_ft, ↓imp_tf, ↓imp_tt, ↓imp_ff, ↓imp_fn, ↓imp_tn, ↓imp_fy, ↓imp_ty, ↓reduceIte, Nat.reduceLT, Nat.reduceLeDiff, Nat.reduceAdd, Nat.reduceSub, Nat.reduceMul, Nat.reduceEqDiff, reduceCtorEq, Int.reduceToNat, Int.reduceEq, Int.reduceBEq, Int.reduceBNe, Int.reduceLT, Int.reduceLE, Int.reduceNeg, Int.reduceAdd, Int.reduceSub, Int.reduceMul, Int.reduceGE, Int.reduceGT, endO]
  exact retV fun E => by simp [SV.den, SC.den]
 ·refine callV (nilT (runE L o ts.length)) _ (nilT_den _) (fun E a w' hs => run_err w' _ _ L o ts hok he (lt_own hs rfl rfl rfl) (hG hs rfl)) ?_
  simp (maxSteps := 2000000) only [go_sem, ↓condS, ↓exitS, ↓gateS, ↓runOp, ↓gateD, ↓runD, ↓imp_ft, ↓imp_tf, ↓imp_tt, ↓imp_ff, ↓imp_fn, ↓imp_tn, ↓imp_fy, ↓imp_ty, ↓reduceIte, Nat.reduceLT, Nat.reduceLeDiff, Nat.reduceAdd, Nat.reduceSub, Nat.reduceMul, Nat.reduceEqDiff, reduceCtorEq, Int.reduceToNat, Int.reduceEq, Int.reduceBEq, Int.reduceBNe, Int.reduceLT, Int.reduceLE, Int.reduceNeg, Int.reduceAdd, Int.reduceSub, Int.reduceMul, Int.reduceGE, Int.reduceGT, endO, nilT]
  refine callV (nilT (runE L o ts.length)) _ (nilT_den _) (fun E a w' hs => rrun_err w' _ _ L o ts he (ltL_at hs rfl rfl rfl) (arr_at (d := tn0) hs 3 rfl)) ?_
  simp (maxSteps := 2000000) only [go_sem, ↓condS, ↓exitS, ↓gateS, ↓runOp, ↓gateD, ↓runD, ↓imp_ft, ↓imp_tf, ↓imp_tt, ↓imp_ff, ↓imp_fn, ↓imp_tn, ↓imp_fy, ↓imp_ty, ↓reduceIte, Nat.reduceLT, Nat.reduceLeDiff, Nat.reduceAdd, Nat.reduceSub, Nat.reduceMul, Nat.reduceEqDiff, reduceCtorEq, Int.reduceToNat, Int.reduceEq, Int.reduceBEq, Int.reduceBNe, Int.reduceLT, Int.reduceLE, Int.reduceNeg, Int.reduceAdd, Int.reduceSub, Int.reduceMul, Int.reduceGE, Int.reduceGT, endO, nilT]
  refine callV (.c (.v (.bool true))) _ (fun E => rfl) (fun E a w' hs => sstate_calls w' _ _ _ (st_nil w') (st_nil w')) ?_
  simp (maxSteps := 2000000) only [go_sem, ↓condS, ↓exitS, ↓gateS, ↓runOp, ↓gateD, ↓runD, ↓imp_ft, ↓imp_tf, ↓imp_tt, ↓imp_ff, ↓imp_fn, ↓imp_tn, ↓imp_fy, ↓imp_ty, ↓reduceIte, Nat.reduceLT, Nat.reduceLeDiff, Nat.reduceAdd, Nat.reduceSub, Nat.reduceMul, Nat.reduceEqDiff, reduceCtorEq, Int.reduceToNat, Int.reduceEq, Int.reduceBEq, Int.reduceBNe, Int.reduceLT, Int.reduceLE, Int.reduceNeg, Int.reduceAdd, Int.reduceSub, Int.reduceMul, Int.reduceGE, Int.reduceGT, endO]
  refine guardW (.c (.v (.int .i64 (runE L o ts.length)))) _ (fun E => rfl) (fun E a w' hs => num_calls w' _) ?_
  simp (maxSteps := 2000000) only [go_sem, ↓condS, ↓exitS, ↓gateS, ↓runOp, ↓gateD, ↓runD, ↓imp_ft, ↓imp_tf, ↓imp_tt, ↓imp_ff, ↓imp_fn, ↓imp_tn, ↓imp_fy, ↓imp_ty, ↓reduceIte, Nat.reduceLT, Nat.reduceLeDiff, Nat.reduceAdd, Nat.reduceSub, Nat.reduceMul, Nat.reduceEqDiff, reduceCtorEq, Int.reduceToNat, Int.reduceEq, Int.reduceBEq, Int.reduceBNe, Int.reduceLT, Int.reduceLE, Int.reduceNeg, Int.reduceAdd, Int.reduceSub, Int.reduceMul, Int.reduceGE, Int.reduceGT, endO]
  refine guardW (.c (.v (.bool true))) _ (fun E => rfl) (fun E a w' hs => slitmus_calls w' _ _ L (lt_own hs rfl rfl rfl) (ltL_at hs rfl rfl rfl)) ?_
  simp (maxSteps := 2000000) only [go_sem, ↓condS, ↓exitS, ↓gateS, ↓runOp, ↓gateD, ↓runD, ↓imp_ft, ↓imp_tf, ↓imp_tt, ↓imp_ff, ↓imp_fn, ↓imp_tn, ↓imp_fy, ↓imp_ty, ↓reduceIte, Nat.reduceLT, Nat.reduceLeDiff, Nat.reduceAdd, Nat.reduceSub, Nat.reduceMul, Nat.reduceEqDiff, reduceCtorEq, Int.reduceToNat, Int.reduceEq, Int.reduceBEq, Int.reduceBNe, Int.reduceLT, Int.reduceLE, Int.reduceNeg, Int.reduceAdd, Int.reduceSub, Int.reduceMul, Int.reduceGE, Int.reduceGT, endO]
  refine guardW (.c (.v (.bool true))) _ (fun E => rfl) (fun E a w' hs => sturns_calls w' _ _ ts (hG hs rfl) (arr_at (d := tn0) hs 3 rfl)) ?_
  simp (maxSteps := 2000000) only [go_sem, ↓condS, ↓exitS, ↓gateS, ↓runOp, ↓gateD, ↓runD, ↓imp_ft, ↓imp_tf, ↓imp_tt, ↓imp_ff, ↓imp_fn, ↓imp_tn, ↓imp_fy, ↓imp_ty, ↓reduceIte, Nat.reduceLT, Nat.reduceLeDiff, Nat.reduceAdd, Nat.reduceSub, Nat.reduceMul, Nat.reduceEqDiff, reduceCtorEq, Int.reduceToNat, Int.reduceEq, Int.reduceBEq, Int.reduceBNe, Int.reduceLT, Int.reduceLE, Int.reduceNeg, Int.reduceAdd, Int.reduceSub, Int.reduceMul, Int.reduceGE, Int.reduceGT, endO]
  exact retV fun E => by simp [SV.den, SC.den]
end Go.Proofs.Ytmcpdafmkkjlcaa.Z
namespace Go.Proofs.Ytmcpdafmkkjlcaa.Z
open Go Go.RowKit Go.ChangeShapes Go.WideShapes Go.ChangeAt
theorem own : ownKnob Try.prog.godebug = none := by kernel_rfl
theorem laidOut : laidOutB Try.prog = true := by kernel_rfl
section
variable {H : Type} {enc : TypeId × Value → H} {P : Program} {w : World} {base : Nat} {spare : Nat → Bool} {held : Bool}
theorem leaf_sliceW {α : Type} {b : Nat} {ws : List Nat} {u e : TypeId} {c : Value} (hu : P.underlying u = some (.slice e)) {s : Nat} (hpos : 0 < s) (hc : P.cellsOf e = s) (encA : α → List Value) (Q : α → Prop)
  (helem : ∀ (m : Nat) (cs : List Value) (y : DataW H × List MemPlace), cs.length = s → DataW.trod enc P w base spare held m e cs = some y → (∀ k ∈ y.1.weights P e, k ∈ ws) → ∃ x : α, cs = encA x ∧ Q x)
  (h : LeafAt enc P w base spare held b ws u c) : ∃ xs : List α, Arr w encA s c xs ∧ (∀ x ∈ xs, Q x) ∧ xs.length + 1 ≤ b ∧ (xs = [] ∨ ∃ k ∈ ws, xs.length * P.bytesOf e ≤ k) := by
 obtain ⟨m, y, h1, hb, hw⟩ := h
 rcases DataW.trod_slice hu h1 with ⟨hcs, rfl⟩ | ⟨a, len, cap, elems, rest, n, _, hcs, rfl, hba, hl, hm, hlen, hel, hsp, hns⟩
 ·simp only [List.cons.injEq, and_true] at hcs
  subst hcs
  refine ⟨[], Arr.nil _ _ _, by simp, ?_, Or.inl rfl⟩
  simp only [Rows.uptoBulk] at hb
  simpa using hb
 ·simp only [List.cons.injEq, and_true] at hcs
  subst hcs
  have each : ∀ i, i < len → ∃ x : α, (∃ cs, w.cells? base (a.add (i * s)) s = some cs ∧ cs = encA x) ∧ Q x := by
   intro i hi
   have h2 := hel i hi
   rw [List.getElem?_eq_getElem (by omega), hc] at h2
   obtain ⟨cs, h3, h4⟩ := Option.bind_eq_some_iff.1 h2
   obtain ⟨x, h5, h6⟩ := helem n cs _ (World.cells?_some h3).2.1 h4 (fun k hk => hw k (by
    simp only [DataW.weights, hu]
    exact List.mem_cons_of_mem _ (List.mem_append_left _ (weightsAll_mem (List.mem_map.2 ⟨_, List.getElem_mem (by omega), rfl⟩) k hk))))
   exact ⟨x, ⟨cs, h3, h5⟩, h6⟩
  obtain ⟨xs, hxl, hx⟩ := choose_list len each
  refine ⟨xs, ?_, ?_, ?_, ?_⟩
  ·refine ⟨some a, cap, by rw [hxl], by omega, hm, ?_⟩
   by_cases h0 : xs = []
   ·exact Or.inl h0
   ·right
    by_cases hspot : a.spot = none
    ·obtain ⟨ab, ao, sp⟩ := a
     simp only at hspot
     subst hspot
     refine ⟨ab, ao, rfl, fun k x hk j u hj => ?_⟩
     obtain ⟨⟨cs, h3, rfl⟩, _⟩ := hx k x hk
     obtain ⟨_, hlc, hcell⟩ := World.cells?_some h3
     have hjs : j < s := by rw [← hlc]; exact (List.getElem?_eq_some_iff.1 hj).1
     have h4 := hcell j hjs
     rw [hj] at h4
     rw [← h4]
     congr 1
     unfold Addr.add
     split <;> split <;> simp_all
    ·exfalso
     obtain ⟨x0, hx0⟩ : ∃ x0, xs[0]? = some x0 := by cases xs with | nil => exact absurd rfl h0 | cons y _ => exact ⟨y, rfl⟩
     obtain ⟨⟨cs, h3, _⟩, _⟩ := hx 0 x0 hx0
     obtain ⟨_, hlc, hcell⟩ := World.cells?_some h3
     have h4 := hcell 0 hpos
     rw [Nat.zero_mul] at h4
     have e : (a.add 0).add 0 = a := by simp [Addr.add]
     rw [e, List.getElem?_eq_getElem (by omega)] at h4
     unfold World.cell? at h4
     split at h4
     ·cases hs : a.spot with
      | none => exact hspot hs
      | some q => rw [hs] at h4; simp at h4
     ·cases h4
  ·intro x hx'
   obtain ⟨i, hi⟩ := List.getElem?_of_mem hx'
   exact (hx i x hi).2
  ·have h2 := length_le_bulk (elems.map (·.1))
   simp only [Rows.uptoBulk, List.length_map] at hb h2
   omega
  ·right
   refine ⟨_, hw (((elems.map (·.1)).length + (rest.map (·.1)).length) * P.bytesOf e) ?_, ?_⟩
   ·simp only [DataW.weights, hu]
    exact List.mem_cons_self
   ·rw [hxl, List.length_map, hlen]
    exact Nat.mul_le_mul_right _ (by omega)
end
section
variable {H : Type} {enc : TypeId × Value → H} {w : World}
theorem reach_len {α : Type} {x : List α} {s : Nat} {ws : List Nat} (hr : ∀ k ∈ ws, k ≤ reachBytes) (h : x = [] ∨ ∃ k ∈ ws, x.length * s ≤ k) : x.length * s ≤ 140737488351232 := by
 rcases h with rfl | ⟨k, hk, h⟩
 ·simp
 ·have := hr k hk
  unfold reachBytes at this
  omega
theorem lit_rng {n : Int} (h : (Lit.int .i64 n).wf = true) : -9223372036854775808 ≤ n ∧ n ≤ 9223372036854775807 := by
 simp [Lit.wf, IntKind.min, IntKind.max, IntKind.signed, IntKind.bits] at h
 omega
theorem leavesIs : leavesIn Try.prog 9 83 = some [81, 3, 3, 3, 3, 3, 3] := by kernel_rfl
theorem cellsIs : Try.prog.cellsOf 83 = 7 := by kernel_rfl
theorem bytesIs : Try.prog.bytesOf 83 = 56 := by kernel_rfl
theorem leavesLt : leavesIn Try.prog 9 25 = some [22, 23] := by kernel_rfl
theorem cellsLt : Try.prog.cellsOf 25 = 2 := by kernel_rfl
theorem leavesTn : leavesIn Try.prog 9 44 = some [3, 4, 3] := by kernel_rfl
theorem cellsTn : Try.prog.cellsOf 44 = 3 := by kernel_rfl
theorem bytesTn : Try.prog.bytesOf 44 = 24 := by kernel_rfl
theorem leavesTs : leavesIn Try.prog 9 27 = some [27] := by kernel_rfl
theorem cellsI1 : Try.prog.cellsOf 3 = 1 := by kernel_rfl
theorem bytesI1 : Try.prog.bytesOf 3 = 8 := by kernel_rfl
theorem cellsIl : Try.prog.cellsOf 80 = 1 := by kernel_rfl
theorem bytesIl : Try.prog.bytesOf 80 = 24 := by kernel_rfl
theorem leavesIl : leavesIn Try.prog 9 80 = some [80] := by kernel_rfl
theorem leaf_ints {b : Nat} {ws : List Nat} {c : Value} (h : LeafAt enc Try.prog w 0 (fun _ => true) true b ws 22 c) :
  ∃ xs : List Int, Arr w eI 1 c xs ∧ (xs = [] ∨ ∃ k ∈ ws, xs.length * 8 ≤ k) := by
 obtain ⟨xs, h1, h4, h2, h3⟩ := h.slice (α := Int) Try.underlying22 (by decide) cellsI1 eI (fun x => True) (fun m cs y hl ht => by
  match cs, hl with
  | [c0], _ =>
   have L := leaf_of 9 _ _ (show leavesIn Try.prog 9 3 = some [3] by kernel_rfl) m _ _ ht
   obtain ⟨x0, rfl, r0⟩ := (L 0 _ c0 rfl rfl).int Try.underlying3
   exact ⟨x0, rfl, trivial⟩)
 rw [bytesI1] at h3
 exact ⟨xs, h1, h3⟩
theorem leaf_turns {b : Nat} {ws : List Nat} {c : Value} (h : LeafAt enc Try.prog w 0 (fun _ => true) true b ws 27 c) :
  ∃ xs : List Tn, Arr w Tn.enc 3 c xs ∧ (xs = [] ∨ ∃ k ∈ ws, xs.length * 24 ≤ k) := by
 obtain ⟨xs, h1, h4, h2, h3⟩ := h.slice (α := Tn) Try.underlying27 (by decide) cellsTn Tn.enc (fun x => True) (fun m cs y hl ht => by
  match cs, hl with
  | [c0, c1, c2], _ =>
   have L := leaf_of 9 _ _ leavesTn m _ _ ht
   obtain ⟨x0, rfl, r0⟩ := (L 0 _ c0 rfl rfl).int Try.underlying3
   obtain ⟨x1, rfl⟩ := (L 1 _ c1 rfl rfl).bool Try.underlying4
   obtain ⟨x2, rfl, r2⟩ := (L 2 _ c2 rfl rfl).int Try.underlying3
   exact ⟨⟨x0, x1, x2⟩, rfl, trivial⟩)
 rw [bytesTn] at h3
 exact ⟨xs, h1, h3⟩
theorem leaf_code {b : Nat} {ws : List Nat} {c : Value} (h : LeafAt enc Try.prog w 0 (fun _ => true) true b ws 80 c) :
  ∃ xs : List Ins, Arr w Ins.enc 7 c xs ∧ (∀ c ∈ xs, InR c) ∧ (xs = [] ∨ ∃ k ∈ ws, xs.length * 56 ≤ k) := by
 obtain ⟨xs, h1, h4, h2, h3⟩ := h.slice (α := Ins) Try.underlying80 (by decide) cellsIs Ins.enc InR (fun m cs y hl ht => by
  match cs, hl with
  | [c0, c1, c2, c3, c4, c5, c6], _ =>
   have L := leaf_of 9 _ _ leavesIs m _ _ ht
   obtain ⟨x0, rfl, _⟩ := (L 0 _ c0 rfl rfl).int Try.underlying81
   obtain ⟨x1, rfl, _⟩ := (L 1 _ c1 rfl rfl).int Try.underlying3
   obtain ⟨x2, rfl, _⟩ := (L 2 _ c2 rfl rfl).int Try.underlying3
   obtain ⟨x3, rfl, _⟩ := (L 3 _ c3 rfl rfl).int Try.underlying3
   obtain ⟨x4, rfl, r4⟩ := (L 4 _ c4 rfl rfl).int Try.underlying3
   obtain ⟨x5, rfl, _⟩ := (L 5 _ c5 rfl rfl).int Try.underlying3
   obtain ⟨x6, rfl, _⟩ := (L 6 _ c6 rfl rfl).int Try.underlying3
   exact ⟨⟨x0, x1, x2, x3, x4, x5, x6⟩, rfl, lit_rng r4⟩)
 rw [bytesIs] at h3
 exact ⟨xs, h1, h4, h3⟩
theorem leaf_codes {b : Nat} {ws : List Nat} {c : Value} (h : LeafAt enc Try.prog w 0 (fun _ => true) true b ws 23 c) :
  ∃ ls : List (List Ins), Nest w Ins.enc 7 c ls ∧ (∀ code ∈ ls, ∀ c ∈ code, InR c) ∧ (ls = [] ∨ ∃ k ∈ ws, ls.length * 24 ≤ k) ∧ (∀ code ∈ ls, code = [] ∨ ∃ k ∈ ws, code.length * 56 ≤ k) := by
 obtain ⟨vs, h1, h4, _, h3⟩ := leaf_sliceW (h := h) (α := Value) Try.underlying23 (by decide) cellsIl one1' (fun v => ∃ is : List Ins, Arr w Ins.enc 7 v is ∧ (∀ c ∈ is, InR c) ∧ (is = [] ∨ ∃ k ∈ ws, is.length * 56 ≤ k)) (fun m cs y hl ht hw => by
  match cs, hl with
  | [c0], _ =>
   have L := leaf_of 9 _ _ leavesIl m _ _ ht
   obtain ⟨is, g1, g2, g3⟩ := leaf_code (L 0 _ c0 rfl rfl)
   exact ⟨c0, rfl, is, g1, g2, g3.imp id fun ⟨k, hk, h⟩ => ⟨k, hw k hk, h⟩⟩)
 rw [bytesIl] at h3
 obtain ⟨ls, hl, hls⟩ := choose_list (R := fun i is => Arr w Ins.enc 7 (vs.getD i nest0) is ∧ (∀ c ∈ is, InR c) ∧ (is = [] ∨ ∃ k ∈ ws, is.length * 56 ≤ k)) vs.length (fun i hi => by
  obtain ⟨is, g⟩ := h4 (vs.getD i nest0) (by rw [List.getD_eq_getElem?_getD, List.getElem?_eq_getElem hi]; exact List.getElem_mem hi)
  exact ⟨is, g⟩)
 refine ⟨ls, ⟨vs, h1, hl.symm, fun k hk => ?_⟩, fun code hc => ?_, ?_, fun code hc => ?_⟩
 ·rw [List.getD_eq_getElem?_getD (l := ls), List.getElem?_eq_getElem hk]
  exact (hls k _ (List.getElem?_eq_getElem hk)).1
 ·obtain ⟨i, hi⟩ := List.getElem?_of_mem hc
  exact (hls i _ hi).2.1
 ·rw [hl]
  refine h3.imp (fun e => ?_) id
  subst e
  exact List.eq_nil_of_length_eq_zero hl
 ·obtain ⟨i, hi⟩ := List.getElem?_of_mem hc
  exact (hls i _ hi).2.2
set_option maxRecDepth 100000 in
theorem open_litmus {base : Nat} {v : Value} {d : DataW H} {p : List MemPlace} (hv : Value.okWide Try.prog w .any base 25 v) (h : DataW.Trod enc Try.prog w 0 (fun _ => true) true 25 v d p) :
  ∃ L, LtR w v L ∧ LtOk L ∧ ((∀ k ∈ d.weights Try.prog 25, k ≤ reachBytes) → LtSz L) := by
 obtain ⟨cs, rfl, hsz⟩ := okWide_struct Try.underlying25 hv
 obtain ⟨l⟩ := cs
 obtain ⟨fuel, hf⟩ := h
 match l, hsz.trans cellsLt with
 | [c0, c1], _ =>
  have L := leaf_of 9 _ _ leavesLt fuel _ _ hf
  obtain ⟨xs, h1, h2⟩ := leaf_ints (L 0 22 c0 rfl rfl)
  obtain ⟨ls, g1, g2, g3, g4⟩ := leaf_codes (L 1 23 c1 rfl rfl)
  refine ⟨⟨xs, ls⟩, ⟨c0, c1, rfl, h1, g1⟩, g2, fun hr => ⟨reach_len hr h2, reach_len hr g3, fun k hk => ?_⟩⟩
  have hm : ls.getD k [] ∈ ls := by rw [List.getD_eq_getElem?_getD, List.getElem?_eq_getElem hk]; exact List.getElem_mem hk
  exact reach_len hr (g4 _ hm)
set_option maxRecDepth 100000 in
theorem open_turns {base : Nat} {v : Value} {d : DataW H} {p : List MemPlace} (hv : Value.okWide Try.prog w .any base 27 v) (h : DataW.Trod enc Try.prog w 0 (fun _ => true) true 27 v d p) :
  ∃ xs, Arr w Tn.enc 3 v xs ∧ ((∀ k ∈ d.weights Try.prog 27, k ≤ reachBytes) → xs.length * 24 ≤ 140737488351232) := by
 obtain ⟨ba, len, cap, rfl⟩ := okWide_slice Try.underlying27 hv
 obtain ⟨fuel, hf⟩ := h
 obtain ⟨xs, h1, h2⟩ := leaf_turns (leaf_of 9 _ _ leavesTs fuel _ _ hf 0 27 _ rfl rfl)
 exact ⟨xs, h1, fun hr => reach_len hr h2⟩
end
end Go.Proofs.Ytmcpdafmkkjlcaa.Z
