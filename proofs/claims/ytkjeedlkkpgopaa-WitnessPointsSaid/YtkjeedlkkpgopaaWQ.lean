
/- WitnessPoints: the walk. No statement of the program. -/
import Derived.Test.YtkjeedlkkpgopaaWP
-- bundled -- short draws -- cl
namespace Go.Proofs.Ytkjeedlkkpgopaa.Z
open Go Go.RowKit
set_option linter.unusedSimpArgs false
set_option linter.unusedVariables false
def ir5 : IR := (.seq (.ops [⟨(some 2), (.mv (.k (.c (.v (.bool false))))), none⟩]) (.kill [1, 2, 3, 4, 5, 6, 7, 8, 9, 10, 11] (.seq (.ops [⟨(some 6), (.mv (.t 0)), none⟩, ⟨(some 7), (.call 14 [(.t 6)]), none⟩, ⟨(some 3), (.mv (.t 7)), none⟩]) (.kill [6, 7] (.seq (.ops [⟨(some 9), (.mv (.t 3)), none⟩, ⟨(some 10), (.call 22 [(.t 9)]), none⟩, ⟨(some 8), (.mv (.t 10)), none⟩, ⟨(some 11), (.ext 0 (.t 8)), none⟩, ⟨(some 12), (.ext 1 (.t 8)), none⟩, ⟨(some 4), (.mv (.t 11)), none⟩, ⟨(some 5), (.mv (.t 12)), none⟩]) (.kill [8, 9, 10, 11, 12] (.seq (.seq (.ops [⟨(some 13), (.mv (.t 0)), none⟩, ⟨(some 14), (.call 16 [(.t 13)]), none⟩, ⟨(some 15), (.un .not (.t 14)), none⟩]) (.kill [13, 14] (.cond (.t 15) (.seq (.ops [⟨(some 16), (.mv (.t 4)), none⟩, ⟨(some 17), (.len (.t 16)), none⟩, ⟨(some 18), (.bin .eql (.t 17) (.k (.c (.v (.int .i64 0))))), none⟩, ⟨(some 19), (.mv (.t 18)), none⟩, ⟨(some 20), (.mv (.t 5)), (some (19, true))⟩, ⟨(some 21), (.call 21 [(.t 20)]), (some (19, true))⟩, ⟨(some 22), (.bin .eql (.t 21) (.k (.c (.v (.int .i64 120))))), (some (19, true))⟩, ⟨(some 23), (.pick (.t 19) (.t 22) (.k (.c (.v (.bool false))))), none⟩, ⟨(some 24), (.mv (.t 23)), none⟩, ⟨(some 25), (.mv (.t 3)), (some (24, true))⟩, ⟨(some 26), (.mv (.t 0)), (some (24, true))⟩, ⟨(some 27), (.call 17 [(.t 25), (.t 26)]), (some (24, true))⟩, ⟨(some 28), (.pick (.t 24) (.t 27) (.k (.c (.v (.bool false))))), none⟩, ⟨(some 2), (.mv (.t 28)), none⟩]) (.kill [0, 3, 4, 5, 15, 16, 17, 18, 19, 20, 21, 22, 23, 24, 25, 26, 27, 28] .ret)) .skip))) (.kill [2, 15] (.seq (.ops [⟨(some 29), (.mv (.t 4)), none⟩, ⟨(some 30), (.mv (.t 0)), none⟩, ⟨(some 31), (.call 24 [(.t 30)]), none⟩, ⟨(some 32), (.call 23 [(.t 29), (.t 31)]), none⟩, ⟨(some 33), (.mv (.t 32)), none⟩, ⟨(some 34), (.mv (.t 5)), (some (33, true))⟩, ⟨(some 35), (.call 21 [(.t 34)]), (some (33, true))⟩, ⟨(some 36), (.bin .eql (.t 35) (.k (.c (.v (.int .i64 0))))), (some (33, true))⟩, ⟨(some 37), (.pick (.t 33) (.t 36) (.k (.c (.v (.bool false))))), none⟩, ⟨(some 38), (.mv (.t 37)), none⟩, ⟨(some 39), (.mv (.t 3)), (some (38, true))⟩, ⟨(some 40), (.mv (.t 0)), (some (38, true))⟩, ⟨(some 41), (.call 17 [(.t 39), (.t 40)]), (some (38, true))⟩, ⟨(some 42), (.pick (.t 38) (.t 41) (.k (.c (.v (.bool false))))), none⟩, ⟨(some 2), (.mv (.t 42)), none⟩]) (.kill [0, 3, 4, 5, 29, 30, 31, 32, 33, 34, 35, 36, 37, 38, 39, 40, 41, 42] .ret))))))))))
def rs5 : List RS := [(.t 2)]
def nt5 : Nat := 43
set_option maxRecDepth 100000 in
set_option maxHeartbeats 400000 in
theorem points_walk (w : World) (v : Value) (xs : List Cl) (hsz : (xs.length + 1) * 72 ≤ 140737488355328) (hr : ∀ c ∈ xs, c.point ≤ 9223372036854775807) (h : Arr w Cl.enc 9 v xs) : Calls Try.prog 5 #[v] w (RetV w (.bool true)) := by
  refine enter1 (A := []) (c := ir5) (rs := rs5) (nt := nt5) cl0 cl_ok h [.c (.xv (0, 0, 0))] _ Try.func5 rfl (by kernel_rfl) (by kernel_rfl) rfl (fun E' h0 => by simp [SV.den, SC.den, h0]) (of_decide_eq_true rfl) ?_
  simp (config := { maxSteps := 2000000 }) only [ir5, nt5, rs5, go_sem, ↓condS, ↓exitS, ↓gateS, ↓runOp, ↓gateD, ↓runD, ↓imp_ft, ↓imp_tf, ↓imp_tt, ↓imp_ff, ↓imp_fn, ↓imp_tn, ↓imp_fy, ↓imp_ty, ↓reduceIte, Nat.reduceLT, Nat.reduceLeDiff, Nat.reduceAdd, Nat.reduceSub, Nat.reduceMul, Nat.reduceEqDiff, reduceCtorEq, Int.reduceToNat, Int.reduceEq, Int.reduceBEq, Int.reduceBNe, Int.reduceLT, Int.reduceLE, Int.reduceNeg, Int.reduceAdd, Int.reduceSub, Int.reduceMul, Int.reduceGE, Int.reduceGT, Cl.enc, iv, endO]
  refine callN 1 (lsT 9 xs.length) (lsO 53 9 Cl.enc (xs ++ [mark]) cl0) (fun E a w' hs => twin_calls w' _ xs (arr_at (d := cl0) hs 0 rfl) hsz) ?_
  simp (config := { maxSteps := 2000000 }) only [go_sem, ↓condS, ↓exitS, ↓gateS, ↓runOp, ↓gateD, ↓runD, ↓imp_ft, ↓imp_tf, ↓imp_tt, ↓imp_ff, ↓imp_fn, ↓imp_tn, ↓imp_fy, ↓imp_ty, ↓reduceIte, Nat.reduceLT, Nat.reduceLeDiff, Nat.reduceAdd, Nat.reduceSub, Nat.reduceMul, Nat.reduceEqDiff, reduceCtorEq, Int.reduceToNat, Int.reduceEq, Int.reduceBEq, Int.reduceBNe, Int.reduceLT, Int.reduceLE, Int.reduceNeg, Int.reduceAdd, Int.reduceSub, Int.reduceMul, Int.reduceGE, Int.reduceGT, Cl.enc, iv, endO, lsT, lsO]
  have hu : (decide (xs = xs) && mark.thread == -77) = true := by simp [mark]
  have uns : ∀ {C : Ctx} {E : Env} {S : St} {a : Act} {w' : World}, Sat C.B C.W C.w0 E S a w' → look S.own 1 = some (.one (.ar (xs ++ [mark]).length 9 (ats Cl.enc (xs ++ [mark]) cl0) 53)) → look S.arrs 0 = some (.one (arrOf Cl.enc 9 xs cl0)) →
      Calls Try.prog 17 #[(SC.sl (1, 0, 0) 9 0 xs.length none).den E, E.χ (0, 0, 0)] w' (RetV w' (.bool true)) := fun hs h1 h2 => by
    have := unspoilt_calls _ _ _ xs xs mark (tw_tw hs 1 h1) (arr_at (d := cl0) (l := 0) hs 0 (by simp [atN, h2, Fm.get])) rfl
    rw [hu] at this
    exact this
  by_cases hm : mayQ xs = true
  · refine callN 1 (leT 1 (ptsL xs).length 0) (lsO 3 1 eI (ptsL xs) 0) (fun E a w' hs => by
      have := points_calls w' _ xs (by omega) hr (arr_tw hs 1 rfl)
      simp only [ptsV, hm, if_true] at this
      exact this) ?_
    simp (config := { maxSteps := 2000000 }) only [go_sem, ↓condS, ↓exitS, ↓gateS, ↓runOp, ↓gateD, ↓runD, ↓imp_ft, ↓imp_tf, ↓imp_tt, ↓imp_ff, ↓imp_fn, ↓imp_tn, ↓imp_fy, ↓imp_ty, ↓reduceIte, Nat.reduceLT, Nat.reduceLeDiff, Nat.reduceAdd, Nat.reduceSub, Nat.reduceMul, Nat.reduceEqDiff, reduceCtorEq, Int.reduceToNat, Int.reduceEq, Int.reduceBEq, Int.reduceBNe, Int.reduceLT, Int.reduceLE, Int.reduceNeg, Int.reduceAdd, Int.reduceSub, Int.reduceMul, Int.reduceGE, Int.reduceGT, Cl.enc, iv, endO, leT, lsT, lsO]
    refine callV (.c (.v (.bool true))) (.bool true) (fun E => rfl) (fun E a w' hs => by
      have := mayR w' _ xs (by omega) (arr_at (d := cl0) hs 0 rfl)
      rw [hm] at this
      exact this) ?_
    simp (config := { maxSteps := 2000000 }) only [go_sem, ↓condS, ↓exitS, ↓gateS, ↓runOp, ↓gateD, ↓runD, ↓imp_ft, ↓imp_tf, ↓imp_tt, ↓imp_ff, ↓imp_fn, ↓imp_tn, ↓imp_fy, ↓imp_ty, ↓reduceIte, Nat.reduceLT, Nat.reduceLeDiff, Nat.reduceAdd, Nat.reduceSub, Nat.reduceMul, Nat.reduceEqDiff, reduceCtorEq, Int.reduceToNat, Int.reduceEq, Int.reduceBEq, Int.reduceBNe, Int.reduceLT, Int.reduceLE, Int.reduceNeg, Int.reduceAdd, Int.reduceSub, Int.reduceMul, Int.reduceGE, Int.reduceGT, Cl.enc, iv, endO]
    refine callN 1 (lsT 1 (ptsL xs).length) (lsO 3 1 eI (ptsL xs) 0) (fun E a w' hs => rpoints_calls w' _ xs (mayQ_iff.1 hm) (by omega) (arr_at (d := cl0) hs 0 rfl)) ?_
    simp (config := { maxSteps := 2000000 }) only [go_sem, ↓condS, ↓exitS, ↓gateS, ↓runOp, ↓gateD, ↓runD, ↓imp_ft, ↓imp_tf, ↓imp_tt, ↓imp_ff, ↓imp_fn, ↓imp_tn, ↓imp_fy, ↓imp_ty, ↓reduceIte, Nat.reduceLT, Nat.reduceLeDiff, Nat.reduceAdd, Nat.reduceSub, Nat.reduceMul, Nat.reduceEqDiff, reduceCtorEq, Int.reduceToNat, Int.reduceEq, Int.reduceBEq, Int.reduceBNe, Int.reduceLT, Int.reduceLE, Int.reduceNeg, Int.reduceAdd, Int.reduceSub, Int.reduceMul, Int.reduceGE, Int.reduceGT, Cl.enc, iv, endO, lsT, lsO]
    refine callV (.c (.v (.bool true))) (.bool true) (fun E => rfl) (fun E a w' hs => ?_) ?_
    · have := same_calls w' _ _ (ptsL xs) (ptsL xs) (own_at (d := 0) hs 2 _ rfl rfl) (own_at (d := 0) hs 3 _ rfl rfl)
      rw [decide_eq_true rfl] at this
      exact this
    simp (config := { maxSteps := 2000000 }) only [go_sem, ↓condS, ↓exitS, ↓gateS, ↓runOp, ↓gateD, ↓runD, ↓imp_ft, ↓imp_tf, ↓imp_tt, ↓imp_ff, ↓imp_fn, ↓imp_tn, ↓imp_fy, ↓imp_ty, ↓reduceIte, Nat.reduceLT, Nat.reduceLeDiff, Nat.reduceAdd, Nat.reduceSub, Nat.reduceMul, Nat.reduceEqDiff, reduceCtorEq, Int.reduceToNat, Int.reduceEq, Int.reduceBEq, Int.reduceBNe, Int.reduceLT, Int.reduceLE, Int.reduceNeg, Int.reduceAdd, Int.reduceSub, Int.reduceMul, Int.reduceGE, Int.reduceGT, Cl.enc, iv, endO]
    refine callV (.c (.v (.int .i64 0))) _ (fun E => rfl) (fun E a w' hs => num_calls w' 0) ?_
    simp (config := { maxSteps := 2000000 }) only [go_sem, ↓condS, ↓exitS, ↓gateS, ↓runOp, ↓gateD, ↓runD, ↓imp_ft, ↓imp_tf, ↓imp_tt, ↓imp_ff, ↓imp_fn, ↓imp_tn, ↓imp_fy, ↓imp_ty, ↓reduceIte, Nat.reduceLT, Nat.reduceLeDiff, Nat.reduceAdd, Nat.reduceSub, Nat.reduceMul, Nat.reduceEqDiff, reduceCtorEq, Int.reduceToNat, Int.reduceEq, Int.reduceBEq, Int.reduceBNe, Int.reduceLT, Int.reduceLE, Int.reduceNeg, Int.reduceAdd, Int.reduceSub, Int.reduceMul, Int.reduceGE, Int.reduceGT, Cl.enc, iv, endO]
    refine guardW (.c (.v (.bool true))) (.bool true) (fun E => rfl) (fun E a w' hs => uns hs rfl rfl) ?_
    simp (config := { maxSteps := 2000000 }) only [go_sem, ↓condS, ↓exitS, ↓gateS, ↓runOp, ↓gateD, ↓runD, ↓imp_ft, ↓imp_tf, ↓imp_tt, ↓imp_ff, ↓imp_fn, ↓imp_tn, ↓imp_fy, ↓imp_ty, ↓reduceIte, Nat.reduceLT, Nat.reduceLeDiff, Nat.reduceAdd, Nat.reduceSub, Nat.reduceMul, Nat.reduceEqDiff, reduceCtorEq, Int.reduceToNat, Int.reduceEq, Int.reduceBEq, Int.reduceBNe, Int.reduceLT, Int.reduceLE, Int.reduceNeg, Int.reduceAdd, Int.reduceSub, Int.reduceMul, Int.reduceGE, Int.reduceGT, Cl.enc, iv, endO]
    exact retV fun E => by simp [SV.den, SC.den]
  · have hm : mayQ xs = false := by simpa using hm
    refine callN 1 (leT 1 0 120) (lsO 3 1 eI [] 0) (fun E a w' hs => by
      have := points_calls w' _ xs (by omega) hr (arr_tw hs 1 rfl)
      simp only [ptsV, hm, Bool.false_eq_true, if_false] at this
      exact this) ?_
    simp (config := { maxSteps := 2000000 }) only [go_sem, ↓condS, ↓exitS, ↓gateS, ↓runOp, ↓gateD, ↓runD, ↓imp_ft, ↓imp_tf, ↓imp_tt, ↓imp_ff, ↓imp_fn, ↓imp_tn, ↓imp_fy, ↓imp_ty, ↓reduceIte, Nat.reduceLT, Nat.reduceLeDiff, Nat.reduceAdd, Nat.reduceSub, Nat.reduceMul, Nat.reduceEqDiff, reduceCtorEq, Int.reduceToNat, Int.reduceEq, Int.reduceBEq, Int.reduceBNe, Int.reduceLT, Int.reduceLE, Int.reduceNeg, Int.reduceAdd, Int.reduceSub, Int.reduceMul, Int.reduceGE, Int.reduceGT, Cl.enc, iv, endO, leT, lsT, lsO]
    refine callV (.c (.v (.bool false))) (.bool false) (fun E => rfl) (fun E a w' hs => by
      have := mayR w' _ xs (by omega) (arr_at (d := cl0) hs 0 rfl)
      rw [hm] at this
      exact this) ?_
    simp (config := { maxSteps := 2000000 }) only [go_sem, ↓condS, ↓exitS, ↓gateS, ↓runOp, ↓gateD, ↓runD, ↓imp_ft, ↓imp_tf, ↓imp_tt, ↓imp_ff, ↓imp_fn, ↓imp_tn, ↓imp_fy, ↓imp_ty, ↓reduceIte, Nat.reduceLT, Nat.reduceLeDiff, Nat.reduceAdd, Nat.reduceSub, Nat.reduceMul, Nat.reduceEqDiff, reduceCtorEq, Int.reduceToNat, Int.reduceEq, Int.reduceBEq, Int.reduceBNe, Int.reduceLT, Int.reduceLE, Int.reduceNeg, Int.reduceAdd, Int.reduceSub, Int.reduceMul, Int.reduceGE, Int.reduceGT, Cl.enc, iv, endO]
    refine guardW (.c (.v (.int .i64 120))) _ (fun E => rfl) (fun E a w' hs => num_calls w' 120) ?_
    simp (config := { maxSteps := 2000000 }) only [go_sem, ↓condS, ↓exitS, ↓gateS, ↓runOp, ↓gateD, ↓runD, ↓imp_ft, ↓imp_tf, ↓imp_tt, ↓imp_ff, ↓imp_fn, ↓imp_tn, ↓imp_fy, ↓imp_ty, ↓reduceIte, Nat.reduceLT, Nat.reduceLeDiff, Nat.reduceAdd, Nat.reduceSub, Nat.reduceMul, Nat.reduceEqDiff, reduceCtorEq, Int.reduceToNat, Int.reduceEq, Int.reduceBEq, Int.reduceBNe, Int.reduceLT, Int.reduceLE, Int.reduceNeg, Int.reduceAdd, Int.reduceSub, Int.reduceMul, Int.reduceGE, Int.reduceGT, Cl.enc, iv, endO]
    refine guardW (.c (.v (.bool true))) (.bool true) (fun E => rfl) (fun E a w' hs => uns hs rfl rfl) ?_
    simp (config := { maxSteps := 2000000 }) only [go_sem, ↓condS, ↓exitS, ↓gateS, ↓runOp, ↓gateD, ↓runD, ↓imp_ft, ↓imp_tf, ↓imp_tt, ↓imp_ff, ↓imp_fn, ↓imp_tn, ↓imp_fy, ↓imp_ty, ↓reduceIte, Nat.reduceLT, Nat.reduceLeDiff, Nat.reduceAdd, Nat.reduceSub, Nat.reduceMul, Nat.reduceEqDiff, reduceCtorEq, Int.reduceToNat, Int.reduceEq, Int.reduceBEq, Int.reduceBNe, Int.reduceLT, Int.reduceLE, Int.reduceNeg, Int.reduceAdd, Int.reduceSub, Int.reduceMul, Int.reduceGE, Int.reduceGT, Cl.enc, iv, endO]
    exact retV fun E => by simp [SV.den, SC.den]
end Go.Proofs.Ytkjeedlkkpgopaa.Z
