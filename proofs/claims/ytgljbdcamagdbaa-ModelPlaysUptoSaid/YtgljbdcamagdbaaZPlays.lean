/- ModelPlays: the walk. No statement of the program. -/
import Derived.Test.YtgljbdcamagdbaaZPl
-- bundled -- short draws -- cl
namespace Go.Proofs.Ytgljbdcamagdbaa.Z
open Go Go.RowKit
set_option linter.unusedSimpArgs false
set_option linter.unusedVariables false
/-- the error of contents and calls -/
def plE (m : MC) (xs : List Cl) : Int := if mayB m = false then 111 else if ∃ k, k < xs.length ∧ objOf (xs.getD k cl0).op = 0 then 110 else 0
set_option maxRecDepth 100000 in
set_option maxHeartbeats 400000 in
theorem playNo_Z {w : World} {v v' : Value} {m : MC} {xs : List Cl} (h : Cont w v m) (h' : Arr w Cl.enc 9 v' xs) (hn : plE m xs ≠ 0) : Calls Try.prog 32 #[v, v'] w (RetV w (.tuple #[.agg #[.slice none 0 0, .slice none 0 0, .slice none 0 0, .slice none 0 0, .slice none 0 0], .int .i64 0, .int .i64 (plE m xs)])) := by
  have hlen := Z.Arr.lenM h'
  simp only [maxLen] at hlen
  refine enterCL (A := []) (c := ir32) (rs := rs32) (nt := nt32) h cl0 cl_ok h' [.agg (mcS 0), .c (.xv (5, 0, 0))] _ Try.func32 rfl (by kernel_rfl) (by kernel_rfl) rfl (fun E' h0 h1 => by rw [List.map_cons, h0]; simp [SV.den, SC.den, h1]) (of_decide_eq_true rfl) ?_
  simp (config := { maxSteps := 2000000 }) only [ir32, nt32, rs32, go_sem, ↓condS, ↓exitS, ↓gateS, ↓runOp, ↓gateD, ↓runD, ↓imp_ft, ↓imp_tf, ↓imp_tt, ↓imp_ff, ↓imp_fn, ↓imp_tn, ↓imp_fy, ↓imp_ty, ↓reduceIte, Nat.reduceLT, Nat.reduceLeDiff, Nat.reduceAdd, Nat.reduceSub, Nat.reduceMul, Nat.reduceEqDiff, reduceCtorEq, Int.reduceToNat, Int.reduceEq, Int.reduceBEq, Int.reduceBNe, Int.reduceLT, Int.reduceLE, Int.reduceNeg, Int.reduceAdd, Int.reduceSub, Int.reduceMul, Int.reduceGE, Int.reduceGT, Cl.enc, iv, endO, mcS, mcA, List.cons_append, List.nil_append]
  by_cases hm : mayB m = true
  · refine callV (.c (.v (.bool true))) (.bool true) (fun E => rfl) (fun E a w' hs => ?_) ?_
    · have := may_Z (w := w') (cont_at hs 0 rfl rfl rfl rfl rfl) (m := m)
      rw [hm] at this
      exact this
    simp (config := { maxSteps := 2000000 }) only [go_sem, ↓condS, ↓exitS, ↓gateS, ↓runOp, ↓gateD, ↓runD, ↓imp_ft, ↓imp_tf, ↓imp_tt, ↓imp_ff, ↓imp_fn, ↓imp_tn, ↓imp_fy, ↓imp_ty, ↓reduceIte, Nat.reduceLT, Nat.reduceLeDiff, Nat.reduceAdd, Nat.reduceSub, Nat.reduceMul, Nat.reduceEqDiff, reduceCtorEq, Int.reduceToNat, Int.reduceEq, Int.reduceBEq, Int.reduceBNe, Int.reduceLT, Int.reduceLE, Int.reduceNeg, Int.reduceAdd, Int.reduceSub, Int.reduceMul, Int.reduceGE, Int.reduceGT, Cl.enc, iv, endO]
    refine loopI (ι := { k : Nat // k ≤ xs.length ∧ ∀ j, j < k → objOf (xs.getD j cl0).op ≠ 0 }) (fun k => ⟨54, [(1, .c (.xv (5, 0, 0))), (2, .c (.ptr (6, 0, 0) 0)), (4, .c (.ptr (7, 0, 0) 0)), (19, .c (.xv (5, 0, 0))), (20, .c (.v (.int .i64 xs.length))), (21, .c (.v (.int .i64 (k.1 : Nat))))],
      [(6, .one (.bk (mcS 0) 29)), (7, .one (.bk [.v (.slice none 0 0), .v (.slice none 0 0), .v (.slice none 0 0), .v (.slice none 0 0), .v (.slice none 0 0)] 29))], mcA 0 m ++ [(5, .one (arrOf Cl.enc 9 xs cl0))], [], 8⟩)
      (fun k => xs.length - k.1) ⟨0, by omega, fun j hj => absurd hj (Nat.not_lt_zero j)⟩ (le_refl _) ?_
    rintro ⟨k, hk, hall⟩
    simp (config := { maxSteps := 2000000 }) only [go_sem, ↓condS, ↓exitS, ↓gateS, ↓runOp, ↓gateD, ↓runD, ↓imp_ft, ↓imp_tf, ↓imp_tt, ↓imp_ff, ↓imp_fn, ↓imp_tn, ↓imp_fy, ↓imp_ty, ↓reduceIte, Nat.reduceLT, Nat.reduceLeDiff, Nat.reduceAdd, Nat.reduceSub, Nat.reduceMul, Nat.reduceEqDiff, reduceCtorEq, Int.reduceToNat, Int.reduceEq, Int.reduceBEq, Int.reduceBNe, Int.reduceLT, Int.reduceLE, Int.reduceNeg, Int.reduceAdd, Int.reduceSub, Int.reduceMul, Int.reduceGE, Int.reduceGT, Cl.enc, iv, endO, mcS, mcA, List.cons_append, List.nil_append]
    refine both (fun hlt => ?_) (fun hge => ?_)
    · rw [decide_eq_true_eq] at hlt
      have hlt : k < xs.length := by omega
      repeat (with_reducible refine And.intro (by first | (simp only [maxLen]; omega) | omega | decide | (simp; done) | (simp [maxLen]; omega)) ?_)
      refine callV (.c (.v (.int .i64 (objOf (xs.getD k cl0).op)))) _ (fun E => rfl) (fun E a w' hs => obj_Z (xs.getD k cl0).op w') ?_
      simp (config := { maxSteps := 2000000 }) only [go_sem, ↓condS, ↓exitS, ↓gateS, ↓runOp, ↓gateD, ↓runD, ↓imp_ft, ↓imp_tf, ↓imp_tt, ↓imp_ff, ↓imp_fn, ↓imp_tn, ↓imp_fy, ↓imp_ty, ↓reduceIte, Nat.reduceLT, Nat.reduceLeDiff, Nat.reduceAdd, Nat.reduceSub, Nat.reduceMul, Nat.reduceEqDiff, reduceCtorEq, Int.reduceToNat, Int.reduceEq, Int.reduceBEq, Int.reduceBNe, Int.reduceLT, Int.reduceLE, Int.reduceNeg, Int.reduceAdd, Int.reduceSub, Int.reduceMul, Int.reduceGE, Int.reduceGT, Cl.enc, iv, endO]
      refine both (fun hz => ?_) (fun hz => ?_)
      · have hz : objOf (xs.getD k cl0).op = 0 := by simpa using hz
        have he : plE m xs = 110 := by unfold plE; rw [if_neg (by simp [hm]), if_pos ⟨k, hlt, hz⟩]
        rw [he]
        exact retV fun E => by simp [SV.den, den1, SC.den]
      have hz : objOf (xs.getD k cl0).op ≠ 0 := by simpa using hz
      rw [wr_succ (by omega)]
      exact backI ⟨k + 1, hlt, fun j hj => by
        by_cases e : j = k
        · subst e; exact hz
        · exact hall j (by omega)⟩ (by simp only; omega) (le_ren (id) rfl rfl (by simp [TmpsLe, look, SV.ren, SC.ren, SC.renL, ren1L, ren1, idσ, SV.okN, SC.okN, SC.okL, ok1L]) (by simp [OwnLe, BlkLeO, BlkLe, atN, look, Fm.get, idσ, SC.renL, SC.ren, SC.okL, SC.okN, renL_v, okL_v]) (by simp [ArrsLe, ArrLeO, atN, look, Fm.get, idσ, arrLe_of, arrLe_0]) rfl)
    · rw [decide_eq_false_iff_not] at hge
      exfalso
      apply hn
      unfold plE
      rw [if_neg (by simp [hm]), if_neg]
      rintro ⟨j, h1, h2⟩
      exact hall j (by omega) h2
  · have hm : mayB m = false := by simpa using hm
    refine callV (.c (.v (.bool false))) (.bool false) (fun E => rfl) (fun E a w' hs => ?_) ?_
    · have := may_Z (w := w') (cont_at hs 0 rfl rfl rfl rfl rfl) (m := m)
      rw [hm] at this
      exact this
    simp (config := { maxSteps := 2000000 }) only [go_sem, ↓condS, ↓exitS, ↓gateS, ↓runOp, ↓gateD, ↓runD, ↓imp_ft, ↓imp_tf, ↓imp_tt, ↓imp_ff, ↓imp_fn, ↓imp_tn, ↓imp_fy, ↓imp_ty, ↓reduceIte, Nat.reduceLT, Nat.reduceLeDiff, Nat.reduceAdd, Nat.reduceSub, Nat.reduceMul, Nat.reduceEqDiff, reduceCtorEq, Int.reduceToNat, Int.reduceEq, Int.reduceBEq, Int.reduceBNe, Int.reduceLT, Int.reduceLE, Int.reduceNeg, Int.reduceAdd, Int.reduceSub, Int.reduceMul, Int.reduceGE, Int.reduceGT, Cl.enc, iv, endO]
    have he : plE m xs = 111 := by unfold plE; rw [if_pos hm]
    rw [he]
    exact retV fun E => by simp [SV.den, den1, SC.den]
def ir13 : IR := (.seq (.ops [⟨(some 2), (.box 29 (.t 0)), none⟩, ⟨(some 4), (.mv (.k (.c (.v (.bool false))))), none⟩]) (.kill [0, 3, 4, 5, 6, 7, 8, 9, 10, 11] (.seq (.ops [⟨(some 13), (.ld true 5 (.t 2)), none⟩, ⟨(some 14), (.call 22 [(.t 13)]), none⟩, ⟨(some 5), (.new 29 [(.v (.slice none 0 0)), (.v (.slice none 0 0)), (.v (.slice none 0 0)), (.v (.slice none 0 0)), (.v (.slice none 0 0))]), none⟩, ⟨none, (.st 5 (.t 5) (.t 14)), none⟩]) (.kill [13, 14] (.seq (.ops [⟨(some 16), (.ld true 5 (.t 2)), none⟩, ⟨(some 17), (.mv (.t 1)), none⟩, ⟨(some 18), (.call 32 [(.t 16), (.t 17)]), none⟩, ⟨(some 15), (.mv (.t 18)), none⟩, ⟨(some 19), (.ext 0 (.t 15)), none⟩, ⟨(some 20), (.ext 1 (.t 15)), none⟩, ⟨(some 21), (.ext 2 (.t 15)), none⟩, ⟨(some 6), (.new 29 [(.v (.slice none 0 0)), (.v (.slice none 0 0)), (.v (.slice none 0 0)), (.v (.slice none 0 0)), (.v (.slice none 0 0))]), none⟩, ⟨none, (.st 5 (.t 6) (.t 19)), none⟩, ⟨(some 7), (.mv (.t 20)), none⟩, ⟨(some 8), (.mv (.t 21)), none⟩]) (.kill [15, 16, 17, 18, 19, 20, 21] (.seq (.seq (.ops [⟨(some 22), (.call 26 []), none⟩, ⟨(some 23), (.un .not (.t 22)), none⟩, ⟨(some 24), (.mv (.t 23)), none⟩, ⟨(some 25), (.ld true 5 (.t 2)), (some (24, false))⟩, ⟨(some 26), (.ld true 5 (.t 5)), (some (24, false))⟩, ⟨(some 27), (.call 21 [(.t 25), (.t 26)]), (some (24, false))⟩, ⟨(some 28), (.un .not (.t 27)), (some (24, false))⟩, ⟨(some 29), (.pick (.t 24) (.k (.c (.v (.bool true)))) (.t 28)), none⟩]) (.kill [5, 22, 23, 24, 25, 26, 27, 28] (.cond (.t 29) (.seq (.ops [⟨(some 4), (.mv (.k (.c (.v (.bool false))))), none⟩]) (.kill [1, 2, 6, 7, 8, 29] .ret)) .skip))) (.kill [4, 29] (.seq (.seq (.ops [⟨(some 30), (.ld true 5 (.t 2)), none⟩, ⟨(some 31), (.call 20 [(.t 30)]), none⟩, ⟨(some 32), (.un .not (.t 31)), none⟩]) (.kill [30, 31] (.cond (.t 32) (.seq (.ops [⟨(some 33), (.mv (.t 8)), none⟩, ⟨(some 34), (.bin .eql (.t 33) (.k (.c (.v (.int .i64 111))))), none⟩, ⟨(some 35), (.mv (.t 34)), none⟩, ⟨(some 36), (.mv (.t 7)), (some (35, true))⟩, ⟨(some 37), (.bin .eql (.t 36) (.k (.c (.v (.int .i64 0))))), (some (35, true))⟩, ⟨(some 38), (.pick (.t 35) (.t 37) (.k (.c (.v (.bool false))))), none⟩, ⟨(some 39), (.mv (.t 38)), none⟩, ⟨(some 40), (.ld true 5 (.t 6)), (some (39, true))⟩, ⟨(some 41), (.build [(.v (.slice none 0 0)), (.v (.slice none 0 0)), (.v (.slice none 0 0)), (.v (.slice none 0 0)), (.v (.slice none 0 0))] []), (some (39, true))⟩, ⟨(some 42), (.call 21 [(.t 40), (.t 41)]), (some (39, true))⟩, ⟨(some 43), (.pick (.t 39) (.t 42) (.k (.c (.v (.bool false))))), none⟩, ⟨(some 4), (.mv (.t 43)), none⟩]) (.kill [1, 2, 6, 7, 8, 32, 33, 34, 35, 36, 37, 38, 39, 40, 41, 42, 43] .ret)) .skip))) (.kill [4, 32] (.seq (.seq (.ops [⟨(some 44), (.mv (.t 1)), none⟩, ⟨(some 45), (.len (.t 44)), none⟩, ⟨(some 46), (.mv (.k (.c (.v (.int .i64 0))))), none⟩]) (.blk 0 (.loop (.seq (.ops [⟨(some 47), (.bin .lss (.t 46) (.t 45)), none⟩]) (.kill [4, 10, 48, 49, 50, 51, 52, 53, 54, 55, 56, 57, 58, 59, 60, 61, 62, 63, 64, 65] (.seq (.cond (.t 47) .skip (.exit 0)) (.kill [47] (.seq (.blk 1 (.seq (.ops [⟨(some 48), (.ia 9 (.t 44) (.t 46)), none⟩, ⟨(some 49), (.ld true 9 (.t 48)), none⟩, ⟨(some 10), (.new 55 [(.v (.int .i64 0)), (.v (.int .i64 0)), (.v (.int .i64 0)), (.v (.int .i64 0)), (.v (.int .i64 0)), (.v (.int .i64 0)), (.v (.int .i64 0)), (.v (.int .i64 0)), (.v (.int .i64 0))]), none⟩, ⟨none, (.st 9 (.t 10) (.t 49)), none⟩]) (.kill [48, 49] (.seq (.ops [⟨(some 50), (.fa 1 (.t 10)), none⟩, ⟨(some 51), (.ld false 1 (.t 50)), none⟩, ⟨(some 52), (.call 17 [(.t 51)]), none⟩, ⟨(some 53), (.bin .eql (.t 52) (.k (.c (.v (.int .i64 0))))), none⟩]) (.kill [10, 50, 51, 52] (.cond (.t 53) (.seq (.ops [⟨(some 54), (.mv (.t 8)), none⟩, ⟨(some 55), (.bin .eql (.t 54) (.k (.c (.v (.int .i64 110))))), none⟩, ⟨(some 56), (.mv (.t 55)), none⟩, ⟨(some 57), (.mv (.t 7)), (some (56, true))⟩, ⟨(some 58), (.bin .eql (.t 57) (.k (.c (.v (.int .i64 0))))), (some (56, true))⟩, ⟨(some 59), (.pick (.t 56) (.t 58) (.k (.c (.v (.bool false))))), none⟩, ⟨(some 60), (.mv (.t 59)), none⟩, ⟨(some 61), (.ld true 5 (.t 6)), (some (60, true))⟩, ⟨(some 62), (.build [(.v (.slice none 0 0)), (.v (.slice none 0 0)), (.v (.slice none 0 0)), (.v (.slice none 0 0)), (.v (.slice none 0 0))] []), (some (60, true))⟩, ⟨(some 63), (.call 21 [(.t 61), (.t 62)]), (some (60, true))⟩, ⟨(some 64), (.pick (.t 60) (.t 63) (.k (.c (.v (.bool false))))), none⟩, ⟨(some 4), (.mv (.t 64)), none⟩]) (.kill [1, 2, 6, 7, 8, 44, 45, 46, 53, 54, 55, 56, 57, 58, 59, 60, 61, 62, 63, 64] .ret)) .skip)))))) (.kill [4, 10, 48, 49, 50, 51, 52, 53, 54, 55, 56, 57, 58, 59, 60, 61, 62, 63, 64] (.ops [⟨(some 65), (.bin .add (.t 46) (.k (.c (.v (.int .i64 1))))), none⟩, ⟨(some 46), (.mv (.t 65)), none⟩])))))))))) (.kill [4, 10, 44, 45, 46, 47, 48, 49, 50, 51, 52, 53, 54, 55, 56, 57, 58, 59, 60, 61, 62, 63, 64, 65] (.seq (.ops [⟨(some 67), (.ld true 5 (.t 2)), none⟩, ⟨(some 68), (.mv (.t 1)), none⟩, ⟨(some 69), (.call 33 [(.t 67), (.t 68)]), none⟩, ⟨(some 66), (.mv (.t 69)), none⟩, ⟨(some 70), (.ext 0 (.t 66)), none⟩, ⟨(some 71), (.ext 1 (.t 66)), none⟩, ⟨(some 11), (.new 29 [(.v (.slice none 0 0)), (.v (.slice none 0 0)), (.v (.slice none 0 0)), (.v (.slice none 0 0)), (.v (.slice none 0 0))]), none⟩, ⟨none, (.st 5 (.t 11) (.t 70)), none⟩, ⟨(some 12), (.mv (.t 71)), none⟩]) (.kill [1, 2, 66, 67, 68, 69, 70, 71] (.seq (.ops [⟨(some 72), (.mv (.t 8)), none⟩, ⟨(some 73), (.bin .eql (.t 72) (.k (.c (.v (.int .i64 0))))), none⟩, ⟨(some 74), (.mv (.t 73)), none⟩, ⟨(some 75), (.mv (.t 7)), (some (74, true))⟩, ⟨(some 76), (.mv (.t 12)), (some (74, true))⟩, ⟨(some 77), (.bin .eql (.t 75) (.t 76)), (some (74, true))⟩, ⟨(some 78), (.pick (.t 74) (.t 77) (.k (.c (.v (.bool false))))), none⟩, ⟨(some 79), (.mv (.t 78)), none⟩, ⟨(some 80), (.ld true 5 (.t 6)), (some (79, true))⟩, ⟨(some 81), (.ld true 5 (.t 11)), (some (79, true))⟩, ⟨(some 82), (.call 21 [(.t 80), (.t 81)]), (some (79, true))⟩, ⟨(some 83), (.pick (.t 79) (.t 82) (.k (.c (.v (.bool false))))), none⟩, ⟨(some 4), (.mv (.t 83)), none⟩]) (.kill [6, 7, 8, 11, 12, 72, 73, 74, 75, 76, 77, 78, 79, 80, 81, 82, 83] .ret))))))))))))))))
def rs13 : List RS := [(.t 4)]
def nt13 : Nat := 84
def ir33 : IR := (.seq (.ops [⟨(some 2), (.box 29 (.t 0)), none⟩, ⟨(some 4), (.new 29 [(.v (.slice none 0 0)), (.v (.slice none 0 0)), (.v (.slice none 0 0)), (.v (.slice none 0 0)), (.v (.slice none 0 0))]), none⟩, ⟨(some 5), (.mv (.k (.c (.v (.int .i64 0))))), none⟩]) (.kill [0, 3, 5, 6, 7, 8, 9, 10, 11] (.seq (.ops [⟨(some 6), (.ld true 5 (.t 2)), none⟩, ⟨(some 7), (.mv (.t 1)), none⟩, ⟨(some 8), (.call 49 [(.t 6), (.t 7)]), none⟩, ⟨(some 9), (.ext 0 (.t 8)), none⟩, ⟨(some 10), (.ext 1 (.t 8)), none⟩, ⟨none, (.st 5 (.t 4) (.t 9)), none⟩, ⟨(some 5), (.mv (.t 10)), none⟩]) (.kill [1, 2, 6, 7, 8, 9, 10] .ret))))
def rs33 : List RS := [(.cell 4 true 5), (.t 5)]
def nt33 : Nat := 11
set_option maxRecDepth 100000 in
set_option maxHeartbeats 400000 in
theorem plays_walk (w : World) (v v' : Value) (m : MC) (xs : List Cl) (N : Nat) (hc : Cont w v m) (hu : m.upto N) (hN : N ≤ 100000000) (h' : Arr w Cl.enc 9 v' xs) (hx : xs.length ≤ N) : Calls Try.prog 13 #[v, v'] w (RetV w (.bool true)) := by
  have hok : MC.okR m := hu.okR (by omega)
  refine enterCL (A := []) (c := ir13) (rs := rs13) (nt := nt13) hc cl0 cl_ok h' [.agg (mcS 0), .c (.xv (5, 0, 0))] _ Try.func13 rfl (by kernel_rfl) (by kernel_rfl) rfl (fun E' h0 h1 => by rw [List.map_cons, h0]; simp [SV.den, SC.den, h1]) (of_decide_eq_true rfl) ?_
  simp (config := { maxSteps := 2000000 }) only [ir13, nt13, rs13, go_sem, ↓condS, ↓exitS, ↓gateS, ↓runOp, ↓gateD, ↓runD, ↓imp_ft, ↓imp_tf, ↓imp_tt, ↓imp_ff, ↓imp_fn, ↓imp_tn, ↓imp_fy, ↓imp_ty, ↓reduceIte, Nat.reduceLT, Nat.reduceLeDiff, Nat.reduceAdd, Nat.reduceSub, Nat.reduceMul, Nat.reduceEqDiff, reduceCtorEq, Int.reduceToNat, Int.reduceEq, Int.reduceBEq, Int.reduceBNe, Int.reduceLT, Int.reduceLE, Int.reduceNeg, Int.reduceAdd, Int.reduceSub, Int.reduceMul, Int.reduceGE, Int.reduceGT, Cl.enc, iv, endO, mcS, mcA, List.cons_append, List.nil_append]
  have hok1 := hok.1
  have hok0 : m.ok 0 := hok1.le (by decide)
  refine callB 5 cT (mcR m) (fun E a w' hs => copy_Z (cont_at hs 0 rfl rfl rfl rfl rfl) hok0) ?_
  simp (config := { maxSteps := 2000000 }) only [go_sem, ↓condS, ↓exitS, ↓gateS, ↓runOp, ↓gateD, ↓runD, ↓imp_ft, ↓imp_tf, ↓imp_tt, ↓imp_ff, ↓imp_fn, ↓imp_tn, ↓imp_fy, ↓imp_ty, ↓reduceIte, Nat.reduceLT, Nat.reduceLeDiff, Nat.reduceAdd, Nat.reduceSub, Nat.reduceMul, Nat.reduceEqDiff, reduceCtorEq, Int.reduceToNat, Int.reduceEq, Int.reduceBEq, Int.reduceBNe, Int.reduceLT, Int.reduceLE, Int.reduceNeg, Int.reduceAdd, Int.reduceSub, Int.reduceMul, Int.reduceGE, Int.reduceGT, Cl.enc, iv, endO, cT, mcS, mcR, mcA]
  have awk : ∀ {K : St → Prop} {S : St} {dst : Option Nat}, K (S.call dst (.c (.v (.bool true))) 0 [] []) → CallVC (mkC Try.prog [] w [RS.t 4] (RetV w (Value.bool true))) 26 [] dst S K :=
    fun h => callV (.c (.v (.bool true))) (.bool true) (fun E => rfl) (fun E a w' hs => awake_Z w') h
  have arg : ∀ {C : Ctx} {E : Env} {S : St} {a : Act} {w' : World}, Sat C.B C.W C.w0 E S a w' → look S.arrs 5 = some (.one (arrOf Cl.enc 9 xs cl0)) → Arr w' Cl.enc 9 ((SV.c (.xv (5, 0, 0))).den E) xs := fun hs h => arr_at (d := cl0) (l := 0) hs 5 (by simp [atN, h, Fm.get])
  have nope : ∀ (n : Int), plE m xs = n → n ≠ 0 → ∀ {K : St → Prop} {S : St} {dst : Option Nat}, look S.arrs 0 = some (.one (arrOf eI 1 m.cell 0)) → look S.arrs 1 = some (.one (arrOf eI 1 m.stack 0)) → look S.arrs 2 = some (.one (arrOf eI 1 m.queue 0)) → look S.arrs 3 = some (.one (arrOf eI 1 m.set 0)) → look S.arrs 4 = some (.one (arrOf eP 2 m.table (0, 0))) → look S.arrs 5 = some (.one (arrOf Cl.enc 9 xs cl0)) →
      K (S.call dst (.tup [(true, [.v (.slice none 0 0), .v (.slice none 0 0), .v (.slice none 0 0), .v (.slice none 0 0), .v (.slice none 0 0)]), (false, [.v (.int .i64 0)]), (false, [.v (.int .i64 n)])]) 0 [] []) →
      CallVC (mkC Try.prog [] w [RS.t 4] (RetV w (Value.bool true))) 32 [.agg (mcS 0), .c (.xv (5, 0, 0))] dst S K := fun n hr hn {K} {S} {dst} h0 h1 h2 h3 h4 h5 h =>
    callV _ _ (fun E => rfl) (fun E a w' hs => by
      have := playNo_Z (w := w') (xs := xs) (cont_at hs 0 h0 h1 h2 h3 h4) (arg hs h5) (by rw [hr]; exact hn)
      rw [hr] at this
      exact this) h
  have same0 : ∀ (w' : World), Calls Try.prog 21 #[.agg #[.slice none 0 0, .slice none 0 0, .slice none 0 0, .slice none 0 0, .slice none 0 0], .agg #[.slice none 0 0, .slice none 0 0, .slice none 0 0, .slice none 0 0, .slice none 0 0]] w' (RetV w' (.bool true)) := fun w' => by
    have := rsame_Z (cont_0 w') (cont_0 w')
    rw [decide_eq_true rfl] at this
    exact this
  by_cases hm : mayB m = true
  · by_cases ho : ∃ k, k < xs.length ∧ objOf (xs.getD k cl0).op = 0
    · refine nope 110 (by unfold plE; rw [if_neg (by simp [hm]), if_pos ho]) (by decide) rfl rfl rfl rfl rfl rfl ?_
      simp (config := { maxSteps := 2000000 }) only [go_sem, ↓condS, ↓exitS, ↓gateS, ↓runOp, ↓gateD, ↓runD, ↓imp_ft, ↓imp_tf, ↓imp_tt, ↓imp_ff, ↓imp_fn, ↓imp_tn, ↓imp_fy, ↓imp_ty, ↓reduceIte, Nat.reduceLT, Nat.reduceLeDiff, Nat.reduceAdd, Nat.reduceSub, Nat.reduceMul, Nat.reduceEqDiff, reduceCtorEq, Int.reduceToNat, Int.reduceEq, Int.reduceBEq, Int.reduceBNe, Int.reduceLT, Int.reduceLE, Int.reduceNeg, Int.reduceAdd, Int.reduceSub, Int.reduceMul, Int.reduceGE, Int.reduceGT, Cl.enc, iv, endO]
      refine awk ?_
      simp (config := { maxSteps := 2000000 }) only [go_sem, ↓condS, ↓exitS, ↓gateS, ↓runOp, ↓gateD, ↓runD, ↓imp_ft, ↓imp_tf, ↓imp_tt, ↓imp_ff, ↓imp_fn, ↓imp_tn, ↓imp_fy, ↓imp_ty, ↓reduceIte, Nat.reduceLT, Nat.reduceLeDiff, Nat.reduceAdd, Nat.reduceSub, Nat.reduceMul, Nat.reduceEqDiff, reduceCtorEq, Int.reduceToNat, Int.reduceEq, Int.reduceBEq, Int.reduceBNe, Int.reduceLT, Int.reduceLE, Int.reduceNeg, Int.reduceAdd, Int.reduceSub, Int.reduceMul, Int.reduceGE, Int.reduceGT, Cl.enc, iv, endO]
      refine callV (.c (.v (.bool true))) (.bool true) (fun E => rfl) (fun E a w' hs => ?_) ?_
      · have := rsame_Z (w := w') (cont_at hs 0 rfl rfl rfl rfl rfl) (cont_at hs 7 rfl rfl rfl rfl rfl) (m := m) (m' := m)
        rw [decide_eq_true rfl] at this
        exact this
      simp (config := { maxSteps := 2000000 }) only [go_sem, ↓condS, ↓exitS, ↓gateS, ↓runOp, ↓gateD, ↓runD, ↓imp_ft, ↓imp_tf, ↓imp_tt, ↓imp_ff, ↓imp_fn, ↓imp_tn, ↓imp_fy, ↓imp_ty, ↓reduceIte, Nat.reduceLT, Nat.reduceLeDiff, Nat.reduceAdd, Nat.reduceSub, Nat.reduceMul, Nat.reduceEqDiff, reduceCtorEq, Int.reduceToNat, Int.reduceEq, Int.reduceBEq, Int.reduceBNe, Int.reduceLT, Int.reduceLE, Int.reduceNeg, Int.reduceAdd, Int.reduceSub, Int.reduceMul, Int.reduceGE, Int.reduceGT, Cl.enc, iv, endO]
      refine callV (.c (.v (.bool true))) (.bool true) (fun E => rfl) (fun E a w' hs => ?_) ?_
      · have := rmay_Z (w := w') (cont_at hs 0 rfl rfl rfl rfl rfl) (m := m)
        rw [hm] at this
        exact this
      simp (config := { maxSteps := 2000000 }) only [go_sem, ↓condS, ↓exitS, ↓gateS, ↓runOp, ↓gateD, ↓runD, ↓imp_ft, ↓imp_tf, ↓imp_tt, ↓imp_ff, ↓imp_fn, ↓imp_tn, ↓imp_fy, ↓imp_ty, ↓reduceIte, Nat.reduceLT, Nat.reduceLeDiff, Nat.reduceAdd, Nat.reduceSub, Nat.reduceMul, Nat.reduceEqDiff, reduceCtorEq, Int.reduceToNat, Int.reduceEq, Int.reduceBEq, Int.reduceBNe, Int.reduceLT, Int.reduceLE, Int.reduceNeg, Int.reduceAdd, Int.reduceSub, Int.reduceMul, Int.reduceGE, Int.reduceGT, Cl.enc, iv, endO]
      refine loopI (ι := { k : Nat // k ≤ xs.length ∧ ∀ j, j < k → objOf (xs.getD j cl0).op ≠ 0 }) (fun k => ⟨84, [(1, .c (.xv (5, 0, 0))), (2, .c (.ptr (6, 0, 0) 0)), (6, .c (.ptr (13, 0, 0) 0)), (7, .c (.v (.int .i64 0))), (8, .c (.v (.int .i64 110))), (44, .c (.xv (5, 0, 0))), (45, .c (.v (.int .i64 xs.length))), (46, .c (.v (.int .i64 (k.1 : Nat))))],
        [(6, .one (.bk (mcS 0) 29)), (13, .one (.bk [.v (.slice none 0 0), .v (.slice none 0 0), .v (.slice none 0 0), .v (.slice none 0 0), .v (.slice none 0 0)] 29))], mcA 0 m ++ [(5, .one (arrOf Cl.enc 9 xs cl0))], [], 20⟩)
        (fun k => xs.length - k.1) ⟨0, by omega, fun j hj => absurd hj (Nat.not_lt_zero j)⟩ ?_ ?_
      · simp only [mcS, mcA, List.cons_append, List.nil_append]
        exact (le_ren (id) rfl rfl (by simp [TmpsLe, look, SV.ren, SC.ren, SC.renL, ren1L, ren1, idσ, SV.okN, SC.okN, SC.okL, ok1L]) (by simp [OwnLe, BlkLeO, BlkLe, atN, look, Fm.get, idσ, SC.renL, SC.ren, SC.okL, SC.okN, renL_v, okL_v]) (by simp [ArrsLe, ArrLeO, atN, look, Fm.get, idσ, arrLe_of, arrLe_0]) rfl)
      rintro ⟨k, hk, hall⟩
      simp (config := { maxSteps := 2000000 }) only [go_sem, ↓condS, ↓exitS, ↓gateS, ↓runOp, ↓gateD, ↓runD, ↓imp_ft, ↓imp_tf, ↓imp_tt, ↓imp_ff, ↓imp_fn, ↓imp_tn, ↓imp_fy, ↓imp_ty, ↓reduceIte, Nat.reduceLT, Nat.reduceLeDiff, Nat.reduceAdd, Nat.reduceSub, Nat.reduceMul, Nat.reduceEqDiff, reduceCtorEq, Int.reduceToNat, Int.reduceEq, Int.reduceBEq, Int.reduceBNe, Int.reduceLT, Int.reduceLE, Int.reduceNeg, Int.reduceAdd, Int.reduceSub, Int.reduceMul, Int.reduceGE, Int.reduceGT, Cl.enc, iv, endO, mcS, mcA, List.cons_append, List.nil_append]
      refine both (fun hlt => ?_) (fun hge => ?_)
      · rw [decide_eq_true_eq] at hlt
        have hlt : k < xs.length := by omega
        repeat (with_reducible refine And.intro (by first | (simp only [maxLen]; omega) | omega | decide | (simp; done) | (simp [maxLen]; omega)) ?_)
        refine callV (.c (.v (.int .i64 (objOf (xs.getD k cl0).op)))) _ (fun E => rfl) (fun E a w' hs => robj_Z (xs.getD k cl0).op w') ?_
        simp (config := { maxSteps := 2000000 }) only [forkS, go_sem, ↓condS, ↓exitS, ↓gateS, ↓runOp, ↓gateD, ↓runD, ↓imp_ft, ↓imp_tf, ↓imp_tt, ↓imp_ff, ↓imp_fn, ↓imp_tn, ↓imp_fy, ↓imp_ty, ↓reduceIte, Nat.reduceLT, Nat.reduceLeDiff, Nat.reduceAdd, Nat.reduceSub, Nat.reduceMul, Nat.reduceEqDiff, reduceCtorEq, Int.reduceToNat, Int.reduceEq, Int.reduceBEq, Int.reduceBNe, Int.reduceLT, Int.reduceLE, Int.reduceNeg, Int.reduceAdd, Int.reduceSub, Int.reduceMul, Int.reduceGE, Int.reduceGT, Cl.enc, iv, endO]
        refine both (fun hz => ?_) (fun hz => ?_)
        · refine callV (.c (.v (.bool true))) (.bool true) (fun E => rfl) (fun E a w' hs => same0 w') ?_
          simp (config := { maxSteps := 2000000 }) only [go_sem, ↓condS, ↓exitS, ↓gateS, ↓runOp, ↓gateD, ↓runD, ↓imp_ft, ↓imp_tf, ↓imp_tt, ↓imp_ff, ↓imp_fn, ↓imp_tn, ↓imp_fy, ↓imp_ty, ↓reduceIte, Nat.reduceLT, Nat.reduceLeDiff, Nat.reduceAdd, Nat.reduceSub, Nat.reduceMul, Nat.reduceEqDiff, reduceCtorEq, Int.reduceToNat, Int.reduceEq, Int.reduceBEq, Int.reduceBNe, Int.reduceLT, Int.reduceLE, Int.reduceNeg, Int.reduceAdd, Int.reduceSub, Int.reduceMul, Int.reduceGE, Int.reduceGT, Cl.enc, iv, endO]
          exact retV fun E => by simp [SV.den, SC.den]
        have hz : objOf (xs.getD k cl0).op ≠ 0 := by simpa using hz
        rw [wr_succ (by omega)]
        refine backI ⟨k + 1, hlt, fun j hj => by
          by_cases e : j = k
          · subst e; exact hz
          · exact hall j (by omega)⟩ (by simp only; omega) ?_
        simp only [mcS, mcA, List.cons_append, List.nil_append]
        exact (le_ren (id) rfl rfl (by simp [TmpsLe, look, SV.ren, SC.ren, SC.renL, ren1L, ren1, idσ, SV.okN, SC.okN, SC.okL, ok1L]) (by simp [OwnLe, BlkLeO, BlkLe, atN, look, Fm.get, idσ, SC.renL, SC.ren, SC.okL, SC.okN, renL_v, okL_v]) (by simp [ArrsLe, ArrLeO, atN, look, Fm.get, idσ, arrLe_of, arrLe_0]) rfl)
      · rw [decide_eq_false_iff_not] at hge
        obtain ⟨j, h1, h2⟩ := ho
        exact absurd h2 (hall j (by omega))
    · have ho : ∀ k, k < xs.length → objOf (xs.getD k cl0).op ≠ 0 := fun k h1 h2 => ho ⟨k, h1, h2⟩
      refine callB 5 (plT (playM m 0 xs)) (mcR (playM m 0 xs).1) (fun E a w' hs => play_Z (cont_at hs 0 rfl rfl rfl rfl rfl) hu hN hm (arg hs rfl) hx ho) ?_
      have rpl : ∀ {E : Env} {S : St} {a : Act} {w' : World} {C : Ctx}, Sat C.B C.W C.w0 E S a w' → look S.arrs 0 = some (.one (arrOf eI 1 m.cell 0)) → look S.arrs 1 = some (.one (arrOf eI 1 m.stack 0)) → look S.arrs 2 = some (.one (arrOf eI 1 m.queue 0)) → look S.arrs 3 = some (.one (arrOf eI 1 m.set 0)) → look S.arrs 4 = some (.one (arrOf eP 2 m.table (0, 0))) → look S.arrs 5 = some (.one (arrOf Cl.enc 9 xs cl0)) →
          Calls Try.prog 49 #[.agg ((mcS 0).map (SC.den E)).toArray, (SV.c (.xv (5, 0, 0))).den E] w' (RetB w' (fun _ => True) 5 (rplT (playM m 0 xs)) (mcR (playM m 0 xs).1)) := fun hs h0 h1 h2 h3 h4 h5 => rplay_Z (cont_at hs 0 h0 h1 h2 h3 h4) hu hN hm (arg hs h5) hx ho
      generalize playM m 0 xs = p at rpl ⊢
      obtain ⟨m', b⟩ := p
      simp (config := { maxSteps := 2000000 }) only [go_sem, ↓condS, ↓exitS, ↓gateS, ↓runOp, ↓gateD, ↓runD, ↓imp_ft, ↓imp_tf, ↓imp_tt, ↓imp_ff, ↓imp_fn, ↓imp_tn, ↓imp_fy, ↓imp_ty, ↓reduceIte, Nat.reduceLT, Nat.reduceLeDiff, Nat.reduceAdd, Nat.reduceSub, Nat.reduceMul, Nat.reduceEqDiff, reduceCtorEq, Int.reduceToNat, Int.reduceEq, Int.reduceBEq, Int.reduceBNe, Int.reduceLT, Int.reduceLE, Int.reduceNeg, Int.reduceAdd, Int.reduceSub, Int.reduceMul, Int.reduceGE, Int.reduceGT, Cl.enc, iv, endO, plT, mcS, mcR, mcA]
      refine awk ?_
      simp (config := { maxSteps := 2000000 }) only [go_sem, ↓condS, ↓exitS, ↓gateS, ↓runOp, ↓gateD, ↓runD, ↓imp_ft, ↓imp_tf, ↓imp_tt, ↓imp_ff, ↓imp_fn, ↓imp_tn, ↓imp_fy, ↓imp_ty, ↓reduceIte, Nat.reduceLT, Nat.reduceLeDiff, Nat.reduceAdd, Nat.reduceSub, Nat.reduceMul, Nat.reduceEqDiff, reduceCtorEq, Int.reduceToNat, Int.reduceEq, Int.reduceBEq, Int.reduceBNe, Int.reduceLT, Int.reduceLE, Int.reduceNeg, Int.reduceAdd, Int.reduceSub, Int.reduceMul, Int.reduceGE, Int.reduceGT, Cl.enc, iv, endO]
      refine callV (.c (.v (.bool true))) (.bool true) (fun E => rfl) (fun E a w' hs => ?_) ?_
      · have := rsame_Z (w := w') (cont_at hs 0 rfl rfl rfl rfl rfl) (cont_at hs 7 rfl rfl rfl rfl rfl) (m := m) (m' := m)
        rw [decide_eq_true rfl] at this
        exact this
      simp (config := { maxSteps := 2000000 }) only [go_sem, ↓condS, ↓exitS, ↓gateS, ↓runOp, ↓gateD, ↓runD, ↓imp_ft, ↓imp_tf, ↓imp_tt, ↓imp_ff, ↓imp_fn, ↓imp_tn, ↓imp_fy, ↓imp_ty, ↓reduceIte, Nat.reduceLT, Nat.reduceLeDiff, Nat.reduceAdd, Nat.reduceSub, Nat.reduceMul, Nat.reduceEqDiff, reduceCtorEq, Int.reduceToNat, Int.reduceEq, Int.reduceBEq, Int.reduceBNe, Int.reduceLT, Int.reduceLE, Int.reduceNeg, Int.reduceAdd, Int.reduceSub, Int.reduceMul, Int.reduceGE, Int.reduceGT, Cl.enc, iv, endO]
      refine callV (.c (.v (.bool true))) (.bool true) (fun E => rfl) (fun E a w' hs => ?_) ?_
      · have := rmay_Z (w := w') (cont_at hs 0 rfl rfl rfl rfl rfl) (m := m)
        rw [hm] at this
        exact this
      simp (config := { maxSteps := 2000000 }) only [go_sem, ↓condS, ↓exitS, ↓gateS, ↓runOp, ↓gateD, ↓runD, ↓imp_ft, ↓imp_tf, ↓imp_tt, ↓imp_ff, ↓imp_fn, ↓imp_tn, ↓imp_fy, ↓imp_ty, ↓reduceIte, Nat.reduceLT, Nat.reduceLeDiff, Nat.reduceAdd, Nat.reduceSub, Nat.reduceMul, Nat.reduceEqDiff, reduceCtorEq, Int.reduceToNat, Int.reduceEq, Int.reduceBEq, Int.reduceBNe, Int.reduceLT, Int.reduceLE, Int.reduceNeg, Int.reduceAdd, Int.reduceSub, Int.reduceMul, Int.reduceGE, Int.reduceGT, Cl.enc, iv, endO]
      refine loopI (ι := { k : Nat // k ≤ xs.length }) (fun k => ⟨84, [(1, .c (.xv (5, 0, 0))), (2, .c (.ptr (6, 0, 0) 0)), (6, .c (.ptr (18, 0, 0) 0)), (7, .c (.v (.int .i64 b))), (8, .c (.v (.int .i64 0))), (44, .c (.xv (5, 0, 0))), (45, .c (.v (.int .i64 xs.length))), (46, .c (.v (.int .i64 (k.1 : Nat))))],
        [(6, .one (.bk (mcS 0) 29)), (18, .one (.bk (mcS 13) 29))], mcA 0 m ++ (5, .one (arrOf Cl.enc 9 xs cl0)) :: mcA 13 m', [], 20⟩)
        (fun k => xs.length - k.1) ⟨0, by omega⟩ ?_ ?_
      · simp only [mcS, mcA, List.cons_append, List.nil_append]
        exact (le_ren (id) rfl rfl (by simp [TmpsLe, look, SV.ren, SC.ren, SC.renL, ren1L, ren1, idσ, SV.okN, SC.okN, SC.okL, ok1L]) (by simp [OwnLe, BlkLeO, BlkLe, atN, look, Fm.get, idσ, SC.renL, SC.ren, SC.okL, SC.okN, renL_v, okL_v]) (by simp [ArrsLe, ArrLeO, atN, look, Fm.get, idσ, arrLe_of, arrLe_0]) rfl)
      rintro ⟨k, hk⟩
      simp (config := { maxSteps := 2000000 }) only [go_sem, ↓condS, ↓exitS, ↓gateS, ↓runOp, ↓gateD, ↓runD, ↓imp_ft, ↓imp_tf, ↓imp_tt, ↓imp_ff, ↓imp_fn, ↓imp_tn, ↓imp_fy, ↓imp_ty, ↓reduceIte, Nat.reduceLT, Nat.reduceLeDiff, Nat.reduceAdd, Nat.reduceSub, Nat.reduceMul, Nat.reduceEqDiff, reduceCtorEq, Int.reduceToNat, Int.reduceEq, Int.reduceBEq, Int.reduceBNe, Int.reduceLT, Int.reduceLE, Int.reduceNeg, Int.reduceAdd, Int.reduceSub, Int.reduceMul, Int.reduceGE, Int.reduceGT, Cl.enc, iv, endO, mcS, mcA, List.cons_append, List.nil_append]
      refine both (fun hlt => ?_) (fun hge => ?_)
      · rw [decide_eq_true_eq] at hlt
        have hlt : k < xs.length := by omega
        repeat (with_reducible refine And.intro (by first | (simp only [maxLen]; omega) | omega | decide | (simp; done) | (simp [maxLen]; omega)) ?_)
        refine callV (.c (.v (.int .i64 (objOf (xs.getD k cl0).op)))) _ (fun E => rfl) (fun E a w' hs => robj_Z (xs.getD k cl0).op w') ?_
        simp (config := { maxSteps := 2000000 }) only [go_sem, ↓condS, ↓exitS, ↓gateS, ↓runOp, ↓gateD, ↓runD, ↓imp_ft, ↓imp_tf, ↓imp_tt, ↓imp_ff, ↓imp_fn, ↓imp_tn, ↓imp_fy, ↓imp_ty, ↓reduceIte, Nat.reduceLT, Nat.reduceLeDiff, Nat.reduceAdd, Nat.reduceSub, Nat.reduceMul, Nat.reduceEqDiff, reduceCtorEq, Int.reduceToNat, Int.reduceEq, Int.reduceBEq, Int.reduceBNe, Int.reduceLT, Int.reduceLE, Int.reduceNeg, Int.reduceAdd, Int.reduceSub, Int.reduceMul, Int.reduceGE, Int.reduceGT, Cl.enc, iv, endO]
        refine both (fun hz => ?_) (fun hz => ?_)
        · simp at hz; exact absurd hz (ho k hlt)
        rw [wr_succ (by omega)]
        refine backI ⟨k + 1, hlt⟩ (by simp only; omega) ?_
        simp only [mcS, mcA, List.cons_append, List.nil_append]
        exact (le_ren (id) rfl rfl (by simp [TmpsLe, look, SV.ren, SC.ren, SC.renL, ren1L, ren1, idσ, SV.okN, SC.okN, SC.okL, ok1L]) (by simp [OwnLe, BlkLeO, BlkLe, atN, look, Fm.get, idσ, SC.renL, SC.ren, SC.okL, SC.okN, renL_v, okL_v]) (by simp [ArrsLe, ArrLeO, atN, look, Fm.get, idσ, arrLe_of, arrLe_0]) rfl)
      · refine call_inline (c := ir33) (rs := rs33) (nt := nt33) 1000 (mkTab_ok _ _) Try.func33 rfl (by kernel_rfl) (by kernel_rfl) rfl (by simp [okVs, SV.okN, SC.okL, SC.okN]) (of_decide_eq_true rfl) (fun E0 a0 ht0 => ?_)
        simp (config := { maxSteps := 2000000 }) only [ir33, nt33, rs33, go_sem, ↓condS, ↓exitS, ↓gateS, ↓runOp, ↓gateD, ↓runD, ↓imp_ft, ↓imp_tf, ↓imp_tt, ↓imp_ff, ↓imp_fn, ↓imp_tn, ↓imp_fy, ↓imp_ty, ↓reduceIte, Nat.reduceLT, Nat.reduceLeDiff, Nat.reduceAdd, Nat.reduceSub, Nat.reduceMul, Nat.reduceEqDiff, reduceCtorEq, Int.reduceToNat, Int.reduceEq, Int.reduceBEq, Int.reduceBNe, Int.reduceLT, Int.reduceLE, Int.reduceNeg, Int.reduceAdd, Int.reduceSub, Int.reduceMul, Int.reduceGE, Int.reduceGT, Cl.enc, iv, endO]
        refine callB 5 (rplT (m', b)) (mcR m') (fun E a w' hs => rpl hs rfl rfl rfl rfl rfl rfl) ?_
        simp (config := { maxSteps := 2000000 }) only [go_sem, ↓condS, ↓exitS, ↓gateS, ↓runOp, ↓gateD, ↓runD, ↓imp_ft, ↓imp_tf, ↓imp_tt, ↓imp_ff, ↓imp_fn, ↓imp_tn, ↓imp_fy, ↓imp_ty, ↓reduceIte, Nat.reduceLT, Nat.reduceLeDiff, Nat.reduceAdd, Nat.reduceSub, Nat.reduceMul, Nat.reduceEqDiff, reduceCtorEq, Int.reduceToNat, Int.reduceEq, Int.reduceBEq, Int.reduceBNe, Int.reduceLT, Int.reduceLE, Int.reduceNeg, Int.reduceAdd, Int.reduceSub, Int.reduceMul, Int.reduceGE, Int.reduceGT, Cl.enc, iv, endO, rplT, mcS, mcR, mcA]
        refine retI ht0 _ rfl (of_decide_eq_true rfl) (by simp [SV.okN, SC.okL, SC.okN, ok1L]) ?_
        simp (config := { maxSteps := 2000000 }) only [go_sem, ↓condS, ↓exitS, ↓gateS, ↓runOp, ↓gateD, ↓runD, ↓imp_ft, ↓imp_tf, ↓imp_tt, ↓imp_ff, ↓imp_fn, ↓imp_tn, ↓imp_fy, ↓imp_ty, ↓reduceIte, Nat.reduceLT, Nat.reduceLeDiff, Nat.reduceAdd, Nat.reduceSub, Nat.reduceMul, Nat.reduceEqDiff, reduceCtorEq, Int.reduceToNat, Int.reduceEq, Int.reduceBEq, Int.reduceBNe, Int.reduceLT, Int.reduceLE, Int.reduceNeg, Int.reduceAdd, Int.reduceSub, Int.reduceMul, Int.reduceGE, Int.reduceGT, Cl.enc, iv, endO]
        refine guardW (.c (.v (.bool true))) (.bool true) (fun E => rfl) (fun E a w' hs => ?_) ?_
        · have := rsame_Z (w := w') (cont_at hs 13 rfl rfl rfl rfl rfl) (cont_at hs 22 rfl rfl rfl rfl rfl) (m := m') (m' := m')
          rw [decide_eq_true rfl] at this
          exact this
        simp (config := { maxSteps := 2000000 }) only [go_sem, ↓condS, ↓exitS, ↓gateS, ↓runOp, ↓gateD, ↓runD, ↓imp_ft, ↓imp_tf, ↓imp_tt, ↓imp_ff, ↓imp_fn, ↓imp_tn, ↓imp_fy, ↓imp_ty, ↓reduceIte, Nat.reduceLT, Nat.reduceLeDiff, Nat.reduceAdd, Nat.reduceSub, Nat.reduceMul, Nat.reduceEqDiff, reduceCtorEq, Int.reduceToNat, Int.reduceEq, Int.reduceBEq, Int.reduceBNe, Int.reduceLT, Int.reduceLE, Int.reduceNeg, Int.reduceAdd, Int.reduceSub, Int.reduceMul, Int.reduceGE, Int.reduceGT, Cl.enc, iv, endO]
        exact retV fun E => by simp [SV.den, SC.den]
  · have hm' : mayB m = false := by simpa using hm
    refine nope 111 (by unfold plE; rw [if_pos hm']) (by decide) rfl rfl rfl rfl rfl rfl ?_
    simp (config := { maxSteps := 2000000 }) only [go_sem, ↓condS, ↓exitS, ↓gateS, ↓runOp, ↓gateD, ↓runD, ↓imp_ft, ↓imp_tf, ↓imp_tt, ↓imp_ff, ↓imp_fn, ↓imp_tn, ↓imp_fy, ↓imp_ty, ↓reduceIte, Nat.reduceLT, Nat.reduceLeDiff, Nat.reduceAdd, Nat.reduceSub, Nat.reduceMul, Nat.reduceEqDiff, reduceCtorEq, Int.reduceToNat, Int.reduceEq, Int.reduceBEq, Int.reduceBNe, Int.reduceLT, Int.reduceLE, Int.reduceNeg, Int.reduceAdd, Int.reduceSub, Int.reduceMul, Int.reduceGE, Int.reduceGT, Cl.enc, iv, endO]
    refine awk ?_
    simp (config := { maxSteps := 2000000 }) only [go_sem, ↓condS, ↓exitS, ↓gateS, ↓runOp, ↓gateD, ↓runD, ↓imp_ft, ↓imp_tf, ↓imp_tt, ↓imp_ff, ↓imp_fn, ↓imp_tn, ↓imp_fy, ↓imp_ty, ↓reduceIte, Nat.reduceLT, Nat.reduceLeDiff, Nat.reduceAdd, Nat.reduceSub, Nat.reduceMul, Nat.reduceEqDiff, reduceCtorEq, Int.reduceToNat, Int.reduceEq, Int.reduceBEq, Int.reduceBNe, Int.reduceLT, Int.reduceLE, Int.reduceNeg, Int.reduceAdd, Int.reduceSub, Int.reduceMul, Int.reduceGE, Int.reduceGT, Cl.enc, iv, endO]
    refine callV (.c (.v (.bool true))) (.bool true) (fun E => rfl) (fun E a w' hs => ?_) ?_
    · have := rsame_Z (w := w') (cont_at hs 0 rfl rfl rfl rfl rfl) (cont_at hs 7 rfl rfl rfl rfl rfl) (m := m) (m' := m)
      rw [decide_eq_true rfl] at this
      exact this
    simp (config := { maxSteps := 2000000 }) only [go_sem, ↓condS, ↓exitS, ↓gateS, ↓runOp, ↓gateD, ↓runD, ↓imp_ft, ↓imp_tf, ↓imp_tt, ↓imp_ff, ↓imp_fn, ↓imp_tn, ↓imp_fy, ↓imp_ty, ↓reduceIte, Nat.reduceLT, Nat.reduceLeDiff, Nat.reduceAdd, Nat.reduceSub, Nat.reduceMul, Nat.reduceEqDiff, reduceCtorEq, Int.reduceToNat, Int.reduceEq, Int.reduceBEq, Int.reduceBNe, Int.reduceLT, Int.reduceLE, Int.reduceNeg, Int.reduceAdd, Int.reduceSub, Int.reduceMul, Int.reduceGE, Int.reduceGT, Cl.enc, iv, endO]
    refine callV (.c (.v (.bool false))) (.bool false) (fun E => rfl) (fun E a w' hs => ?_) ?_
    · have := rmay_Z (w := w') (cont_at hs 0 rfl rfl rfl rfl rfl) (m := m)
      rw [hm'] at this
      exact this
    simp (config := { maxSteps := 2000000 }) only [forkS, go_sem, ↓condS, ↓exitS, ↓gateS, ↓runOp, ↓gateD, ↓runD, ↓imp_ft, ↓imp_tf, ↓imp_tt, ↓imp_ff, ↓imp_fn, ↓imp_tn, ↓imp_fy, ↓imp_ty, ↓reduceIte, Nat.reduceLT, Nat.reduceLeDiff, Nat.reduceAdd, Nat.reduceSub, Nat.reduceMul, Nat.reduceEqDiff, reduceCtorEq, Int.reduceToNat, Int.reduceEq, Int.reduceBEq, Int.reduceBNe, Int.reduceLT, Int.reduceLE, Int.reduceNeg, Int.reduceAdd, Int.reduceSub, Int.reduceMul, Int.reduceGE, Int.reduceGT, Cl.enc, iv, endO]
    refine callV (.c (.v (.bool true))) (.bool true) (fun E => rfl) (fun E a w' hs => same0 w') ?_
    simp (config := { maxSteps := 2000000 }) only [go_sem, ↓condS, ↓exitS, ↓gateS, ↓runOp, ↓gateD, ↓runD, ↓imp_ft, ↓imp_tf, ↓imp_tt, ↓imp_ff, ↓imp_fn, ↓imp_tn, ↓imp_fy, ↓imp_ty, ↓reduceIte, Nat.reduceLT, Nat.reduceLeDiff, Nat.reduceAdd, Nat.reduceSub, Nat.reduceMul, Nat.reduceEqDiff, reduceCtorEq, Int.reduceToNat, Int.reduceEq, Int.reduceBEq, Int.reduceBNe, Int.reduceLT, Int.reduceLE, Int.reduceNeg, Int.reduceAdd, Int.reduceSub, Int.reduceMul, Int.reduceGE, Int.reduceGT, Cl.enc, iv, endO]
    exact retV fun E => by simp [SV.den, SC.den]
end Go.Proofs.Ytgljbdcamagdbaa.Z
