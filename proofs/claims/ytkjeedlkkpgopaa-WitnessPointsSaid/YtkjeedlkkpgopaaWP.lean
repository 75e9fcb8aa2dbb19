
/- The order of the points: the program's, the reference's. No statement of the program. -/
import Derived.Test.YtkjeedlkkpgopaaWPp
import Derived.Test.YtkjeedlkkpgopaaWL
import Derived.Test.YtkjeedlkkpgopaaWPc
import Derived.Test.YtkjeedlkkpgopaaZR
-- bundled -- short draws -- cl
namespace Go.Proofs.Ytkjeedlkkpgopaa.Z
open Go Go.RowKit
set_option linter.unusedSimpArgs false
set_option linter.unusedVariables false
theorem objW (op : Int) (w : World) : Calls Try.prog 59 #[.int .i64 op] w (RetV w (.int .i64 (objOf op))) := (mObject op w).mono fun e w' h => ⟨h.1, h.2 ▸ Below.refl _ _⟩
theorem objR (op : Int) (w : World) : Calls Try.prog 62 #[.int .i64 op] w (RetV w (.int .i64 (objOf op))) := (rObject0 op w).mono fun e w' h => ⟨h.1, h.2 ▸ Below.refl _ _⟩
def ir42 : IR := (.seq (.ops [⟨(some 1), (.box 53 (.t 0)), none⟩, ⟨(some 2), (.mv (.k (.c (.v (.bool false))))), none⟩]) (.kill [0, 2, 3, 4, 5, 6, 7, 8, 9, 10, 11] (.seq (.ops [⟨(some 3), (.fa 1 (.t 1)), none⟩, ⟨(some 4), (.ld false 1 (.t 3)), none⟩, ⟨(some 5), (.call 59 [(.t 4)]), none⟩, ⟨(some 6), (.bin .neq (.t 5) (.k (.c (.v (.int .i64 0))))), none⟩, ⟨(some 2), (.mv (.t 6)), none⟩]) (.kill [1, 3, 4, 5, 6] .ret))))
def rs42 : List RS := [(.t 2)]
def nt42 : Nat := 7
def ir45 : IR := (.seq (.ops [⟨(some 1), (.box 53 (.t 0)), none⟩, ⟨(some 2), (.mv (.k (.c (.v (.bool false))))), none⟩]) (.kill [0, 2, 3, 4, 5, 6, 7, 8, 9, 10, 11] (.seq (.ops [⟨(some 3), (.fa 1 (.t 1)), none⟩, ⟨(some 4), (.ld false 1 (.t 3)), none⟩, ⟨(some 5), (.call 62 [(.t 4)]), none⟩, ⟨(some 6), (.bin .neq (.t 5) (.k (.c (.v (.int .i64 0))))), none⟩, ⟨(some 2), (.mv (.t 6)), none⟩]) (.kill [1, 3, 4, 5, 6] .ret))))
def rs45 : List RS := [(.t 2)]
def nt45 : Nat := 7
set_option maxRecDepth 100000 in
set_option maxHeartbeats 400000 in
theorem counts_calls (w : World) (c : Cl) : Calls Try.prog 42 #[.agg c.enc.toArray] w (RetV w (.bool (objOf c.op != 0))) := by
  refine enter0 (A := []) (c := ir42) (rs := rs42) (nt := nt42) [clA c] _ Try.func42 rfl (by kernel_rfl) (by kernel_rfl) rfl (fun E' => by simp [clA, SV.den, SC.den, Cl.enc, iv]) (of_decide_eq_true rfl) ?_
  simp (config := { maxSteps := 2000000 }) only [ir42, nt42, rs42, go_sem, ↓condS, ↓exitS, ↓gateS, ↓runOp, ↓gateD, ↓runD, ↓imp_ft, ↓imp_tf, ↓imp_tt, ↓imp_ff, ↓imp_fn, ↓imp_tn, ↓imp_fy, ↓imp_ty, ↓reduceIte, Nat.reduceLT, Nat.reduceLeDiff, Nat.reduceAdd, Nat.reduceSub, Nat.reduceMul, Nat.reduceEqDiff, reduceCtorEq, Int.reduceToNat, Int.reduceEq, Int.reduceBEq, Int.reduceBNe, Int.reduceLT, Int.reduceLE, Int.reduceNeg, Int.reduceAdd, Int.reduceSub, Int.reduceMul, Int.reduceGE, Int.reduceGT, Cl.enc, iv, endO, clA]
  refine callV (.c (.v (.int .i64 (objOf c.op)))) _ (fun E => rfl) (fun E a w' hs => objW c.op w') ?_
  simp (config := { maxSteps := 2000000 }) only [go_sem, ↓condS, ↓exitS, ↓gateS, ↓runOp, ↓gateD, ↓runD, ↓imp_ft, ↓imp_tf, ↓imp_tt, ↓imp_ff, ↓imp_fn, ↓imp_tn, ↓imp_fy, ↓imp_ty, ↓reduceIte, Nat.reduceLT, Nat.reduceLeDiff, Nat.reduceAdd, Nat.reduceSub, Nat.reduceMul, Nat.reduceEqDiff, reduceCtorEq, Int.reduceToNat, Int.reduceEq, Int.reduceBEq, Int.reduceBNe, Int.reduceLT, Int.reduceLE, Int.reduceNeg, Int.reduceAdd, Int.reduceSub, Int.reduceMul, Int.reduceGE, Int.reduceGT, Cl.enc, iv, endO]
  exact retV fun E => by simp [SV.den, SC.den]
set_option maxRecDepth 100000 in
set_option maxHeartbeats 400000 in
theorem rcounts_calls (w : World) (c : Cl) : Calls Try.prog 45 #[.agg c.enc.toArray] w (RetV w (.bool (objOf c.op != 0))) := by
  refine enter0 (A := []) (c := ir45) (rs := rs45) (nt := nt45) [clA c] _ Try.func45 rfl (by kernel_rfl) (by kernel_rfl) rfl (fun E' => by simp [clA, SV.den, SC.den, Cl.enc, iv]) (of_decide_eq_true rfl) ?_
  simp (config := { maxSteps := 2000000 }) only [ir45, nt45, rs45, go_sem, ↓condS, ↓exitS, ↓gateS, ↓runOp, ↓gateD, ↓runD, ↓imp_ft, ↓imp_tf, ↓imp_tt, ↓imp_ff, ↓imp_fn, ↓imp_tn, ↓imp_fy, ↓imp_ty, ↓reduceIte, Nat.reduceLT, Nat.reduceLeDiff, Nat.reduceAdd, Nat.reduceSub, Nat.reduceMul, Nat.reduceEqDiff, reduceCtorEq, Int.reduceToNat, Int.reduceEq, Int.reduceBEq, Int.reduceBNe, Int.reduceLT, Int.reduceLE, Int.reduceNeg, Int.reduceAdd, Int.reduceSub, Int.reduceMul, Int.reduceGE, Int.reduceGT, Cl.enc, iv, endO, clA]
  refine callV (.c (.v (.int .i64 (objOf c.op)))) _ (fun E => rfl) (fun E a w' hs => objR c.op w') ?_
  simp (config := { maxSteps := 2000000 }) only [go_sem, ↓condS, ↓exitS, ↓gateS, ↓runOp, ↓gateD, ↓runD, ↓imp_ft, ↓imp_tf, ↓imp_tt, ↓imp_ff, ↓imp_fn, ↓imp_tn, ↓imp_fy, ↓imp_ty, ↓reduceIte, Nat.reduceLT, Nat.reduceLeDiff, Nat.reduceAdd, Nat.reduceSub, Nat.reduceMul, Nat.reduceEqDiff, reduceCtorEq, Int.reduceToNat, Int.reduceEq, Int.reduceBEq, Int.reduceBNe, Int.reduceLT, Int.reduceLE, Int.reduceNeg, Int.reduceAdd, Int.reduceSub, Int.reduceMul, Int.reduceGE, Int.reduceGT, Cl.enc, iv, endO]
  exact retV fun E => by simp [SV.den, SC.den]
theorem pt_rng {xs : List Cl} (hm : mayP xs) (hr : ∀ c ∈ xs, c.point ≤ 9223372036854775807) {k : Nat} (hk : k < xs.length) (hp : ptB (xs.getD k cl0) = true) : 0 ≤ (xs.getD k cl0).point ∧ (xs.getD k cl0).point ≤ 9223372036854775807 := by
  have h1 := hm.1.shaped k hk
  have h2 := hr _ (List.getElem_mem hk)
  have h3 : xs.getD k cl0 = xs[k] := by rw [List.getD_eq_getElem?_getD, List.getElem?_eq_getElem hk]; rfl
  simp only [shapedB, decide_eq_true_eq] at h1
  simp only [ptB, Bool.and_eq_true, Bool.not_eq_true', beq_eq_false_iff_ne] at hp
  have := h1.2.1 hp.2
  rw [h3] at *
  exact ⟨by omega, h2⟩
def ir22 : IR := (.seq (.ops [⟨(some 1), (.box 22 (.t 0)), none⟩, ⟨(some 2), (.mv (.k (.c (.v (.slice none 0 0))))), none⟩, ⟨(some 3), (.mv (.k (.c (.v (.int .i64 0))))), none⟩]) (.kill [0, 2, 3, 4, 5, 6, 7, 8, 9, 10, 11] (.seq (.seq (.ops [⟨(some 7), (.ld false 1 (.t 1)), none⟩, ⟨(some 8), (.call 15 [(.t 7)]), none⟩, ⟨(some 9), (.un .not (.t 8)), none⟩]) (.kill [7, 8] (.cond (.t 9) (.seq (.ops [⟨(some 2), (.mv (.k (.c (.v (.slice none 0 0))))), none⟩, ⟨(some 3), (.mv (.k (.c (.v (.int .i64 120))))), none⟩]) (.kill [1, 9] .ret)) .skip))) (.kill [2, 3, 9] (.seq (.ops [⟨(some 4), (.mv (.k (.c (.v (.slice none 0 0))))), none⟩]) (.seq (.seq (.ops [⟨(some 10), (.ld false 1 (.t 1)), none⟩, ⟨(some 11), (.len (.t 10)), none⟩, ⟨(some 12), (.mv (.k (.c (.v (.int .i64 0))))), none⟩]) (.blk 0 (.loop (.seq (.ops [⟨(some 13), (.bin .lss (.t 12) (.t 11)), none⟩]) (.kill [5, 6, 14, 15, 16, 17, 18, 19, 20, 21, 22, 23, 24, 25, 26, 27, 28] (.seq (.cond (.t 13) .skip (.exit 0)) (.kill [13] (.seq (.blk 1 (.seq (.ops [⟨(some 14), (.mv (.t 12)), none⟩, ⟨(some 15), (.ia 9 (.t 10) (.t 12)), none⟩, ⟨(some 16), (.ld true 9 (.t 15)), none⟩, ⟨(some 6), (.new 53 [(.v (.int .i64 0)), (.v (.int .i64 0)), (.v (.int .i64 0)), (.v (.int .i64 0)), (.v (.int .i64 0)), (.v (.int .i64 0)), (.v (.int .i64 0)), (.v (.int .i64 0)), (.v (.int .i64 0))]), none⟩, ⟨(some 5), (.mv (.t 14)), none⟩, ⟨none, (.st 9 (.t 6) (.t 16)), none⟩]) (.kill [14, 15, 16] (.seq (.ops [⟨(some 17), (.ld true 9 (.t 6)), none⟩, ⟨(some 18), (.call 42 [(.t 17)]), none⟩, ⟨(some 19), (.mv (.t 18)), none⟩, ⟨(some 20), (.fa 6 (.t 6)), (some (19, true))⟩, ⟨(some 21), (.ld false 1 (.t 20)), (some (19, true))⟩, ⟨(some 22), (.bin .neq (.t 21) (.k (.c (.v (.int .i64 (-1)))))), (some (19, true))⟩, ⟨(some 23), (.pick (.t 19) (.t 22) (.k (.c (.v (.bool false))))), none⟩]) (.kill [6, 17, 18, 19, 20, 21, 22] (.cond (.t 23) (.ops [⟨(some 24), (.mv (.t 4)), none⟩, ⟨(some 25), (.mv (.t 5)), none⟩, ⟨(some 26), (.mkSl 3 1 1 [(.v (.int .i64 0))] [(0, (1, (.t 25)))]), none⟩, ⟨(some 27), (.app 3 1 8 [(.v (.int .i64 0))] (.t 24) (.t 26)), none⟩, ⟨(some 4), (.mv (.t 27)), none⟩]) .skip)))))) (.kill [5, 6, 14, 15, 16, 17, 18, 19, 20, 21, 22, 23, 24, 25, 26, 27] (.ops [⟨(some 28), (.bin .add (.t 12) (.k (.c (.v (.int .i64 1))))), none⟩, ⟨(some 12), (.mv (.t 28)), none⟩])))))))))) (.kill [5, 6, 10, 11, 12, 13, 14, 15, 16, 17, 18, 19, 20, 21, 22, 23, 24, 25, 26, 27, 28] (.seq (.ops [⟨(some 29), (.mv (.t 4)), none⟩, ⟨(some 30), (.mfn (.func 44) [] [(.t 1)]), none⟩, ⟨(some 31), (.call 43 [(.t 29), (.t 30)]), none⟩]) (.kill [1, 29, 30, 31] (.seq (.ops [⟨(some 32), (.mv (.t 4)), none⟩, ⟨(some 2), (.mv (.t 32)), none⟩, ⟨(some 3), (.mv (.k (.c (.v (.int .i64 0))))), none⟩]) (.kill [4, 32] .ret)))))))))))
def rs22 : List RS := [(.t 2), (.t 3)]
def nt22 : Nat := 33
noncomputable def ptsV (xs : List Cl) : List Int := if mayQ xs = true then ptsL xs else []
set_option maxRecDepth 100000 in
set_option maxHeartbeats 400000 in
theorem points_calls (w : World) (v : Value) (xs : List Cl) (hsz : xs.length * 72 ≤ 140737488355328) (hr : ∀ c ∈ xs, c.point ≤ 9223372036854775807) (h : Arr w Cl.enc 9 v xs) : Calls Try.prog 22 #[v] w (RetN w 1 (leT 1 (ptsV xs).length (if mayQ xs = true then 0 else 120)) (lsO 3 1 eI (ptsV xs) 0)) := by
  refine enter1 (A := []) (c := ir22) (rs := rs22) (nt := nt22) cl0 cl_ok h [.c (.xv (0, 0, 0))] _ Try.func22 rfl (by kernel_rfl) (by kernel_rfl) rfl (fun E' h0 => by simp [SV.den, SC.den, h0]) (of_decide_eq_true rfl) ?_
  simp (config := { maxSteps := 2000000 }) only [ir22, nt22, rs22, go_sem, ↓condS, ↓exitS, ↓gateS, ↓runOp, ↓gateD, ↓runD, ↓imp_ft, ↓imp_tf, ↓imp_tt, ↓imp_ff, ↓imp_fn, ↓imp_tn, ↓imp_fy, ↓imp_ty, ↓reduceIte, Nat.reduceLT, Nat.reduceLeDiff, Nat.reduceAdd, Nat.reduceSub, Nat.reduceMul, Nat.reduceEqDiff, reduceCtorEq, Int.reduceToNat, Int.reduceEq, Int.reduceBEq, Int.reduceBNe, Int.reduceLT, Int.reduceLE, Int.reduceNeg, Int.reduceAdd, Int.reduceSub, Int.reduceMul, Int.reduceGE, Int.reduceGT, Cl.enc, iv, endO]
  refine callV (.c (.bo (mayQ xs))) _ (fun E => rfl) (fun E a w' hs => mayW w' _ xs (arr_at (d := cl0) hs 0 rfl)) ?_
  simp (config := { maxSteps := 2000000 }) only [go_sem, ↓condS, ↓exitS, ↓gateS, ↓runOp, ↓gateD, ↓runD, ↓imp_ft, ↓imp_tf, ↓imp_tt, ↓imp_ff, ↓imp_fn, ↓imp_tn, ↓imp_fy, ↓imp_ty, ↓reduceIte, Nat.reduceLT, Nat.reduceLeDiff, Nat.reduceAdd, Nat.reduceSub, Nat.reduceMul, Nat.reduceEqDiff, reduceCtorEq, Int.reduceToNat, Int.reduceEq, Int.reduceBEq, Int.reduceBNe, Int.reduceLT, Int.reduceLE, Int.reduceNeg, Int.reduceAdd, Int.reduceSub, Int.reduceMul, Int.reduceGE, Int.reduceGT, Cl.enc, iv, endO]
  refine both (fun hm => ?_) (fun hm => ?_)
  · rw [Bool.not_eq_true'] at hm
    have e1 : ptsV xs = [] := by simp [ptsV, hm]
    rw [e1]
    simp only [hm, Bool.false_eq_true, if_false]
    exact retNE
  · rw [Bool.not_eq_false'] at hm
    have e1 : ptsV xs = ptsL xs := by simp [ptsV, hm]
    rw [e1]
    simp only [hm, if_true]
    refine loopI (ι := { i : Nat // i ≤ xs.length }) (fun i => ⟨33, [(1, .c (.ptr (1, 0, 0) 0)), (4, .c (.sl (2, 0, 0) 1 0 (pks xs i.1).length none)), (10, .c (.xv (0, 0, 0))), (11, .c (.v (.int .i64 (xs.length : Nat)))), (12, .c (.v (.int .i64 (i.1 : Nat))))],
      [(1, .one (.bk [.xv (0, 0, 0)] 22)), (2, .one (.ar (pks xs i.1).length 1 (ats eI (pks xs i.1) 0) 3))], [(0, .one (arrOf Cl.enc 9 xs cl0))], [], 3⟩)
      (fun i => xs.length - i.1) ⟨0, by omega⟩ ?_ ?_
    · refine le_tr (le_nilown (tmps' := [(1, .c (.ptr (1, 0, 0) 0)), (4, .c (.sl (2, 0, 0) 1 0 0 none)), (10, .c (.xv (0, 0, 0))), (11, .c (.v (.int .i64 xs.length))), (12, .c (.v (.int .i64 0)))]) 1 3 (ats eI [] 0) (by simp [TmpsNil, look]) rfl) ?_
      exact (le_ren id rfl rfl (by simp [TmpsLe, look, SV.ren, SC.ren, idσ, SV.okN, SC.okN, pks]) (by simp [OwnLe, BlkLeO, BlkLe, atN, look, Fm.get, idσ, SC.renL, SC.ren, SC.okL, SC.okN, pks]) (by simp [ArrsLe, ArrLeO, atN, look, Fm.get, idσ, arrLe_of, arrLe_0]) rfl)
    rintro ⟨i, hi⟩
    simp (config := { maxSteps := 2000000 }) only [go_sem, ↓condS, ↓exitS, ↓gateS, ↓runOp, ↓gateD, ↓runD, ↓imp_ft, ↓imp_tf, ↓imp_tt, ↓imp_ff, ↓imp_fn, ↓imp_tn, ↓imp_fy, ↓imp_ty, ↓reduceIte, Nat.reduceLT, Nat.reduceLeDiff, Nat.reduceAdd, Nat.reduceSub, Nat.reduceMul, Nat.reduceEqDiff, reduceCtorEq, Int.reduceToNat, Int.reduceEq, Int.reduceBEq, Int.reduceBNe, Int.reduceLT, Int.reduceLE, Int.reduceNeg, Int.reduceAdd, Int.reduceSub, Int.reduceMul, Int.reduceGE, Int.reduceGT, Cl.enc, iv, endO]
    refine both (fun hlt => ?_) (fun hge => ?_)
    · rw [decide_eq_true_eq] at hlt
      have hlt : i < xs.length := by omega
      have hpl := pks_len xs i
      repeat (with_reducible refine And.intro (by first | (simp only [maxLen]; omega) | omega | decide | (simp; done) | (simp [maxLen]; omega)) ?_)
      generalize hci : xs.getD i cl0 = ci
      refine callV (.c (.bo (objOf ci.op != 0))) _ (fun E => rfl) (fun E a w' _ => counts_calls w' ci) ?_
      simp (config := { maxSteps := 2000000 }) only [go_sem, ↓condS, ↓exitS, ↓gateS, ↓runOp, ↓gateD, ↓runD, ↓imp_ft, ↓imp_tf, ↓imp_tt, ↓imp_ff, ↓imp_fn, ↓imp_tn, ↓imp_fy, ↓imp_ty, ↓reduceIte, Nat.reduceLT, Nat.reduceLeDiff, Nat.reduceAdd, Nat.reduceSub, Nat.reduceMul, Nat.reduceEqDiff, reduceCtorEq, Int.reduceToNat, Int.reduceEq, Int.reduceBEq, Int.reduceBNe, Int.reduceLT, Int.reduceLE, Int.reduceNeg, Int.reduceAdd, Int.reduceSub, Int.reduceMul, Int.reduceGE, Int.reduceGT, Cl.enc, iv, endO]
      rw [wr_succ (by omega)]
      refine both (fun hb => ?_) (fun hb => ?_)
      · have hp : pks xs (i + 1) = pks xs i ++ [(i : Int)] := by
          simp only [pks]
          rw [if_pos (by rw [hci]; simp only [ptB, b_decR, b_decL, bt_ite, bf_ite, bt_dec, bf_dec, bt_int, bf_int, bt_nint, bf_nint, bt_bool, bf_bool, bt_nbool, bf_nbool, bt_not, bf_not, bt_and, bf_and, bt_or, bf_or, Bool.false_eq_true, Bool.true_eq_false, Bool.not_eq_true, Bool.not_eq_false, reduceCtorEq, false_iff, true_iff, iff_false, iff_true, and_true, true_and, and_false, false_and, or_true, true_or, or_false, false_or, not_true_eq_false, not_false_eq_true, ne_eq] at hb ⊢; omega)]
        repeat (with_reducible refine And.intro (by first | (simp only [maxLen]; omega) | omega | decide | (simp; done) | (simp [maxLen]; omega)) ?_)
        refine backI ⟨i + 1, by omega⟩ (by simp only; omega) (le_ren (fun k => if k = 2 then 5 else k) rfl rfl (by simp [TmpsLe, look, SV.ren, SC.ren, SC.renL, idσ, SV.okN, SC.okN, hp]) ⟨⟨of_decide_eq_true rfl, (by simp [BlkLeO, atN, look, Fm.get, idσ, BlkLe, SC.renL, SC.ren, SC.okL, SC.okN])⟩, ⟨of_decide_eq_true rfl, arLe_of (by simp [hp]) (ats_push hp rfl (fun e he => rfl) rfl)⟩, trivial⟩ (by simp [ArrsLe, ArrLeO, atN, look, Fm.get, idσ, arrLe_of, arrLe_0]) rfl)
      · have hp : pks xs (i + 1) = pks xs i := by
          simp only [pks]
          rw [if_neg (by rw [hci]; simp only [ptB, b_decR, b_decL, bt_ite, bf_ite, bt_dec, bf_dec, bt_int, bf_int, bt_nint, bf_nint, bt_bool, bf_bool, bt_nbool, bf_nbool, bt_not, bf_not, bt_and, bf_and, bt_or, bf_or, Bool.false_eq_true, Bool.true_eq_false, Bool.not_eq_true, Bool.not_eq_false, reduceCtorEq, false_iff, true_iff, iff_false, iff_true, and_true, true_and, and_false, false_and, or_true, true_or, or_false, false_or, not_true_eq_false, not_false_eq_true, ne_eq] at hb ⊢; omega)]
        refine backI ⟨i + 1, by omega⟩ (by simp only; omega) (le_ren id rfl rfl (by simp [TmpsLe, look, SV.ren, SC.ren, SC.renL, idσ, SV.okN, SC.okN, hp]) ⟨⟨of_decide_eq_true rfl, (by simp [BlkLeO, atN, look, Fm.get, idσ, BlkLe, SC.renL, SC.ren, SC.okL, SC.okN])⟩, ⟨of_decide_eq_true rfl, arLe_of (by simp [hp]) (fun e he => by rw [hp])⟩, trivial⟩ (by simp [ArrsLe, ArrLeO, atN, look, Fm.get, idσ, arrLe_of, arrLe_0]) rfl)
    · rw [decide_eq_false_iff_not] at hge
      have hin : i = xs.length := by omega
      subst hin
      have hpl := pks_len xs xs.length
      refine call_intro (f := 43) (cr_sort (ρ := sortPts_ren) (C := mkC Try.prog [] w rs22 (RetN w 1 (leT 1 (ptsL xs).length 0) (lsO 3 1 eI (ptsL xs) 0))) (i := 2) (ty := 3) (g := 44) (cap := none) (cl := [.ptr (1, 0, 0) 0]) (zs := ptsL xs) sortPts (Kp xs) rfl (by omega) (enters_of Try.func44 (by kernel_rfl) rfl) (fun l hp hs => ptsL_uniq (mayQ_iff.1 hm) hp hs) (fun E a w' hs W hW x hx y hy => ?_)) (fun k hk => by rw [List.mem_singleton] at hk; subst hk; exact Nat.lt_succ_self 2) ?_
      · obtain ⟨H, hH, hF⟩ := hs.mem
        have hat1 : atN ([(1, .one (.bk [.xv (0, 0, 0)] 22)), (2, .one (.ar (pks xs xs.length).length 1 (ats eI (pks xs xs.length) 0) 3))] : Own) (1, 0, 0) = some (.bk [.xv (0, 0, 0)] 22) := rfl
        have hat2 : atN ([(1, .one (.bk [.xv (0, 0, 0)] 22)), (2, .one (.ar (pks xs xs.length).length 1 (ats eI (pks xs xs.length) 0) 3))] : Own) (2, 0, 0) = some (.ar (pks xs xs.length).length 1 (ats eI (pks xs xs.length) 0) 3) := rfl
        have d1 := hH.den _ _ hat1
        have d2 := hH.den _ _ hat2
        have hpos : 0 < (pks xs xs.length).length := List.length_pos_of_mem hx
        simp only [Blk.den] at d1 d2
        rcases d2 with ⟨_, _, h0, _⟩ | ⟨_, _, _, cells, d2, _⟩
        · omega
        have hne : E.ρ (1, 0, 0) ≠ E.ρ (2, 0, 0) := fun e => by
          have := hH.disj _ _ _ _ hat1 hat2 (by decide) (E.ρ (1, 0, 0))
          rw [d1, d2, ← e] at this
          simp [sing] at this
        have hold := hF W fun n hn hfr => hW n hn fun e => by
          have := hfr _ _ hat2
          rw [d2, e] at this
          simp [sing] at this
        obtain ⟨ba, cap, g1, g2, g3, g4⟩ := arr_of (hold.1 (0, 0, 0) _ rfl)
        obtain ⟨k, hk, rfl, hkb⟩ := mem_pks.1 hx
        obtain ⟨l, hl, rfl, hlb⟩ := mem_pks.1 hy
        rcases g4 with g4 | ⟨blk, off, rfl, g4⟩
        · rw [g4] at hk; simp at hk
        obtain ⟨c1, _⟩ := hH.sub _ _ hat1 (E.ρ (1, 0, 0)) _ (by rw [d1]; simp [sing]; rfl)
        have hlt : E.ρ (1, 0, 0) < w'.heap.size := (Array.getElem?_eq_some_iff.1 c1).1
        have k1 := g4 k (xs.getD k cl0) (by rw [List.getD_eq_getElem?_getD, List.getElem?_eq_getElem hk]; rfl) 6 (iv (xs.getD k cl0).point) rfl
        have k2 := g4 l (xs.getD l cl0) (by rw [List.getD_eq_getElem?_getD, List.getElem?_eq_getElem hl]; rfl) 6 (iv (xs.getD l cl0).point) rfl
        have hcl := closure0 W (E.ρ (1, 0, 0)) blk off xs.length cap (k : Int) (l : Int) (xs.getD k cl0).point (xs.getD l cl0).point (by
          unfold World.cell?
          simp only [hW _ hlt hne, c1, List.map_cons, List.map_nil, SC.den, g1]
          rfl) (by omega) (by omega) k1 k2
        have b1 := pt_rng (mayQ_iff.1 hm) hr hk hkb
        have b2 := pt_rng (mayQ_iff.1 hm) hr hl hlb
        rw [wr64 (by omega) (by omega)] at hcl
        simp only [Kp, Int.toNat_natCast, SC.denL, SC.den]
        exact hcl
      · simp (config := { maxSteps := 2000000 }) only [go_sem, ↓condS, ↓exitS, ↓gateS, ↓runOp, ↓gateD, ↓runD, ↓imp_ft, ↓imp_tf, ↓imp_tt, ↓imp_ff, ↓imp_fn, ↓imp_tn, ↓imp_fy, ↓imp_ty, ↓reduceIte, Nat.reduceLT, Nat.reduceLeDiff, Nat.reduceAdd, Nat.reduceSub, Nat.reduceMul, Nat.reduceEqDiff, reduceCtorEq, Int.reduceToNat, Int.reduceEq, Int.reduceBEq, Int.reduceBNe, Int.reduceLT, Int.reduceLE, Int.reduceNeg, Int.reduceAdd, Int.reduceSub, Int.reduceMul, Int.reduceGE, Int.reduceGT, Cl.enc, iv, endO]
        have := (ptsL_perm xs).length_eq
        exact retLE 2 _ _ rfl (by omega) (by omega) (fun e he => rfl)
def ir24 : IR := (.seq (.ops [⟨(some 2), (.mv (.k (.c (.v (.slice none 0 0))))), none⟩]) (.kill [1, 2, 3, 4, 5, 6, 7, 8, 9, 10, 11] (.seq (.ops [⟨(some 3), (.mv (.k (.c (.v (.slice none 0 0))))), none⟩]) (.seq (.seq (.ops [⟨(some 4), (.mv (.k (.c (.v (.int .i64 0))))), none⟩]) (.blk 0 (.loop (.seq (.seq (.ops [⟨(some 6), (.mv (.t 4)), none⟩, ⟨(some 7), (.mv (.t 0)), none⟩, ⟨(some 8), (.len (.t 7)), none⟩, ⟨(some 9), (.bin .lss (.t 6) (.t 8)), none⟩]) (.kill [5, 6, 7, 8, 10, 11, 12, 13, 14, 15, 16, 17, 18, 19, 20, 21, 22, 23, 24, 25, 26, 27, 28, 29, 30, 31, 32, 33, 34, 35, 36, 37, 38, 39, 40, 41, 42, 43, 44, 45, 46, 47, 48, 49, 50, 51, 52, 53, 54, 55, 56, 57, 58, 59, 60, 61, 62, 63, 64, 65, 66, 67, 68, 69, 70, 71, 72] (.cond (.t 9) .skip (.exit 0)))) (.kill [9] (.seq (.blk 1 (.seq (.seq (.ops [⟨(some 12), (.mv (.t 0)), none⟩, ⟨(some 13), (.mv (.t 4)), none⟩, ⟨(some 14), (.ia 9 (.t 12) (.t 13)), none⟩, ⟨(some 15), (.ld true 9 (.t 14)), none⟩, ⟨(some 16), (.call 45 [(.t 15)]), none⟩, ⟨(some 17), (.un .not (.t 16)), none⟩, ⟨(some 18), (.mv (.t 17)), none⟩, ⟨(some 19), (.mv (.t 0)), (some (18, false))⟩, ⟨(some 20), (.mv (.t 4)), (some (18, false))⟩, ⟨(some 21), (.ia 9 (.t 19) (.t 20)), (some (18, false))⟩, ⟨(some 22), (.fa 6 (.t 21)), (some (18, false))⟩, ⟨(some 23), (.ld false 1 (.t 22)), (some (18, false))⟩, ⟨(some 24), (.bin .eql (.t 23) (.k (.c (.v (.int .i64 (-1)))))), (some (18, false))⟩, ⟨(some 25), (.pick (.t 18) (.k (.c (.v (.bool true)))) (.t 24)), none⟩]) (.kill [12, 13, 14, 15, 16, 17, 18, 19, 20, 21, 22, 23, 24] (.cond (.t 25) (.exit 1) .skip))) (.kill [25] (.seq (.ops [⟨(some 26), (.mv (.t 3)), none⟩, ⟨(some 27), (.mv (.t 4)), none⟩, ⟨(some 28), (.mkSl 3 1 1 [(.v (.int .i64 0))] [(0, (1, (.t 27)))]), none⟩, ⟨(some 29), (.app 3 1 8 [(.v (.int .i64 0))] (.t 26) (.t 28)), none⟩, ⟨(some 3), (.mv (.t 29)), none⟩]) (.kill [26, 27, 28, 29] (.seq (.ops [⟨(some 30), (.mv (.t 3)), none⟩, ⟨(some 31), (.len (.t 30)), none⟩, ⟨(some 32), (.bin .sub (.t 31) (.k (.c (.v (.int .i64 1))))), none⟩, ⟨(some 5), (.mv (.t 32)), none⟩]) (.kill [30, 31, 32] (.blk 2 (.loop (.seq (.seq (.draw [(⟨(some 33), (.mv (.t 5)), none⟩, ([], [])), (⟨(some 34), (.bin .gtr (.t 33) (.k (.c (.v (.int .i64 0))))), none⟩, ([], [])), (⟨(some 35), (.mv (.t 34)), none⟩, ([], [])), (⟨(some 36), (.mv (.t 0)), (some (35, true))⟩, ([], [37, 38, 39, 40, 41, 45, 46, 47, 48, 49, 50, 51, 52])), (⟨(some 37), (.mv (.t 3)), (some (35, true))⟩, ([3], [36, 38, 39, 45, 46, 47, 48, 49, 50, 51, 52])), (⟨(some 38), (.mv (.t 5)), (some (35, true))⟩, ([3, 4], [36, 37, 45, 46, 47, 48, 49, 50, 51, 52])), (⟨(some 39), (.bin .sub (.t 38) (.k (.c (.v (.int .i64 1))))), (some (35, true))⟩, ([3, 4], [36, 37, 45, 46, 47, 48, 49, 50, 51, 52])), (⟨(some 40), (.ia 1 (.t 37) (.t 39)), (some (35, true))⟩, ([3], [36, 45, 46, 47, 48, 49, 50, 51, 52])), (⟨(some 41), (.ld false 1 (.t 40)), (some (35, true))⟩, ([3], [36, 45, 46, 47, 48, 49, 50, 51, 52])), (⟨(some 42), (.ia 9 (.t 36) (.t 41)), (some (35, true))⟩, ([], [45, 46, 47, 48, 49, 50, 51, 52])), (⟨(some 43), (.fa 6 (.t 42)), (some (35, true))⟩, ([], [45, 46, 47, 48, 49, 50, 51, 52])), (⟨(some 44), (.ld false 1 (.t 43)), (some (35, true))⟩, ([], [45, 46, 47, 48, 49, 50, 51, 52])), (⟨(some 45), (.mv (.t 0)), (some (35, true))⟩, ([3, 4, 5, 6, 7, 8, 9, 10, 11], [36, 37, 38, 39, 40, 41, 42, 43, 44, 46, 47, 48, 49])), (⟨(some 46), (.mv (.t 3)), (some (35, true))⟩, ([3, 4, 5, 6, 7, 8, 9, 10, 11, 12], [36, 37, 38, 39, 40, 41, 42, 43, 44, 45, 47])), (⟨(some 47), (.mv (.t 5)), (some (35, true))⟩, ([3, 4, 5, 6, 7, 8, 9, 10, 11, 12, 13], [36, 37, 38, 39, 40, 41, 42, 43, 44, 45, 46])), (⟨(some 48), (.ia 1 (.t 46) (.t 47)), (some (35, true))⟩, ([3, 4, 5, 6, 7, 8, 9, 10, 11, 12], [36, 37, 38, 39, 40, 41, 42, 43, 44, 45])), (⟨(some 49), (.ld false 1 (.t 48)), (some (35, true))⟩, ([3, 4, 5, 6, 7, 8, 9, 10, 11, 12], [36, 37, 38, 39, 40, 41, 42, 43, 44, 45])), (⟨(some 50), (.ia 9 (.t 45) (.t 49)), (some (35, true))⟩, ([3, 4, 5, 6, 7, 8, 9, 10, 11], [36, 37, 38, 39, 40, 41, 42, 43, 44])), (⟨(some 51), (.fa 6 (.t 50)), (some (35, true))⟩, ([3, 4, 5, 6, 7, 8, 9, 10, 11], [36, 37, 38, 39, 40, 41, 42, 43, 44])), (⟨(some 52), (.ld false 1 (.t 51)), (some (35, true))⟩, ([3, 4, 5, 6, 7, 8, 9, 10, 11], [36, 37, 38, 39, 40, 41, 42, 43, 44])), (⟨(some 53), (.bin .gtr (.t 44) (.t 52)), (some (35, true))⟩, ([], [])), (⟨(some 54), (.pick (.t 35) (.t 53) (.k (.c (.v (.bool false))))), none⟩, ([], []))]) (.kill [33, 34, 35, 36, 37, 38, 39, 40, 41, 42, 43, 44, 45, 46, 47, 48, 49, 50, 51, 52, 53, 55, 56, 57, 58, 59, 60, 61, 62, 63, 64, 65, 66, 67, 68, 69, 70, 71, 72] (.cond (.t 54) .skip (.exit 2)))) (.kill [54] (.seq (.blk 3 (.draw [(⟨(some 57), (.mv (.t 3)), none⟩, ([], [58, 59, 60, 61, 62, 63, 64, 65, 66, 67, 68, 69, 70])), (⟨(some 58), (.mv (.t 5)), none⟩, ([0], [57, 60, 61, 62, 63, 64, 65, 66, 67, 68, 69, 70])), (⟨(some 59), (.bin .sub (.t 58) (.k (.c (.v (.int .i64 1))))), none⟩, ([0], [57, 60, 61, 62, 63, 64, 65, 66, 67, 68, 69, 70])), (⟨(some 60), (.mv (.t 3)), none⟩, ([0, 1, 2], [57, 58, 59, 61, 62, 63, 64, 65, 66, 67, 68, 69, 70, 71])), (⟨(some 61), (.mv (.t 5)), none⟩, ([0, 1, 2, 3], [57, 58, 59, 60, 62, 63, 64, 65, 66, 67, 68, 69, 70, 71])), (⟨(some 62), (.mv (.t 3)), none⟩, ([0, 1, 2, 3, 4], [57, 58, 59, 60, 61, 63, 66, 67, 68, 69, 70])), (⟨(some 63), (.mv (.t 5)), none⟩, ([0, 1, 2, 3, 4, 5], [57, 58, 59, 60, 61, 62, 66, 67, 68, 69, 70])), (⟨(some 64), (.ia 1 (.t 62) (.t 63)), none⟩, ([0, 1, 2, 3, 4], [57, 58, 59, 60, 61, 66, 67, 68, 69, 70])), (⟨(some 65), (.ld false 1 (.t 64)), none⟩, ([0, 1, 2, 3, 4], [57, 58, 59, 60, 61, 66, 67, 68, 69, 70])), (⟨(some 66), (.mv (.t 3)), none⟩, ([0, 1, 2, 3, 4, 5, 6, 7, 8], [57, 58, 59, 60, 61, 62, 63, 64, 65, 67, 68])), (⟨(some 67), (.mv (.t 5)), none⟩, ([0, 1, 2, 3, 4, 5, 6, 7, 8, 9], [57, 58, 59, 60, 61, 62, 63, 64, 65, 66])), (⟨(some 68), (.bin .sub (.t 67) (.k (.c (.v (.int .i64 1))))), none⟩, ([0, 1, 2, 3, 4, 5, 6, 7, 8, 9], [57, 58, 59, 60, 61, 62, 63, 64, 65, 66])), (⟨(some 69), (.ia 1 (.t 66) (.t 68)), none⟩, ([0, 1, 2, 3, 4, 5, 6, 7, 8], [57, 58, 59, 60, 61, 62, 63, 64, 65])), (⟨(some 70), (.ld false 1 (.t 69)), none⟩, ([0, 1, 2, 3, 4, 5, 6, 7, 8], [57, 58, 59, 60, 61, 62, 63, 64, 65])), (⟨(some 71), (.ia 1 (.t 57) (.t 59)), none⟩, ([3, 4], [60, 61])), (⟨none, (.st 1 (.t 71) (.t 65)), none⟩, ([3, 4], [60, 61])), (⟨(some 72), (.ia 1 (.t 60) (.t 61)), none⟩, ([], [])), (⟨none, (.st 1 (.t 72) (.t 70)), none⟩, ([], []))])) (.kill [57, 58, 59, 60, 61, 62, 63, 64, 65, 66, 67, 68, 69, 70, 71, 72] (.ops [⟨(some 55), (.mv (.t 5)), none⟩, ⟨(some 56), (.bin .sub (.t 55) (.k (.c (.v (.int .i64 1))))), none⟩, ⟨(some 5), (.mv (.t 56)), none⟩])))))))))))))) (.kill [5, 12, 13, 14, 15, 16, 17, 18, 19, 20, 21, 22, 23, 24, 25, 26, 27, 28, 29, 30, 31, 32, 33, 34, 35, 36, 37, 38, 39, 40, 41, 42, 43, 44, 45, 46, 47, 48, 49, 50, 51, 52, 53, 54, 55, 56, 57, 58, 59, 60, 61, 62, 63, 64, 65, 66, 67, 68, 69, 70, 71, 72] (.ops [⟨(some 10), (.mv (.t 4)), none⟩, ⟨(some 11), (.bin .add (.t 10) (.k (.c (.v (.int .i64 1))))), none⟩, ⟨(some 4), (.mv (.t 11)), none⟩])))))))) (.kill [0, 4, 5, 6, 7, 8, 9, 10, 11, 12, 13, 14, 15, 16, 17, 18, 19, 20, 21, 22, 23, 24, 25, 26, 27, 28, 29, 30, 31, 32, 33, 34, 35, 36, 37, 38, 39, 40, 41, 42, 43, 44, 45, 46, 47, 48, 49, 50, 51, 52, 53, 54, 55, 56, 57, 58, 59, 60, 61, 62, 63, 64, 65, 66, 67, 68, 69, 70, 71, 72] (.seq (.ops [⟨(some 73), (.mv (.t 3)), none⟩, ⟨(some 2), (.mv (.t 73)), none⟩]) (.kill [3, 73] .ret)))))))
def rs24 : List RS := [(.t 2)]
def nt24 : Nat := 74
/-- those that have been laid, in order -/
def insL (L : List Int) (k : Nat) (x : Int) : List Int := L.take k ++ x :: L.drop k
theorem insL_len {L : List Int} {k : Nat} {x : Int} (h : k ≤ L.length) : (insL L k x).length = L.length + 1 := by simp [insL]; omega
theorem insL_at {L : List Int} {k : Nat} {x : Int} (h : k ≤ L.length) : (insL L k x).getD k 0 = x := by
  simp [insL, List.getD_eq_getElem?_getD, List.getElem?_append_right, Nat.min_eq_left h]
theorem insL_pre {L : List Int} {k : Nat} {x : Int} (h : k < L.length) : (insL L (k + 1) x).getD k 0 = L.getD k 0 := by
  simp [insL, List.getD_eq_getElem?_getD, List.getElem?_append_left (show k < (L.take (k + 1)).length by simp; omega), List.getElem?_take]
theorem insL_end {L : List Int} {x : Int} : insL L L.length x = L ++ [x] := by simp [insL]
theorem insL_swap {L : List Int} {k : Nat} {x : Int} (h : k < L.length) (e : Nat) : (insL L k x).getD e 0 = if e = k then x else if e = k + 1 then L.getD k 0 else (insL L (k + 1) x).getD e 0 := by
  have h1 : k ≤ L.length := by omega
  by_cases e1 : e = k
  · subst e1; rw [insL_at h1, if_pos rfl]
  · rw [if_neg e1]
    by_cases e2 : e = k + 1
    · subst e2
      rw [if_pos rfl]
      simp [insL, List.getD_eq_getElem?_getD, List.getElem?_append_right, Nat.min_eq_left h1]
    · rw [if_neg e2]
      simp only [insL, List.getD_eq_getElem?_getD]
      by_cases e3 : e < k
      · rw [List.getElem?_append_left (by simp; omega), List.getElem?_append_left (by simp; omega), List.getElem?_take_of_lt e3, List.getElem?_take_of_lt (by omega)]
      · have hk1 : (L.take k).length = k := by simp; omega
        have hk2 : (L.take (k + 1)).length = k + 1 := by simp; omega
        rw [List.getElem?_append_right (by omega), List.getElem?_append_right (by omega), hk1, hk2]
        obtain ⟨d, rfl⟩ : ∃ d, e = k + 2 + d := ⟨e - k - 2, by omega⟩
        rw [show k + 2 + d - k = (d + 1) + 1 by omega, show k + 2 + d - (k + 1) = d + 1 by omega]
        simp only [List.getElem?_cons_succ, List.getElem?_drop]
        rw [show k + (d + 1) = k + 1 + d by omega]
structure PtI (xs : List Cl) where
  i : Nat
  L : List Int
  hi : i ≤ xs.length
  perm : L.Perm (pks xs i)
  srt : ptSorted xs L
theorem PtI.len {xs : List Cl} (p : PtI xs) : p.L.length ≤ p.i := by rw [p.perm.length_eq]; exact pks_len _ _
theorem PtI.at_ {xs : List Cl} (p : PtI xs) {j : Nat} (h : j < p.L.length) : ∃ k : Nat, k < p.i ∧ p.L.getD j 0 = k := by
  have : p.L.getD j 0 ∈ p.L := by rw [List.getD_eq_getElem?_getD, List.getElem?_eq_getElem h]; exact List.getElem_mem h
  obtain ⟨k, h1, h2, _⟩ := mem_pks.1 (p.perm.mem_iff.1 this)
  exact ⟨k, h1, h2⟩
set_option maxRecDepth 100000 in
set_option maxHeartbeats 400000 in
theorem rpoints_calls (w : World) (v : Value) (xs : List Cl) (hm : mayP xs) (hsz : xs.length * 72 ≤ 140737488355328) (h : Arr w Cl.enc 9 v xs) : Calls Try.prog 24 #[v] w (RetN w 1 (lsT 1 (ptsL xs).length) (lsO 3 1 eI (ptsL xs) 0)) := by
  refine enter1 (A := []) (c := ir24) (rs := rs24) (nt := nt24) cl0 cl_ok h [.c (.xv (0, 0, 0))] _ Try.func24 rfl (by kernel_rfl) (by kernel_rfl) rfl (fun E' h0 => by simp [SV.den, SC.den, h0]) (of_decide_eq_true rfl) ?_
  simp (config := { maxSteps := 2000000 }) only [ir24, nt24, rs24, go_sem, ↓condS, ↓exitS, ↓gateS, ↓runOp, ↓gateD, ↓runD, ↓imp_ft, ↓imp_tf, ↓imp_tt, ↓imp_ff, ↓imp_fn, ↓imp_tn, ↓imp_fy, ↓imp_ty, ↓reduceIte, Nat.reduceLT, Nat.reduceLeDiff, Nat.reduceAdd, Nat.reduceSub, Nat.reduceMul, Nat.reduceEqDiff, reduceCtorEq, Int.reduceToNat, Int.reduceEq, Int.reduceBEq, Int.reduceBNe, Int.reduceLT, Int.reduceLE, Int.reduceNeg, Int.reduceAdd, Int.reduceSub, Int.reduceMul, Int.reduceGE, Int.reduceGT, Cl.enc, iv, endO]
  refine loopI (ι := PtI xs) (fun p => ⟨74, [(0, .c (.xv (0, 0, 0))), (3, .c (.sl (1, 0, 0) 1 0 p.L.length none)), (4, .c (.v (.int .i64 (p.i : Nat))))],
    [(1, .one (.ar p.L.length 1 (ats eI p.L 0) 3))], [(0, .one (arrOf Cl.enc 9 xs cl0))], [], 2⟩)
    (fun p => xs.length - p.i) ⟨0, [], by omega, List.Perm.refl _, List.Pairwise.nil⟩ ?_ ?_
  · exact le_tr (le_nilown (tmps' := [(0, .c (.xv (0, 0, 0))), (3, .c (.sl (1, 0, 0) 1 0 0 none)), (4, .c (.v (.int .i64 0)))]) 1 3 (ats eI [] 0) (by simp [TmpsNil, look]) rfl) (le_ren (id) rfl rfl (by simp [TmpsLe, look, SV.ren, SC.ren, SC.renL, ren1L, ren1, idσ, SV.okN, SC.okN, SC.okL, ok1L]) (by simp [OwnLe, BlkLeO, BlkLe, atN, look, Fm.get, idσ, SC.renL, SC.ren, SC.okL, SC.okN, renL_v, okL_v, ren_ats, ok_ats]) (by simp [ArrsLe, ArrLeO, atN, look, Fm.get, idσ, arrLe_of, arrLe_0]) rfl)
  intro p
  have hpl := p.len
  have hpat : ∀ {j : Nat}, j < p.L.length → ∃ k : Nat, k < p.i ∧ p.L.getD j 0 = k := fun h => p.at_ h
  obtain ⟨i, L, hi, perm, srt⟩ := p
  simp only at hpl hpat
  simp (config := { maxSteps := 2000000 }) only [go_sem, ↓condS, ↓exitS, ↓gateS, ↓runOp, ↓gateD, ↓runD, ↓imp_ft, ↓imp_tf, ↓imp_tt, ↓imp_ff, ↓imp_fn, ↓imp_tn, ↓imp_fy, ↓imp_ty, ↓reduceIte, Nat.reduceLT, Nat.reduceLeDiff, Nat.reduceAdd, Nat.reduceSub, Nat.reduceMul, Nat.reduceEqDiff, reduceCtorEq, Int.reduceToNat, Int.reduceEq, Int.reduceBEq, Int.reduceBNe, Int.reduceLT, Int.reduceLE, Int.reduceNeg, Int.reduceAdd, Int.reduceSub, Int.reduceMul, Int.reduceGE, Int.reduceGT, Cl.enc, iv, endO]
  refine both (fun hlt => ?_) (fun hge => ?_)
  · rw [decide_eq_true_eq] at hlt
    have hlt : i < xs.length := by omega
    repeat (with_reducible refine And.intro (by first | (simp only [maxLen]; omega) | omega | decide | (simp; done) | (simp [maxLen]; omega)) ?_)
    generalize hci : xs.getD i cl0 = ci
    refine callV (.c (.bo (objOf ci.op != 0))) _ (fun E => rfl) (fun E a w' _ => rcounts_calls w' ci) ?_
    simp (config := { maxSteps := 2000000 }) only [go_sem, ↓condS, ↓exitS, ↓gateS, ↓runOp, ↓gateD, ↓runD, ↓imp_ft, ↓imp_tf, ↓imp_tt, ↓imp_ff, ↓imp_fn, ↓imp_tn, ↓imp_fy, ↓imp_ty, ↓reduceIte, Nat.reduceLT, Nat.reduceLeDiff, Nat.reduceAdd, Nat.reduceSub, Nat.reduceMul, Nat.reduceEqDiff, reduceCtorEq, Int.reduceToNat, Int.reduceEq, Int.reduceBEq, Int.reduceBNe, Int.reduceLT, Int.reduceLE, Int.reduceNeg, Int.reduceAdd, Int.reduceSub, Int.reduceMul, Int.reduceGE, Int.reduceGT, Cl.enc, iv, endO]
    rw [wr_succ (by omega)]
    refine ⟨fun _ => hlt, fun _ => hlt, fun _ => hlt, fun hb => ?_, fun hb => ?_⟩
    · rw [hci] at hb
      have hp : pks xs (i + 1) = pks xs i := by
        simp only [pks]
        rw [if_neg (by rw [hci]; simp only [ptB, b_decR, b_decL, bt_ite, bf_ite, bt_dec, bf_dec, bt_int, bf_int, bt_nint, bf_nint, bt_bool, bf_bool, bt_nbool, bf_nbool, bt_not, bf_not, bt_and, bf_and, bt_or, bf_or, Bool.false_eq_true, Bool.true_eq_false, Bool.not_eq_true, Bool.not_eq_false, reduceCtorEq, false_iff, true_iff, iff_false, iff_true, and_true, true_and, and_false, false_and, or_true, true_or, or_false, false_or, not_true_eq_false, not_false_eq_true, ne_eq] at hb ⊢; omega)]
      exact backI ⟨i + 1, L, by omega, by rw [hp]; exact perm, srt⟩ (by simp only; omega) (le_tmps (by simp [TmpsSub, look]))
    · rw [hci] at hb
      have hp : pks xs (i + 1) = pks xs i ++ [(i : Int)] := by
        simp only [pks]
        rw [if_pos (by rw [hci]; simp only [ptB, b_decR, b_decL, bt_ite, bf_ite, bt_dec, bf_dec, bt_int, bf_int, bt_nint, bf_nint, bt_bool, bf_bool, bt_nbool, bf_nbool, bt_not, bf_not, bt_and, bf_and, bt_or, bf_or, Bool.false_eq_true, Bool.true_eq_false, Bool.not_eq_true, Bool.not_eq_false, reduceCtorEq, false_iff, true_iff, iff_false, iff_true, and_true, true_and, and_false, false_and, or_true, true_or, or_false, false_or, not_true_eq_false, not_false_eq_true, ne_eq] at hb ⊢; omega)]
      repeat (with_reducible refine And.intro (by first | (simp only [maxLen]; omega) | omega | decide | (simp; done) | (simp [maxLen]; omega)) ?_)
      rw [show IntKind.i64.wrap (((L.length + 1 : Nat) : Int) - 1) = ((L.length : Nat) : Int) by rw [wr64 (by omega) (by omega)]; omega]
      refine loopI (ι := { k : Nat // k ≤ L.length ∧ ∀ j, k ≤ j → j < L.length → Kp xs i < Kp xs (L.getD j 0) }) (fun k => ⟨74, [(0, .c (.xv (0, 0, 0))), (3, .c (.sl (1, 0, 0) 1 0 (L.length + 1) none)), (4, .c (.v (.int .i64 i))), (5, .c (.v (.int .i64 (k.1 : Nat))))],
        [(1, .one (.ar (L.length + 1) 1 (ats eI (insL L k.1 i) 0) 3))], [(0, .one (arrOf Cl.enc 9 xs cl0))], [], 2⟩)
        (fun k => k.1) ⟨L.length, by omega, fun j h1 h2 => by omega⟩ ?_ ?_
      · refine le_ren (fun k => if k = 1 then 3 else k) rfl rfl (by simp [TmpsLe, look, SV.ren, SC.ren, SC.renL, ren1L, ren1, idσ, SV.okN, SC.okN, SC.okL, ok1L]) ⟨⟨of_decide_eq_true rfl, arLe_of (Nat.le_refl _) fun e he => ?_⟩, trivial⟩ (by simp [ArrsLe, ArrLeO, atN, look, Fm.get, idσ, arrLe_of, arrLe_0]) rfl
        rw [insL_end]
        exact ats_push rfl rfl (fun e he => rfl) rfl e (by simp; omega)
      rintro ⟨k, hk, hg⟩
      simp (config := { maxSteps := 2000000 }) only [go_sem, ↓condS, ↓exitS, ↓gateS, ↓runOp, ↓gateD, ↓runD, ↓imp_ft, ↓imp_tf, ↓imp_tt, ↓imp_ff, ↓imp_fn, ↓imp_tn, ↓imp_fy, ↓imp_ty, ↓reduceIte, Nat.reduceLT, Nat.reduceLeDiff, Nat.reduceAdd, Nat.reduceSub, Nat.reduceMul, Nat.reduceEqDiff, reduceCtorEq, Int.reduceToNat, Int.reduceEq, Int.reduceBEq, Int.reduceBNe, Int.reduceLT, Int.reduceLE, Int.reduceNeg, Int.reduceAdd, Int.reduceSub, Int.reduceMul, Int.reduceGE, Int.reduceGT, Cl.enc, iv, endO]
      refine draw_vc (by kernel_rfl) (mkTab_ok _ _) (of_decide_eq_true rfl) (of_decide_eq_true rfl) ?_
      repeat (first | simp (config := { maxSteps := 2000000 }) only [go_sem, ↓condS, ↓exitS, ↓gateS, ↓runOp, ↓gateD, ↓runD, ↓imp_ft, ↓imp_tf, ↓imp_tt, ↓imp_ff, ↓imp_fn, ↓imp_tn, ↓imp_fy, ↓imp_ty, ↓reduceIte, Nat.reduceLT, Nat.reduceLeDiff, Nat.reduceAdd, Nat.reduceSub, Nat.reduceMul, Nat.reduceEqDiff, reduceCtorEq, Int.reduceToNat, Int.reduceEq, Int.reduceBEq, Int.reduceBNe, Int.reduceLT, Int.reduceLE, Int.reduceNeg, Int.reduceAdd, Int.reduceSub, Int.reduceMul, Int.reduceGE, Int.reduceGT, Cl.enc, iv, endO, ats, eI] | rw [dr_cons])
      have hki : (insL L k (i : Int)).getD k 0 = i := insL_at hk
      have done : (k = 0 ∨ Kp xs (L.getD (k - 1) 0) ≤ Kp xs i) → (insL L k (i : Int)).Perm (pks xs (i + 1)) ∧ ptSorted xs (insL L k (i : Int)) := fun h2 => by
        rw [hp]
        exact ⟨ins_perm L k _ perm, ins_sorted hk srt hg h2⟩
      rcases Nat.eq_zero_or_pos k with h0 | h0
      · subst h0
        have hz : decide (((0 : Nat) : Int) > 0) = false := by decide
        obtain ⟨d1, d2⟩ := done (Or.inl rfl)
        simp (config := { maxSteps := 2000000 }) only [hz, Bool.false_eq_true, false_implies, true_implies, if_false, true_and, and_true]
        rw [wr_succ (by omega)]
        exact backI ⟨i + 1, insL L 0 i, by omega, d1, d2⟩ (by simp only; omega) (le_ren id rfl rfl (by simp [TmpsLe, look, SV.ren, SC.ren, SC.renL, idσ, SV.okN, SC.okN, insL_len]) (by simp [OwnLe, BlkLeO, BlkLe, atN, look, Fm.get, idσ, insL_len, ren_ats, ok_ats, renL_v, okL_v]) (by simp [ArrsLe, ArrLeO, atN, look, Fm.get, idσ, arrLe_of, arrLe_0]) rfl)
      · have hz : decide ((k : Int) > 0) = true := by rw [decide_eq_true_eq]; omega
        have hw : IntKind.i64.wrap ((k : Int) - 1) = ((k - 1 : Nat) : Int) := by rw [wr64 (by omega) (by omega)]; omega
        obtain ⟨q, hq1, hq2⟩ := hpat (j := k - 1) (by omega)
        have hq3 : (insL L k (i : Int)).getD (k - 1) 0 = q := by
          obtain ⟨m, rfl⟩ : ∃ m, k = m + 1 := ⟨k - 1, by omega⟩
          rw [Nat.add_sub_cancel] at hq2 ⊢
          rw [insL_pre (by omega), hq2]
        simp (config := { maxSteps := 2000000 }) only [hz, hw, hki, hq3, Int.toNat_natCast, true_implies, if_true, decide_eq_true_eq, decide_eq_false_iff_not]
        refine ⟨by omega, by omega, by omega, by omega, by omega, by omega, by omega, by omega, by omega, by omega, fun hb => ?_, fun hb => ?_⟩
        · skip
          refine draw_vc (by kernel_rfl) (mkTab_ok _ _) (of_decide_eq_true rfl) (of_decide_eq_true rfl) ?_
          repeat (first | simp (config := { maxSteps := 2000000 }) only [go_sem, ↓condS, ↓exitS, ↓gateS, ↓runOp, ↓gateD, ↓runD, ↓imp_ft, ↓imp_tf, ↓imp_tt, ↓imp_ff, ↓imp_fn, ↓imp_tn, ↓imp_fy, ↓imp_ty, ↓reduceIte, Nat.reduceLT, Nat.reduceLeDiff, Nat.reduceAdd, Nat.reduceSub, Nat.reduceMul, Nat.reduceEqDiff, reduceCtorEq, Int.reduceToNat, Int.reduceEq, Int.reduceBEq, Int.reduceBNe, Int.reduceLT, Int.reduceLE, Int.reduceNeg, Int.reduceAdd, Int.reduceSub, Int.reduceMul, Int.reduceGE, Int.reduceGT, Cl.enc, iv, endO, ats, eI] | rw [dr_cons])
          simp (config := { maxSteps := 2000000 }) only [hw, hki, hq3, Int.toNat_natCast]
          repeat (with_reducible refine And.intro (by first | (simp only [maxLen]; omega) | omega | decide | (simp; done) | (simp [maxLen]; omega)) ?_)
          obtain ⟨m, rfl⟩ : ∃ m, k = m + 1 := ⟨k - 1, by omega⟩
          rw [Nat.add_sub_cancel] at hq2 ⊢
          refine backI ⟨m, by omega, fun j h1 h2 => ?_⟩ (by simp only; omega) (le_ren id rfl rfl (by simp [TmpsLe, look, SV.ren, SC.ren, SC.renL, ren1L, ren1, idσ, SV.okN, SC.okN, SC.okL, ok1L]) ⟨⟨of_decide_eq_true rfl, arLe_of (Nat.le_refl _) fun e he => ?_⟩, trivial⟩ (by simp [ArrsLe, ArrLeO, atN, look, Fm.get, idσ, arrLe_of, arrLe_0]) rfl)
          · by_cases e : j = m
            · subst e
              rw [hq2]
              simp only [Kp, Int.toNat_natCast]
              omega
            · exact hg j (by omega) h2
          · simp only [setAt, ats, insL_swap (show m < L.length by omega), eI, hq2]
            by_cases e1 : e = m + 1
            · subst e1
              simp [drop']
            · rw [if_neg e1]
              by_cases e2 : e = m
              · subst e2; simp
              · simp [e1, e2]
        · obtain ⟨d1, d2⟩ := done (Or.inr (by rw [hq2]; simp only [Kp, Int.toNat_natCast]; omega))
          rw [wr_succ (by omega)]
          exact backI ⟨i + 1, insL L k i, by omega, d1, d2⟩ (by simp only; omega) (le_ren id rfl rfl (by simp [TmpsLe, look, SV.ren, SC.ren, SC.renL, idσ, SV.okN, SC.okN, insL_len hk]) (by simp [OwnLe, BlkLeO, BlkLe, atN, look, Fm.get, idσ, insL_len hk, ren_ats, ok_ats, renL_v, okL_v]) (by simp [ArrsLe, ArrLeO, atN, look, Fm.get, idσ, arrLe_of, arrLe_0]) rfl)
  · rw [decide_eq_false_iff_not] at hge
    have hin : i = xs.length := by omega
    subst hin
    have hL := ptsL_uniq hm perm srt
    subst hL
    exact retList' 1 _ _ rfl rfl (Nat.le_refl _) (fun e he => rfl)
end Go.Proofs.Ytkjeedlkkpgopaa.Z
