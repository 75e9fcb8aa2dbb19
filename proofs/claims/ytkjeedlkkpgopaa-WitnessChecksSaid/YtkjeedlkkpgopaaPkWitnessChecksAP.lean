/- WitnessChecksSaid: what its proof is made of. No condition. -/
import Derived.Test.YtkjeedlkkpgopaaPkWitnessChecksAO
set_option linter.unusedSimpArgs false
set_option linter.unusedVariables false
namespace Go.Proofs.Ytkjeedlkkpgopaa.Z
open Go Go.RowKit
set_option maxRecDepth 100000 in
set_option maxHeartbeats 400000 in
theorem rmDo_ZB {w : World} {v : Value} {m : MC} (op arg data : Int) (h : Cont w v m) (hok : MC.okR m) (hm : mayB m = true) (ho : objOf op ≠ 0) (h6 : ¬ (op = 22 ∨ op = 23 ∨ op = 30 ∨ op = 31 ∨ op = 40 ∨ op = 41)) : Calls Try.prog 83 #[v, .int .i64 op, .int .i64 arg, .int .i64 data] w (RetB w (fun _ => True) 5 (rdT (doM m op arg data)) (mcR (doM m op arg data).1)) := by
 refine enterC (A := []) (c := ir83) (rs := rs83) (nt := nt83) h [.agg (mcS 0), .c (.v (.int .i64 op)), .c (.v (.int .i64 arg)), .c (.v (.int .i64 data))] _ Try.func83 rfl (by kernel_rfl) (by kernel_rfl) rfl (fun E' h0 => by rw [List.map_cons, h0]; simp [SV.den, SC.den]) (of_decide_eq_true rfl) ?_
 simp (maxSteps := 2000000) only [ir83, nt83, rs83, go_sem, ↓condS, ↓exitS, ↓gateS, ↓runOp, ↓gateD, ↓runD, ↓imp_ft, ↓imp_tf, ↓imp_tt, ↓imp_ff, ↓imp_fn, ↓imp_tn, ↓imp_fy, ↓imp_ty, ↓reduceIte, Nat.reduceLT, Nat.reduceLeDiff, Nat.reduceAdd, Nat.reduceSub, Nat.reduceMul, Nat.reduceEqDiff, reduceCtorEq, Int.reduceToNat, Int.reduceEq, Int.reduceBEq, Int.reduceBNe, Int.reduceLT, Int.reduceLE, Int.reduceNeg, Int.reduceAdd, Int.reduceSub, Int.reduceMul, Int.reduceGE, Int.reduceGT, endO, mcS, mcA]
 obtain ⟨cl, sk, qu, se, ta⟩ := m
 have hok1 := hok.1
 have hst : (sk.length + 1) * 8 ≤ 140737488355328 := hok.2
 simp only [MC.ok] at hok1
 refine call_inline (c := ir84) (rs := rs84) (nt := nt84) 1000 (mkTab_ok _ _) Try.func84 rfl (by kernel_rfl) (by kernel_rfl) rfl (by simp [okVs, SV.okN, SC.okL, SC.okN]) (of_decide_eq_true rfl) (fun E0 a0 ht0 => ?_)
 simp (maxSteps := 2000000) only [ir84, nt84, rs84, go_sem, ↓condS, ↓exitS, ↓gateS, ↓runOp, ↓gateD, ↓runD, ↓imp_ft, ↓imp_tf, ↓imp_tt, ↓imp_ff, ↓imp_fn, ↓imp_tn, ↓imp_fy, ↓imp_ty, ↓reduceIte, Nat.reduceLT, Nat.reduceLeDiff, Nat.reduceAdd, Nat.reduceSub, Nat.reduceMul, Nat.reduceEqDiff, reduceCtorEq, Int.reduceToNat, Int.reduceEq, Int.reduceBEq, Int.reduceBNe, Int.reduceLT, Int.reduceLE, Int.reduceNeg, Int.reduceAdd, Int.reduceSub, Int.reduceMul, Int.reduceGE, Int.reduceGT, endO]
 refine draw_vc (by kernel_rfl) (mkTab_ok _ _) (of_decide_eq_true rfl) (of_decide_eq_true rfl) ?_
 repeat (first | simp (maxSteps := 2000000) only [go_sem, ↓condS, ↓exitS, ↓gateS, ↓runOp, ↓gateD, ↓runD, ↓imp_ft, ↓imp_tf, ↓imp_tt, ↓imp_ff, ↓imp_fn, ↓imp_tn, ↓imp_fy, ↓imp_ty, ↓reduceIte, Nat.reduceLT, Nat.reduceLeDiff, Nat.reduceAdd, Nat.reduceSub, Nat.reduceMul, Nat.reduceEqDiff, reduceCtorEq, Int.reduceToNat, Int.reduceEq, Int.reduceBEq, Int.reduceBNe, Int.reduceLT, Int.reduceLE, Int.reduceNeg, Int.reduceAdd, Int.reduceSub, Int.reduceMul, Int.reduceGE, Int.reduceGT, endO] | rw [dr_cons])
 repeat (with_reducible refine And.intro (by first | (simp only [maxLen]; omega) | omega | decide | (simp; done) | (simp [maxLen]; omega)) ?_)
 refine retI ht0 _ rfl (of_decide_eq_true rfl) (by simp [SV.okN, SC.okL, SC.okN, ok1L]) ?_
 simp (maxSteps := 2000000) only [go_sem, ↓condS, ↓exitS, ↓gateS, ↓runOp, ↓gateD, ↓runD, ↓imp_ft, ↓imp_tf, ↓imp_tt, ↓imp_ff, ↓imp_fn, ↓imp_tn, ↓imp_fy, ↓imp_ty, ↓reduceIte, Nat.reduceLT, Nat.reduceLeDiff, Nat.reduceAdd, Nat.reduceSub, Nat.reduceMul, Nat.reduceEqDiff, reduceCtorEq, Int.reduceToNat, Int.reduceEq, Int.reduceBEq, Int.reduceBNe, Int.reduceLT, Int.reduceLE, Int.reduceNeg, Int.reduceAdd, Int.reduceSub, Int.reduceMul, Int.reduceGE, Int.reduceGT, endO, eI, eP]
 refine both (fun hop => absurd (show op = 22 by simpa using hop) (fun e => h6 (by omega))) (fun n22 => ?_)
 refine both (fun hop => absurd (show op = 23 by simpa using hop) (fun e => h6 (by omega))) (fun n23 => ?_)
 refine both (fun hop => absurd (show op = 30 by simpa using hop) (fun e => h6 (by omega))) (fun n30 => ?_)
 refine both (fun hop => absurd (show op = 31 by simpa using hop) (fun e => h6 (by omega))) (fun n31 => ?_)
 refine both (fun hop => absurd (show op = 40 by simpa using hop) (fun e => h6 (by omega))) (fun n40 => ?_)
 refine both (fun hop => absurd (show op = 41 by simpa using hop) (fun e => h6 (by omega))) (fun n41 => ?_)
 simp only [mayB, Bool.and_eq_true, decide_eq_true_eq] at hm
 obtain ⟨⟨_, hinS⟩, hinT⟩ := hm
 have hinT : incB (keys ta) = true := hinT
 have hps : pos se arg ≤ se.length := List.countP_le_length
 have hpt : pos (keys ta) arg ≤ ta.length := by
  have : pos (keys ta) arg ≤ (keys ta).length := List.countP_le_length
  simpa [keys] using this
 refine call_le [1, 2, 3, 8, 9] [6, 7, 10, 11, 12, 13, 14] [] ?_
 simp only [St.keep, keepL', go_sem, ↓condS, ↓exitS, ↓gateS, ↓runOp, ↓gateD, ↓runD, ↓imp_ft, ↓imp_tf, ↓imp_tt, ↓imp_ff, ↓imp_fn, ↓imp_tn, ↓imp_fy, ↓imp_ty, ↓reduceIte, Nat.reduceLT, Nat.reduceLeDiff, Nat.reduceAdd, Nat.reduceSub, Nat.reduceMul, Nat.reduceEqDiff, reduceCtorEq, Int.reduceToNat, Int.reduceEq, Int.reduceBEq, Int.reduceBNe, Int.reduceLT, Int.reduceLE, Int.reduceNeg, Int.reduceAdd, Int.reduceSub, Int.reduceMul, Int.reduceGE, Int.reduceGT, endO]
 refine call_inline (c := ir98) (rs := rs98) (nt := nt98) 1000 (mkTab_ok _ _) Try.func98 rfl (by kernel_rfl) (by kernel_rfl) rfl (by simp [okVs, SV.okN, SC.okL, SC.okN]) (of_decide_eq_true rfl) (fun E0 a0 ht0 => ?_)
 simp (maxSteps := 2000000) only [ir98, nt98, rs98, go_sem, ↓condS, ↓exitS, ↓gateS, ↓runOp, ↓gateD, ↓runD, ↓imp_ft, ↓imp_tf, ↓imp_tt, ↓imp_ff, ↓imp_fn, ↓imp_tn, ↓imp_fy, ↓imp_ty, ↓reduceIte, Nat.reduceLT, Nat.reduceLeDiff, Nat.reduceAdd, Nat.reduceSub, Nat.reduceMul, Nat.reduceEqDiff, reduceCtorEq, Int.reduceToNat, Int.reduceEq, Int.reduceBEq, Int.reduceBNe, Int.reduceLT, Int.reduceLE, Int.reduceNeg, Int.reduceAdd, Int.reduceSub, Int.reduceMul, Int.reduceGE, Int.reduceGT, endO]
 refine callV (.tup [(false, [.v (.int .i64 (pos se arg : Nat))]), (false, [.bo (hasB se arg)])]) _ (fun E => rfl) (fun E a w' hs => set_Z arg (own_at hs 13 _ rfl rfl) hinS (by omega)) ?_
 simp (maxSteps := 2000000) only [go_sem, ↓condS, ↓exitS, ↓gateS, ↓runOp, ↓gateD, ↓runD, ↓imp_ft, ↓imp_tf, ↓imp_tt, ↓imp_ff, ↓imp_fn, ↓imp_tn, ↓imp_fy, ↓imp_ty, ↓reduceIte, Nat.reduceLT, Nat.reduceLeDiff, Nat.reduceAdd, Nat.reduceSub, Nat.reduceMul, Nat.reduceEqDiff, reduceCtorEq, Int.reduceToNat, Int.reduceEq, Int.reduceBEq, Int.reduceBNe, Int.reduceLT, Int.reduceLE, Int.reduceNeg, Int.reduceAdd, Int.reduceSub, Int.reduceMul, Int.reduceGE, Int.reduceGT, endO]
 refine callV (.tup [(false, [.v (.int .i64 (pos (keys ta) arg : Nat))]), (false, [.bo (hasB (keys ta) arg)])]) _ (fun E => rfl) (fun E a w' hs => table_Z arg (own_at hs 14 _ rfl rfl) hinT (by omega)) ?_
 simp (maxSteps := 2000000) only [go_sem, ↓condS, ↓exitS, ↓gateS, ↓runOp, ↓gateD, ↓runD, ↓imp_ft, ↓imp_tf, ↓imp_tt, ↓imp_ff, ↓imp_fn, ↓imp_tn, ↓imp_fy, ↓imp_ty, ↓reduceIte, Nat.reduceLT, Nat.reduceLeDiff, Nat.reduceAdd, Nat.reduceSub, Nat.reduceMul, Nat.reduceEqDiff, reduceCtorEq, Int.reduceToNat, Int.reduceEq, Int.reduceBEq, Int.reduceBNe, Int.reduceLT, Int.reduceLE, Int.reduceNeg, Int.reduceAdd, Int.reduceSub, Int.reduceMul, Int.reduceGE, Int.reduceGT, endO, eI, eP]
 refine both (fun hop => ?_) (fun n50 => ?_)
 ·have hop : op = 50 := by simpa using hop
  subst hop
  refine both (fun hin => ?_) (fun hin => ?_)
  ·have hin : hasB se arg = false := by simpa using hin
   have hd : doM ⟨cl, sk, qu, se, ta⟩ 50 arg data = (⟨cl, sk, qu, insAt se (pos se arg) arg, ta⟩, 5, 0) := by simp [doM, objOf, doSet, hin]
   rw [hd]
   repeat (with_reducible refine And.intro (by first | (simp only [maxLen]; omega) | omega | decide | (simp; done) | (simp [maxLen]; omega)) ?_)
   refine draw_vc (by kernel_rfl) (mkTab_ok _ _) (of_decide_eq_true rfl) (of_decide_eq_true rfl) ?_
   repeat (first | simp (maxSteps := 2000000) only [go_sem, ↓condS, ↓exitS, ↓gateS, ↓runOp, ↓gateD, ↓runD, ↓imp_ft, ↓imp_tf, ↓imp_tt, ↓imp_ff, ↓imp_fn, ↓imp_tn, ↓imp_fy, ↓imp_ty, ↓reduceIte, Nat.reduceLT, Nat.reduceLeDiff, Nat.reduceAdd, Nat.reduceSub, Nat.reduceMul, Nat.reduceEqDiff, reduceCtorEq, Int.reduceToNat, Int.reduceEq, Int.reduceBEq, Int.reduceBNe, Int.reduceLT, Int.reduceLE, Int.reduceNeg, Int.reduceAdd, Int.reduceSub, Int.reduceMul, Int.reduceGE, Int.reduceGT, endO, eI] | rw [dr_cons])
   repeat (with_reducible refine And.intro (by first | (simp only [maxLen]; omega) | omega | decide | with_reducible exact Or.inl trivial | with_reducible exact Or.inr trivial | with_reducible exact ⟨Or.inl trivial, Or.inr trivial⟩) ?_)
   refine ⟨fun hc => ?_, fun hc => ?_⟩
   ·have hc' : se.length = pos se arg := by omega
    repeat (with_reducible refine And.intro (by first | (simp only [maxLen]; omega) | omega | decide | (simp; done) | (simp [maxLen]; omega)) ?_)
    refine draw_vc (by kernel_rfl) (mkTab_ok _ _) (of_decide_eq_true rfl) (of_decide_eq_true rfl) ?_
    repeat (first | simp (maxSteps := 2000000) only [go_sem, ↓condS, ↓exitS, ↓gateS, ↓runOp, ↓gateD, ↓runD, ↓imp_ft, ↓imp_tf, ↓imp_tt, ↓imp_ff, ↓imp_fn, ↓imp_tn, ↓imp_fy, ↓imp_ty, ↓reduceIte, Nat.reduceLT, Nat.reduceLeDiff, Nat.reduceAdd, Nat.reduceSub, Nat.reduceMul, Nat.reduceEqDiff, reduceCtorEq, Int.reduceToNat, Int.reduceEq, Int.reduceBEq, Int.reduceBNe, Int.reduceLT, Int.reduceLE, Int.reduceNeg, Int.reduceAdd, Int.reduceSub, Int.reduceMul, Int.reduceGE, Int.reduceGT, endO, eI] | rw [dr_cons])
    repeat (with_reducible refine And.intro (by first | (simp only [maxLen]; omega) | omega | decide | (simp; done) | (simp [maxLen]; omega)) ?_)
    have hy : ∀ w', Calls Try.prog 104 #[.bool (!hasB se arg)] w' (RetV w' (.agg #[.int .i64 5, .int .i64 0])) := fun w' => by
     have := yes_Z (!hasB se arg) w'
     simpa [hin] using this
    refine dcallV (.agg [.v (.int .i64 5), .v (.int .i64 0)]) _ (fun E => rfl) (fun E a w' _ => hy w') ?_
    repeat (first | simp (maxSteps := 2000000) only [go_sem, ↓condS, ↓exitS, ↓gateS, ↓runOp, ↓gateD, ↓runD, ↓imp_ft, ↓imp_tf, ↓imp_tt, ↓imp_ff, ↓imp_fn, ↓imp_tn, ↓imp_fy, ↓imp_ty, ↓reduceIte, Nat.reduceLT, Nat.reduceLeDiff, Nat.reduceAdd, Nat.reduceSub, Nat.reduceMul, Nat.reduceEqDiff, reduceCtorEq, Int.reduceToNat, Int.reduceEq, Int.reduceBEq, Int.reduceBNe, Int.reduceLT, Int.reduceLE, Int.reduceNeg, Int.reduceAdd, Int.reduceSub, Int.reduceMul, Int.reduceGE, Int.reduceGT, endO] | rw [dr_cons])
    repeat (with_reducible refine And.intro (by first | (simp only [maxLen]; omega) | omega | decide | (simp; done) | (simp [maxLen]; omega)) ?_)
    refine retI ht0 _ rfl (of_decide_eq_true rfl) (by simp [SV.okN, SC.okL, SC.okN, ok1L]) ?_
    simp (maxSteps := 2000000) only [go_sem, ↓condS, ↓exitS, ↓gateS, ↓runOp, ↓gateD, ↓runD, ↓imp_ft, ↓imp_tf, ↓imp_tt, ↓imp_ff, ↓imp_fn, ↓imp_tn, ↓imp_fy, ↓imp_ty, ↓reduceIte, Nat.reduceLT, Nat.reduceLeDiff, Nat.reduceAdd, Nat.reduceSub, Nat.reduceMul, Nat.reduceEqDiff, reduceCtorEq, Int.reduceToNat, Int.reduceEq, Int.reduceBEq, Int.reduceBNe, Int.reduceLT, Int.reduceLE, Int.reduceNeg, Int.reduceAdd, Int.reduceSub, Int.reduceMul, Int.reduceGE, Int.reduceGT, endO]
    exact retB5 (m := ⟨cl, sk, qu, insAt se (pos se arg) arg, ta⟩) _ _ _ _ _ (rdN_all eI_ok 10 _ rfl rfl) (rdN_all eI_ok 11 _ rfl rfl) (rdN_all eI_ok 12 _ rfl rfl) (rdN_sl eI_ok 23 _ 0 _ _ none rfl (by simp <;> omega) (by rw [insAt_len _ _ _ hps]; omega) (fun q h => by cases h) (fun e he => by
     rw [Nat.zero_add]
     have := ats_ins (enc := eI) (d := (0 : Int)) (x := arg) (f0 := (arrOf eI 1 se 0).at_) (f1 := segs 1 [.v (.int .i64 arg)]) (g := fun _ => []) hps (fun e _ => rfl) rfl (fun e he => by omega) e he
     exact this)) (rdN_all eP_ok 14 _ rfl rfl) (rdT_ok _ _ _ _ _ (⟨cl, sk, qu, insAt se (pos se arg) arg, ta⟩, 5, 0))
   ·repeat (with_reducible refine And.intro (by first | (simp only [maxLen]; omega) | omega | decide | (simp; done) | (simp [maxLen]; omega)) ?_)
    refine draw_vc (by kernel_rfl) (mkTab_ok _ _) (of_decide_eq_true rfl) (of_decide_eq_true rfl) ?_
    repeat (first | simp (maxSteps := 2000000) only [go_sem, ↓condS, ↓exitS, ↓gateS, ↓runOp, ↓gateD, ↓runD, ↓imp_ft, ↓imp_tf, ↓imp_tt, ↓imp_ff, ↓imp_fn, ↓imp_tn, ↓imp_fy, ↓imp_ty, ↓reduceIte, Nat.reduceLT, Nat.reduceLeDiff, Nat.reduceAdd, Nat.reduceSub, Nat.reduceMul, Nat.reduceEqDiff, reduceCtorEq, Int.reduceToNat, Int.reduceEq, Int.reduceBEq, Int.reduceBNe, Int.reduceLT, Int.reduceLE, Int.reduceNeg, Int.reduceAdd, Int.reduceSub, Int.reduceMul, Int.reduceGE, Int.reduceGT, endO, eI] | rw [dr_cons])
    repeat (with_reducible refine And.intro (by first | (simp only [maxLen]; omega) | omega | decide | (simp; done) | (simp [maxLen]; omega)) ?_)
    have hy : ∀ w', Calls Try.prog 104 #[.bool (!hasB se arg)] w' (RetV w' (.agg #[.int .i64 5, .int .i64 0])) := fun w' => by
     have := yes_Z (!hasB se arg) w'
     simpa [hin] using this
    refine dcallV (.agg [.v (.int .i64 5), .v (.int .i64 0)]) _ (fun E => rfl) (fun E a w' _ => hy w') ?_
    repeat (first | simp (maxSteps := 2000000) only [go_sem, ↓condS, ↓exitS, ↓gateS, ↓runOp, ↓gateD, ↓runD, ↓imp_ft, ↓imp_tf, ↓imp_tt, ↓imp_ff, ↓imp_fn, ↓imp_tn, ↓imp_fy, ↓imp_ty, ↓reduceIte, Nat.reduceLT, Nat.reduceLeDiff, Nat.reduceAdd, Nat.reduceSub, Nat.reduceMul, Nat.reduceEqDiff, reduceCtorEq, Int.reduceToNat, Int.reduceEq, Int.reduceBEq, Int.reduceBNe, Int.reduceLT, Int.reduceLE, Int.reduceNeg, Int.reduceAdd, Int.reduceSub, Int.reduceMul, Int.reduceGE, Int.reduceGT, endO] | rw [dr_cons])
    repeat (with_reducible refine And.intro (by first | (simp only [maxLen]; omega) | omega | decide | (simp; done) | (simp [maxLen]; omega)) ?_)
    refine retI ht0 _ rfl (of_decide_eq_true rfl) (by simp [SV.okN, SC.okL, SC.okN, ok1L]) ?_
    simp (maxSteps := 2000000) only [go_sem, ↓condS, ↓exitS, ↓gateS, ↓runOp, ↓gateD, ↓runD, ↓imp_ft, ↓imp_tf, ↓imp_tt, ↓imp_ff, ↓imp_fn, ↓imp_tn, ↓imp_fy, ↓imp_ty, ↓reduceIte, Nat.reduceLT, Nat.reduceLeDiff, Nat.reduceAdd, Nat.reduceSub, Nat.reduceMul, Nat.reduceEqDiff, reduceCtorEq, Int.reduceToNat, Int.reduceEq, Int.reduceBEq, Int.reduceBNe, Int.reduceLT, Int.reduceLE, Int.reduceNeg, Int.reduceAdd, Int.reduceSub, Int.reduceMul, Int.reduceGE, Int.reduceGT, endO]
    exact retB5 (m := ⟨cl, sk, qu, insAt se (pos se arg) arg, ta⟩) _ _ _ _ _ (rdN_all eI_ok 10 _ rfl rfl) (rdN_all eI_ok 11 _ rfl rfl) (rdN_all eI_ok 12 _ rfl rfl) (rdN_sl eI_ok 22 _ 0 _ _ none rfl (by simp <;> omega) (by rw [insAt_len _ _ _ hps]; omega) (fun q h => by cases h) (fun e he => by
     rw [Nat.zero_add]
     have := ats_ins (enc := eI) (d := (0 : Int)) (x := arg) (f0 := (arrOf eI 1 se 0).at_) (f1 := segs 1 [.v (.int .i64 arg)]) (g := fun e => (arrOf eI 1 se 0).at_ (pos se arg + e)) hps (fun e _ => rfl) rfl (fun e _ => rfl) e he
     exact this)) (rdN_all eP_ok 14 _ rfl rfl) (rdT_ok _ _ _ _ _ (⟨cl, sk, qu, insAt se (pos se arg) arg, ta⟩, 5, 0))
  ·have hin : hasB se arg = true := by simpa using hin
   have hd : doM ⟨cl, sk, qu, se, ta⟩ 50 arg data = (⟨cl, sk, qu, se, ta⟩, 6, 0) := by simp [doM, objOf, doSet, hin]
   rw [hd]
   repeat (with_reducible refine And.intro (by first | (simp only [maxLen]; omega) | omega | decide | (simp; done) | (simp [maxLen]; omega)) ?_)
   refine draw_vc (by kernel_rfl) (mkTab_ok _ _) (of_decide_eq_true rfl) (of_decide_eq_true rfl) ?_
   repeat (first | simp (maxSteps := 2000000) only [go_sem, ↓condS, ↓exitS, ↓gateS, ↓runOp, ↓gateD, ↓runD, ↓imp_ft, ↓imp_tf, ↓imp_tt, ↓imp_ff, ↓imp_fn, ↓imp_tn, ↓imp_fy, ↓imp_ty, ↓reduceIte, Nat.reduceLT, Nat.reduceLeDiff, Nat.reduceAdd, Nat.reduceSub, Nat.reduceMul, Nat.reduceEqDiff, reduceCtorEq, Int.reduceToNat, Int.reduceEq, Int.reduceBEq, Int.reduceBNe, Int.reduceLT, Int.reduceLE, Int.reduceNeg, Int.reduceAdd, Int.reduceSub, Int.reduceMul, Int.reduceGE, Int.reduceGT, endO, eI] | rw [dr_cons])
   repeat (with_reducible refine And.intro (by first | (simp only [maxLen]; omega) | omega | decide | (simp; done) | (simp [maxLen]; omega)) ?_)
   have hy : ∀ w', Calls Try.prog 104 #[.bool (!hasB se arg)] w' (RetV w' (.agg #[.int .i64 6, .int .i64 0])) := fun w' => by
    have := yes_Z (!hasB se arg) w'
    simpa [hin] using this
   refine dcallV (.agg [.v (.int .i64 6), .v (.int .i64 0)]) _ (fun E => rfl) (fun E a w' _ => hy w') ?_
   repeat (first | simp (maxSteps := 2000000) only [go_sem, ↓condS, ↓exitS, ↓gateS, ↓runOp, ↓gateD, ↓runD, ↓imp_ft, ↓imp_tf, ↓imp_tt, ↓imp_ff, ↓imp_fn, ↓imp_tn, ↓imp_fy, ↓imp_ty, ↓reduceIte, Nat.reduceLT, Nat.reduceLeDiff, Nat.reduceAdd, Nat.reduceSub, Nat.reduceMul, Nat.reduceEqDiff, reduceCtorEq, Int.reduceToNat, Int.reduceEq, Int.reduceBEq, Int.reduceBNe, Int.reduceLT, Int.reduceLE, Int.reduceNeg, Int.reduceAdd, Int.reduceSub, Int.reduceMul, Int.reduceGE, Int.reduceGT, endO] | rw [dr_cons])
   repeat (with_reducible refine And.intro (by first | (simp only [maxLen]; omega) | omega | decide | (simp; done) | (simp [maxLen]; omega)) ?_)
   refine retI ht0 _ rfl (of_decide_eq_true rfl) (by simp [SV.okN, SC.okL, SC.okN, ok1L]) ?_
   simp (maxSteps := 2000000) only [go_sem, ↓condS, ↓exitS, ↓gateS, ↓runOp, ↓gateD, ↓runD, ↓imp_ft, ↓imp_tf, ↓imp_tt, ↓imp_ff, ↓imp_fn, ↓imp_tn, ↓imp_fy, ↓imp_ty, ↓reduceIte, Nat.reduceLT, Nat.reduceLeDiff, Nat.reduceAdd, Nat.reduceSub, Nat.reduceMul, Nat.reduceEqDiff, reduceCtorEq, Int.reduceToNat, Int.reduceEq, Int.reduceBEq, Int.reduceBNe, Int.reduceLT, Int.reduceLE, Int.reduceNeg, Int.reduceAdd, Int.reduceSub, Int.reduceMul, Int.reduceGE, Int.reduceGT, endO]
   exact retB5 (m := ⟨cl, sk, qu, se, ta⟩) _ _ _ _ _ (rdN_all eI_ok 10 _ rfl rfl) (rdN_all eI_ok 11 _ rfl rfl) (rdN_all eI_ok 12 _ rfl rfl) (rdN_all eI_ok 13 _ rfl rfl) (rdN_all eP_ok 14 _ rfl rfl) (rdT_ok _ _ _ _ _ (⟨cl, sk, qu, se, ta⟩, 6, 0))
 refine both (fun hop => ?_) (fun n51 => ?_)
 ·have hop : op = 51 := by simpa using hop
  subst hop
  refine both (fun hin => ?_) (fun hin => ?_)
  ·have hin : hasB se arg = true := by simpa using hin
   have hlt : pos se arg < se.length := by
    simp only [hasB, decide_eq_true_eq] at hin
    exact (List.getElem?_eq_some_iff.1 hin).1
   have hd : doM ⟨cl, sk, qu, se, ta⟩ 51 arg data = (⟨cl, sk, qu, delAt se (pos se arg), ta⟩, 5, 0) := by simp [doM, objOf, doSet, hin]
   rw [hd]
   repeat (with_reducible refine And.intro (by first | (simp only [maxLen]; omega) | omega | decide | (simp; done) | (simp [maxLen]; omega)) ?_)
   refine draw_vc (by kernel_rfl) (mkTab_ok _ _) (of_decide_eq_true rfl) (of_decide_eq_true rfl) ?_
   repeat (first | simp (maxSteps := 2000000) only [go_sem, ↓condS, ↓exitS, ↓gateS, ↓runOp, ↓gateD, ↓runD, ↓imp_ft, ↓imp_tf, ↓imp_tt, ↓imp_ff, ↓imp_fn, ↓imp_tn, ↓imp_fy, ↓imp_ty, ↓reduceIte, Nat.reduceLT, Nat.reduceLeDiff, Nat.reduceAdd, Nat.reduceSub, Nat.reduceMul, Nat.reduceEqDiff, reduceCtorEq, Int.reduceToNat, Int.reduceEq, Int.reduceBEq, Int.reduceBNe, Int.reduceLT, Int.reduceLE, Int.reduceNeg, Int.reduceAdd, Int.reduceSub, Int.reduceMul, Int.reduceGE, Int.reduceGT, endO, eI] | rw [dr_cons])
   rw [wr_succ (by omega)]
   repeat (with_reducible refine And.intro (by first | (simp only [maxLen]; omega) | omega | decide | with_reducible exact Or.inl trivial | with_reducible exact Or.inr trivial | with_reducible exact ⟨Or.inl trivial, Or.inr trivial⟩) ?_)
   refine ⟨fun hc => ?_, fun hc => ?_⟩
   ·have hc' : se.length = pos se arg + 1 := by omega
    repeat (with_reducible refine And.intro (by first | (simp only [maxLen]; omega) | omega | decide | (simp; done) | (simp [maxLen]; omega)) ?_)
    refine draw_vc (by kernel_rfl) (mkTab_ok _ _) (of_decide_eq_true rfl) (of_decide_eq_true rfl) ?_
    repeat (first | simp (maxSteps := 2000000) only [go_sem, ↓condS, ↓exitS, ↓gateS, ↓runOp, ↓gateD, ↓runD, ↓imp_ft, ↓imp_tf, ↓imp_tt, ↓imp_ff, ↓imp_fn, ↓imp_tn, ↓imp_fy, ↓imp_ty, ↓reduceIte, Nat.reduceLT, Nat.reduceLeDiff, Nat.reduceAdd, Nat.reduceSub, Nat.reduceMul, Nat.reduceEqDiff, reduceCtorEq, Int.reduceToNat, Int.reduceEq, Int.reduceBEq, Int.reduceBNe, Int.reduceLT, Int.reduceLE, Int.reduceNeg, Int.reduceAdd, Int.reduceSub, Int.reduceMul, Int.reduceGE, Int.reduceGT, endO, eI] | rw [dr_cons])
    repeat (with_reducible refine And.intro (by first | (simp only [maxLen]; omega) | omega | decide | (simp; done) | (simp [maxLen]; omega)) ?_)
    have hy : ∀ w', Calls Try.prog 104 #[.bool (hasB se arg)] w' (RetV w' (.agg #[.int .i64 5, .int .i64 0])) := fun w' => by
     have := yes_Z (hasB se arg) w'
     simpa [hin] using this
    refine dcallV (.agg [.v (.int .i64 5), .v (.int .i64 0)]) _ (fun E => rfl) (fun E a w' _ => hy w') ?_
    repeat (first | simp (maxSteps := 2000000) only [go_sem, ↓condS, ↓exitS, ↓gateS, ↓runOp, ↓gateD, ↓runD, ↓imp_ft, ↓imp_tf, ↓imp_tt, ↓imp_ff, ↓imp_fn, ↓imp_tn, ↓imp_fy, ↓imp_ty, ↓reduceIte, Nat.reduceLT, Nat.reduceLeDiff, Nat.reduceAdd, Nat.reduceSub, Nat.reduceMul, Nat.reduceEqDiff, reduceCtorEq, Int.reduceToNat, Int.reduceEq, Int.reduceBEq, Int.reduceBNe, Int.reduceLT, Int.reduceLE, Int.reduceNeg, Int.reduceAdd, Int.reduceSub, Int.reduceMul, Int.reduceGE, Int.reduceGT, endO] | rw [dr_cons])
    repeat (with_reducible refine And.intro (by first | (simp only [maxLen]; omega) | omega | decide | (simp; done) | (simp [maxLen]; omega)) ?_)
    refine retI ht0 _ rfl (of_decide_eq_true rfl) (by simp [SV.okN, SC.okL, SC.okN, ok1L]) ?_
    simp (maxSteps := 2000000) only [go_sem, ↓condS, ↓exitS, ↓gateS, ↓runOp, ↓gateD, ↓runD, ↓imp_ft, ↓imp_tf, ↓imp_tt, ↓imp_ff, ↓imp_fn, ↓imp_tn, ↓imp_fy, ↓imp_ty, ↓reduceIte, Nat.reduceLT, Nat.reduceLeDiff, Nat.reduceAdd, Nat.reduceSub, Nat.reduceMul, Nat.reduceEqDiff, reduceCtorEq, Int.reduceToNat, Int.reduceEq, Int.reduceBEq, Int.reduceBNe, Int.reduceLT, Int.reduceLE, Int.reduceNeg, Int.reduceAdd, Int.reduceSub, Int.reduceMul, Int.reduceGE, Int.reduceGT, endO]
    exact retB5 (m := ⟨cl, sk, qu, delAt se (pos se arg), ta⟩) _ _ _ _ _ (rdN_all eI_ok 10 _ rfl rfl) (rdN_all eI_ok 11 _ rfl rfl) (rdN_all eI_ok 12 _ rfl rfl) (rdN_sl eI_ok 21 _ 0 _ _ none rfl (by simp <;> omega) (by rw [delAt_len _ _ hlt]; omega) (fun q h => by cases h) (fun e he => by
     rw [Nat.zero_add]
     have := ats_del (enc := eI) (d := (0 : Int)) (l := se) (f0 := (arrOf eI 1 se 0).at_) (g := fun _ => []) hlt (fun e _ => rfl) (fun e he => by omega) e he
     exact this)) (rdN_all eP_ok 14 _ rfl rfl) (rdT_ok _ _ _ _ _ (⟨cl, sk, qu, delAt se (pos se arg), ta⟩, 5, 0))
   ·repeat (with_reducible refine And.intro (by first | (simp only [maxLen]; omega) | omega | decide | (simp; done) | (simp [maxLen]; omega)) ?_)
    refine draw_vc (by kernel_rfl) (mkTab_ok _ _) (of_decide_eq_true rfl) (of_decide_eq_true rfl) ?_
    repeat (first | simp (maxSteps := 2000000) only [go_sem, ↓condS, ↓exitS, ↓gateS, ↓runOp, ↓gateD, ↓runD, ↓imp_ft, ↓imp_tf, ↓imp_tt, ↓imp_ff, ↓imp_fn, ↓imp_tn, ↓imp_fy, ↓imp_ty, ↓reduceIte, Nat.reduceLT, Nat.reduceLeDiff, Nat.reduceAdd, Nat.reduceSub, Nat.reduceMul, Nat.reduceEqDiff, reduceCtorEq, Int.reduceToNat, Int.reduceEq, Int.reduceBEq, Int.reduceBNe, Int.reduceLT, Int.reduceLE, Int.reduceNeg, Int.reduceAdd, Int.reduceSub, Int.reduceMul, Int.reduceGE, Int.reduceGT, endO, eI] | rw [dr_cons])
    repeat (with_reducible refine And.intro (by first | (simp only [maxLen]; omega) | omega | decide | (simp; done) | (simp [maxLen]; omega)) ?_)
    have hy : ∀ w', Calls Try.prog 104 #[.bool (hasB se arg)] w' (RetV w' (.agg #[.int .i64 5, .int .i64 0])) := fun w' => by
     have := yes_Z (hasB se arg) w'
     simpa [hin] using this
    refine dcallV (.agg [.v (.int .i64 5), .v (.int .i64 0)]) _ (fun E => rfl) (fun E a w' _ => hy w') ?_
    repeat (first | simp (maxSteps := 2000000) only [go_sem, ↓condS, ↓exitS, ↓gateS, ↓runOp, ↓gateD, ↓runD, ↓imp_ft, ↓imp_tf, ↓imp_tt, ↓imp_ff, ↓imp_fn, ↓imp_tn, ↓imp_fy, ↓imp_ty, ↓reduceIte, Nat.reduceLT, Nat.reduceLeDiff, Nat.reduceAdd, Nat.reduceSub, Nat.reduceMul, Nat.reduceEqDiff, reduceCtorEq, Int.reduceToNat, Int.reduceEq, Int.reduceBEq, Int.reduceBNe, Int.reduceLT, Int.reduceLE, Int.reduceNeg, Int.reduceAdd, Int.reduceSub, Int.reduceMul, Int.reduceGE, Int.reduceGT, endO] | rw [dr_cons])
    repeat (with_reducible refine And.intro (by first | (simp only [maxLen]; omega) | omega | decide | (simp; done) | (simp [maxLen]; omega)) ?_)
    refine retI ht0 _ rfl (of_decide_eq_true rfl) (by simp [SV.okN, SC.okL, SC.okN, ok1L]) ?_
    simp (maxSteps := 2000000) only [go_sem, ↓condS, ↓exitS, ↓gateS, ↓runOp, ↓gateD, ↓runD, ↓imp_ft, ↓imp_tf, ↓imp_tt, ↓imp_ff, ↓imp_fn, ↓imp_tn, ↓imp_fy, ↓imp_ty, ↓reduceIte, Nat.reduceLT, Nat.reduceLeDiff, Nat.reduceAdd, Nat.reduceSub, Nat.reduceMul, Nat.reduceEqDiff, reduceCtorEq, Int.reduceToNat, Int.reduceEq, Int.reduceBEq, Int.reduceBNe, Int.reduceLT, Int.reduceLE, Int.reduceNeg, Int.reduceAdd, Int.reduceSub, Int.reduceMul, Int.reduceGE, Int.reduceGT, endO]
    exact retB5 (m := ⟨cl, sk, qu, delAt se (pos se arg), ta⟩) _ _ _ _ _ (rdN_all eI_ok 10 _ rfl rfl) (rdN_all eI_ok 11 _ rfl rfl) (rdN_all eI_ok 12 _ rfl rfl) (rdN_sl eI_ok 20 _ 0 _ _ none rfl (by simp <;> omega) (by rw [delAt_len _ _ hlt]; omega) (fun q h => by cases h) (fun e he => by
     rw [Nat.zero_add]
     have := ats_del (enc := eI) (d := (0 : Int)) (l := se) (f0 := (arrOf eI 1 se 0).at_) (g := fun e => (arrOf eI 1 se 0).at_ (pos se arg + 1 + e)) hlt (fun e _ => rfl) (fun e _ => rfl) e he
     exact this)) (rdN_all eP_ok 14 _ rfl rfl) (rdT_ok _ _ _ _ _ (⟨cl, sk, qu, delAt se (pos se arg), ta⟩, 5, 0))
  ·have hin : hasB se arg = false := by simpa using hin
   have hd : doM ⟨cl, sk, qu, se, ta⟩ 51 arg data = (⟨cl, sk, qu, se, ta⟩, 6, 0) := by simp [doM, objOf, doSet, hin]
   rw [hd]
   repeat (with_reducible refine And.intro (by first | (simp only [maxLen]; omega) | omega | decide | (simp; done) | (simp [maxLen]; omega)) ?_)
   refine draw_vc (by kernel_rfl) (mkTab_ok _ _) (of_decide_eq_true rfl) (of_decide_eq_true rfl) ?_
   repeat (first | simp (maxSteps := 2000000) only [go_sem, ↓condS, ↓exitS, ↓gateS, ↓runOp, ↓gateD, ↓runD, ↓imp_ft, ↓imp_tf, ↓imp_tt, ↓imp_ff, ↓imp_fn, ↓imp_tn, ↓imp_fy, ↓imp_ty, ↓reduceIte, Nat.reduceLT, Nat.reduceLeDiff, Nat.reduceAdd, Nat.reduceSub, Nat.reduceMul, Nat.reduceEqDiff, reduceCtorEq, Int.reduceToNat, Int.reduceEq, Int.reduceBEq, Int.reduceBNe, Int.reduceLT, Int.reduceLE, Int.reduceNeg, Int.reduceAdd, Int.reduceSub, Int.reduceMul, Int.reduceGE, Int.reduceGT, endO, eI] | rw [dr_cons])
   repeat (with_reducible refine And.intro (by first | (simp only [maxLen]; omega) | omega | decide | (simp; done) | (simp [maxLen]; omega)) ?_)
   have hy : ∀ w', Calls Try.prog 104 #[.bool (hasB se arg)] w' (RetV w' (.agg #[.int .i64 6, .int .i64 0])) := fun w' => by
    have := yes_Z (hasB se arg) w'
    simpa [hin] using this
   refine dcallV (.agg [.v (.int .i64 6), .v (.int .i64 0)]) _ (fun E => rfl) (fun E a w' _ => hy w') ?_
   repeat (first | simp (maxSteps := 2000000) only [go_sem, ↓condS, ↓exitS, ↓gateS, ↓runOp, ↓gateD, ↓runD, ↓imp_ft, ↓imp_tf, ↓imp_tt, ↓imp_ff, ↓imp_fn, ↓imp_tn, ↓imp_fy, ↓imp_ty, ↓reduceIte, Nat.reduceLT, Nat.reduceLeDiff, Nat.reduceAdd, Nat.reduceSub, Nat.reduceMul, Nat.reduceEqDiff, reduceCtorEq, Int.reduceToNat, Int.reduceEq, Int.reduceBEq, Int.reduceBNe, Int.reduceLT, Int.reduceLE, Int.reduceNeg, Int.reduceAdd, Int.reduceSub, Int.reduceMul, Int.reduceGE, Int.reduceGT, endO] | rw [dr_cons])
   repeat (with_reducible refine And.intro (by first | (simp only [maxLen]; omega) | omega | decide | (simp; done) | (simp [maxLen]; omega)) ?_)
   refine retI ht0 _ rfl (of_decide_eq_true rfl) (by simp [SV.okN, SC.okL, SC.okN, ok1L]) ?_
   simp (maxSteps := 2000000) only [go_sem, ↓condS, ↓exitS, ↓gateS, ↓runOp, ↓gateD, ↓runD, ↓imp_ft, ↓imp_tf, ↓imp_tt, ↓imp_ff, ↓imp_fn, ↓imp_tn, ↓imp_fy, ↓imp_ty, ↓reduceIte, Nat.reduceLT, Nat.reduceLeDiff, Nat.reduceAdd, Nat.reduceSub, Nat.reduceMul, Nat.reduceEqDiff, reduceCtorEq, Int.reduceToNat, Int.reduceEq, Int.reduceBEq, Int.reduceBNe, Int.reduceLT, Int.reduceLE, Int.reduceNeg, Int.reduceAdd, Int.reduceSub, Int.reduceMul, Int.reduceGE, Int.reduceGT, endO]
   exact retB5 (m := ⟨cl, sk, qu, se, ta⟩) _ _ _ _ _ (rdN_all eI_ok 10 _ rfl rfl) (rdN_all eI_ok 11 _ rfl rfl) (rdN_all eI_ok 12 _ rfl rfl) (rdN_all eI_ok 13 _ rfl rfl) (rdN_all eP_ok 14 _ rfl rfl) (rdT_ok _ _ _ _ _ (⟨cl, sk, qu, se, ta⟩, 6, 0))
 refine both (fun hop => ?_) (fun n52 => ?_)
 ·have hop : op = 52 := by simpa using hop
  subst hop
  by_cases hin : hasB se arg = true
  ·have hd : doM ⟨cl, sk, qu, se, ta⟩ 52 arg data = (⟨cl, sk, qu, se, ta⟩, 5, 0) := by simp [doM, objOf, doSet, hin]
   rw [hd]
   repeat (with_reducible refine And.intro (by first | (simp only [maxLen]; omega) | omega | decide | (simp; done) | (simp [maxLen]; omega)) ?_)
   refine draw_vc (by kernel_rfl) (mkTab_ok _ _) (of_decide_eq_true rfl) (of_decide_eq_true rfl) ?_
   repeat (first | simp (maxSteps := 2000000) only [go_sem, ↓condS, ↓exitS, ↓gateS, ↓runOp, ↓gateD, ↓runD, ↓imp_ft, ↓imp_tf, ↓imp_tt, ↓imp_ff, ↓imp_fn, ↓imp_tn, ↓imp_fy, ↓imp_ty, ↓reduceIte, Nat.reduceLT, Nat.reduceLeDiff, Nat.reduceAdd, Nat.reduceSub, Nat.reduceMul, Nat.reduceEqDiff, reduceCtorEq, Int.reduceToNat, Int.reduceEq, Int.reduceBEq, Int.reduceBNe, Int.reduceLT, Int.reduceLE, Int.reduceNeg, Int.reduceAdd, Int.reduceSub, Int.reduceMul, Int.reduceGE, Int.reduceGT, endO, eI] | rw [dr_cons])
   repeat (with_reducible refine And.intro (by first | (simp only [maxLen]; omega) | omega | decide | (simp; done) | (simp [maxLen]; omega)) ?_)
   have hy : ∀ w', Calls Try.prog 104 #[.bool (hasB se arg)] w' (RetV w' (.agg #[.int .i64 5, .int .i64 0])) := fun w' => by
    have := yes_Z (hasB se arg) w'
    simpa [hin] using this
   refine dcallV (.agg [.v (.int .i64 5), .v (.int .i64 0)]) _ (fun E => rfl) (fun E a w' _ => hy w') ?_
   repeat (first | simp (maxSteps := 2000000) only [go_sem, ↓condS, ↓exitS, ↓gateS, ↓runOp, ↓gateD, ↓runD, ↓imp_ft, ↓imp_tf, ↓imp_tt, ↓imp_ff, ↓imp_fn, ↓imp_tn, ↓imp_fy, ↓imp_ty, ↓reduceIte, Nat.reduceLT, Nat.reduceLeDiff, Nat.reduceAdd, Nat.reduceSub, Nat.reduceMul, Nat.reduceEqDiff, reduceCtorEq, Int.reduceToNat, Int.reduceEq, Int.reduceBEq, Int.reduceBNe, Int.reduceLT, Int.reduceLE, Int.reduceNeg, Int.reduceAdd, Int.reduceSub, Int.reduceMul, Int.reduceGE, Int.reduceGT, endO] | rw [dr_cons])
   repeat (with_reducible refine And.intro (by first | (simp only [maxLen]; omega) | omega | decide | (simp; done) | (simp [maxLen]; omega)) ?_)
   refine retI ht0 _ rfl (of_decide_eq_true rfl) (by simp [SV.okN, SC.okL, SC.okN, ok1L]) ?_
   simp (maxSteps := 2000000) only [go_sem, ↓condS, ↓exitS, ↓gateS, ↓runOp, ↓gateD, ↓runD, ↓imp_ft, ↓imp_tf, ↓imp_tt, ↓imp_ff, ↓imp_fn, ↓imp_tn, ↓imp_fy, ↓imp_ty, ↓reduceIte, Nat.reduceLT, Nat.reduceLeDiff, Nat.reduceAdd, Nat.reduceSub, Nat.reduceMul, Nat.reduceEqDiff, reduceCtorEq, Int.reduceToNat, Int.reduceEq, Int.reduceBEq, Int.reduceBNe, Int.reduceLT, Int.reduceLE, Int.reduceNeg, Int.reduceAdd, Int.reduceSub, Int.reduceMul, Int.reduceGE, Int.reduceGT, endO]
   exact retB5 (m := ⟨cl, sk, qu, se, ta⟩) _ _ _ _ _ (rdN_all eI_ok 10 _ rfl rfl) (rdN_all eI_ok 11 _ rfl rfl) (rdN_all eI_ok 12 _ rfl rfl) (rdN_all eI_ok 13 _ rfl rfl) (rdN_all eP_ok 14 _ rfl rfl) (rdT_ok _ _ _ _ _ (⟨cl, sk, qu, se, ta⟩, 5, 0))
  ·have hin : hasB se arg = false := by simpa using hin
   have hd : doM ⟨cl, sk, qu, se, ta⟩ 52 arg data = (⟨cl, sk, qu, se, ta⟩, 6, 0) := by simp [doM, objOf, doSet, hin]
   rw [hd]
   repeat (with_reducible refine And.intro (by first | (simp only [maxLen]; omega) | omega | decide | (simp; done) | (simp [maxLen]; omega)) ?_)
   refine draw_vc (by kernel_rfl) (mkTab_ok _ _) (of_decide_eq_true rfl) (of_decide_eq_true rfl) ?_
   repeat (first | simp (maxSteps := 2000000) only [go_sem, ↓condS, ↓exitS, ↓gateS, ↓runOp, ↓gateD, ↓runD, ↓imp_ft, ↓imp_tf, ↓imp_tt, ↓imp_ff, ↓imp_fn, ↓imp_tn, ↓imp_fy, ↓imp_ty, ↓reduceIte, Nat.reduceLT, Nat.reduceLeDiff, Nat.reduceAdd, Nat.reduceSub, Nat.reduceMul, Nat.reduceEqDiff, reduceCtorEq, Int.reduceToNat, Int.reduceEq, Int.reduceBEq, Int.reduceBNe, Int.reduceLT, Int.reduceLE, Int.reduceNeg, Int.reduceAdd, Int.reduceSub, Int.reduceMul, Int.reduceGE, Int.reduceGT, endO, eI] | rw [dr_cons])
   repeat (with_reducible refine And.intro (by first | (simp only [maxLen]; omega) | omega | decide | (simp; done) | (simp [maxLen]; omega)) ?_)
   have hy : ∀ w', Calls Try.prog 104 #[.bool (hasB se arg)] w' (RetV w' (.agg #[.int .i64 6, .int .i64 0])) := fun w' => by
    have := yes_Z (hasB se arg) w'
    simpa [hin] using this
   refine dcallV (.agg [.v (.int .i64 6), .v (.int .i64 0)]) _ (fun E => rfl) (fun E a w' _ => hy w') ?_
   repeat (first | simp (maxSteps := 2000000) only [go_sem, ↓condS, ↓exitS, ↓gateS, ↓runOp, ↓gateD, ↓runD, ↓imp_ft, ↓imp_tf, ↓imp_tt, ↓imp_ff, ↓imp_fn, ↓imp_tn, ↓imp_fy, ↓imp_ty, ↓reduceIte, Nat.reduceLT, Nat.reduceLeDiff, Nat.reduceAdd, Nat.reduceSub, Nat.reduceMul, Nat.reduceEqDiff, reduceCtorEq, Int.reduceToNat, Int.reduceEq, Int.reduceBEq, Int.reduceBNe, Int.reduceLT, Int.reduceLE, Int.reduceNeg, Int.reduceAdd, Int.reduceSub, Int.reduceMul, Int.reduceGE, Int.reduceGT, endO] | rw [dr_cons])
   repeat (with_reducible refine And.intro (by first | (simp only [maxLen]; omega) | omega | decide | (simp; done) | (simp [maxLen]; omega)) ?_)
   refine retI ht0 _ rfl (of_decide_eq_true rfl) (by simp [SV.okN, SC.okL, SC.okN, ok1L]) ?_
   simp (maxSteps := 2000000) only [go_sem, ↓condS, ↓exitS, ↓gateS, ↓runOp, ↓gateD, ↓runD, ↓imp_ft, ↓imp_tf, ↓imp_tt, ↓imp_ff, ↓imp_fn, ↓imp_tn, ↓imp_fy, ↓imp_ty, ↓reduceIte, Nat.reduceLT, Nat.reduceLeDiff, Nat.reduceAdd, Nat.reduceSub, Nat.reduceMul, Nat.reduceEqDiff, reduceCtorEq, Int.reduceToNat, Int.reduceEq, Int.reduceBEq, Int.reduceBNe, Int.reduceLT, Int.reduceLE, Int.reduceNeg, Int.reduceAdd, Int.reduceSub, Int.reduceMul, Int.reduceGE, Int.reduceGT, endO]
   exact retB5 (m := ⟨cl, sk, qu, se, ta⟩) _ _ _ _ _ (rdN_all eI_ok 10 _ rfl rfl) (rdN_all eI_ok 11 _ rfl rfl) (rdN_all eI_ok 12 _ rfl rfl) (rdN_all eI_ok 13 _ rfl rfl) (rdN_all eP_ok 14 _ rfl rfl) (rdT_ok _ _ _ _ _ (⟨cl, sk, qu, se, ta⟩, 6, 0))
 refine both (fun hop => ?_) (fun n60 => ?_)
 ·have hop : op = 60 := by simpa using hop
  subst hop
  refine both (fun hin => ?_) (fun hin => ?_)
  ·have hin : hasB (keys ta) arg = false := by simpa using hin
   have hd : doM ⟨cl, sk, qu, se, ta⟩ 60 arg data = (⟨cl, sk, qu, se, insAt ta (pos (keys ta) arg) (arg, data)⟩, 5, 0) := by simp [doM, objOf, doTable, hin]
   rw [hd]
   repeat (with_reducible refine And.intro (by first | (simp only [maxLen]; omega) | omega | decide | (simp; done) | (simp [maxLen]; omega)) ?_)
   refine draw_vc (by kernel_rfl) (mkTab_ok _ _) (of_decide_eq_true rfl) (of_decide_eq_true rfl) ?_
   repeat (first | simp (maxSteps := 2000000) only [go_sem, ↓condS, ↓exitS, ↓gateS, ↓runOp, ↓gateD, ↓runD, ↓imp_ft, ↓imp_tf, ↓imp_tt, ↓imp_ff, ↓imp_fn, ↓imp_tn, ↓imp_fy, ↓imp_ty, ↓reduceIte, Nat.reduceLT, Nat.reduceLeDiff, Nat.reduceAdd, Nat.reduceSub, Nat.reduceMul, Nat.reduceEqDiff, reduceCtorEq, Int.reduceToNat, Int.reduceEq, Int.reduceBEq, Int.reduceBNe, Int.reduceLT, Int.reduceLE, Int.reduceNeg, Int.reduceAdd, Int.reduceSub, Int.reduceMul, Int.reduceGE, Int.reduceGT, endO, eP] | rw [dr_cons])
   repeat (with_reducible refine And.intro (by first | (simp only [maxLen]; omega) | omega | decide | with_reducible exact Or.inl trivial | with_reducible exact Or.inr trivial | with_reducible exact ⟨Or.inl trivial, Or.inr trivial⟩) ?_)
   refine ⟨fun hc => ?_, fun hc => ?_⟩
   ·have hc' : ta.length = pos (keys ta) arg := by omega
    repeat (with_reducible refine And.intro (by first | (simp only [maxLen]; omega) | omega | decide | (simp; done) | (simp [maxLen]; omega)) ?_)
    refine draw_vc (by kernel_rfl) (mkTab_ok _ _) (of_decide_eq_true rfl) (of_decide_eq_true rfl) ?_
    repeat (first | simp (maxSteps := 2000000) only [go_sem, ↓condS, ↓exitS, ↓gateS, ↓runOp, ↓gateD, ↓runD, ↓imp_ft, ↓imp_tf, ↓imp_tt, ↓imp_ff, ↓imp_fn, ↓imp_tn, ↓imp_fy, ↓imp_ty, ↓reduceIte, Nat.reduceLT, Nat.reduceLeDiff, Nat.reduceAdd, Nat.reduceSub, Nat.reduceMul, Nat.reduceEqDiff, reduceCtorEq, Int.reduceToNat, Int.reduceEq, Int.reduceBEq, Int.reduceBNe, Int.reduceLT, Int.reduceLE, Int.reduceNeg, Int.reduceAdd, Int.reduceSub, Int.reduceMul, Int.reduceGE, Int.reduceGT, endO, eP] | rw [dr_cons])
    repeat (with_reducible refine And.intro (by first | (simp only [maxLen]; omega) | omega | decide | (simp; done) | (simp [maxLen]; omega)) ?_)
    have hy : ∀ w', Calls Try.prog 104 #[.bool (!hasB (keys ta) arg)] w' (RetV w' (.agg #[.int .i64 5, .int .i64 0])) := fun w' => by
     have := yes_Z (!hasB (keys ta) arg) w'
     simpa [hin] using this
    refine dcallV (.agg [.v (.int .i64 5), .v (.int .i64 0)]) _ (fun E => rfl) (fun E a w' _ => hy w') ?_
    repeat (first | simp (maxSteps := 2000000) only [go_sem, ↓condS, ↓exitS, ↓gateS, ↓runOp, ↓gateD, ↓runD, ↓imp_ft, ↓imp_tf, ↓imp_tt, ↓imp_ff, ↓imp_fn, ↓imp_tn, ↓imp_fy, ↓imp_ty, ↓reduceIte, Nat.reduceLT, Nat.reduceLeDiff, Nat.reduceAdd, Nat.reduceSub, Nat.reduceMul, Nat.reduceEqDiff, reduceCtorEq, Int.reduceToNat, Int.reduceEq, Int.reduceBEq, Int.reduceBNe, Int.reduceLT, Int.reduceLE, Int.reduceNeg, Int.reduceAdd, Int.reduceSub, Int.reduceMul, Int.reduceGE, Int.reduceGT, endO] | rw [dr_cons])
    repeat (with_reducible refine And.intro (by first | (simp only [maxLen]; omega) | omega | decide | (simp; done) | (simp [maxLen]; omega)) ?_)
    refine retI ht0 _ rfl (of_decide_eq_true rfl) (by simp [SV.okN, SC.okL, SC.okN, ok1L]) ?_
    simp (maxSteps := 2000000) only [go_sem, ↓condS, ↓exitS, ↓gateS, ↓runOp, ↓gateD, ↓runD, ↓imp_ft, ↓imp_tf, ↓imp_tt, ↓imp_ff, ↓imp_fn, ↓imp_tn, ↓imp_fy, ↓imp_ty, ↓reduceIte, Nat.reduceLT, Nat.reduceLeDiff, Nat.reduceAdd, Nat.reduceSub, Nat.reduceMul, Nat.reduceEqDiff, reduceCtorEq, Int.reduceToNat, Int.reduceEq, Int.reduceBEq, Int.reduceBNe, Int.reduceLT, Int.reduceLE, Int.reduceNeg, Int.reduceAdd, Int.reduceSub, Int.reduceMul, Int.reduceGE, Int.reduceGT, endO]
    exact retB5 (m := ⟨cl, sk, qu, se, insAt ta (pos (keys ta) arg) (arg, data)⟩) _ _ _ _ _ (rdN_all eI_ok 10 _ rfl rfl) (rdN_all eI_ok 11 _ rfl rfl) (rdN_all eI_ok 12 _ rfl rfl) (rdN_all eI_ok 13 _ rfl rfl) (rdN_sl eP_ok 23 _ 0 _ _ none rfl (by simp <;> omega) (by rw [insAt_len _ _ _ hpt]; omega) (fun q h => by cases h) (fun e he => by
     rw [Nat.zero_add]
     have := ats_ins (enc := eP) (d := ((0, 0) : Int × Int)) (x := (arg, data)) (f0 := (arrOf eP 2 ta (0, 0)).at_) (f1 := segs 2 [.v (.int .i64 arg), .v (.int .i64 data)]) (g := fun _ => []) hpt (fun e _ => rfl) rfl (fun e he => by omega) e he
     exact this)) (rdT_ok _ _ _ _ _ (⟨cl, sk, qu, se, insAt ta (pos (keys ta) arg) (arg, data)⟩, 5, 0))
   ·repeat (with_reducible refine And.intro (by first | (simp only [maxLen]; omega) | omega | decide | (simp; done) | (simp [maxLen]; omega)) ?_)
    refine draw_vc (by kernel_rfl) (mkTab_ok _ _) (of_decide_eq_true rfl) (of_decide_eq_true rfl) ?_
    repeat (first | simp (maxSteps := 2000000) only [go_sem, ↓condS, ↓exitS, ↓gateS, ↓runOp, ↓gateD, ↓runD, ↓imp_ft, ↓imp_tf, ↓imp_tt, ↓imp_ff, ↓imp_fn, ↓imp_tn, ↓imp_fy, ↓imp_ty, ↓reduceIte, Nat.reduceLT, Nat.reduceLeDiff, Nat.reduceAdd, Nat.reduceSub, Nat.reduceMul, Nat.reduceEqDiff, reduceCtorEq, Int.reduceToNat, Int.reduceEq, Int.reduceBEq, Int.reduceBNe, Int.reduceLT, Int.reduceLE, Int.reduceNeg, Int.reduceAdd, Int.reduceSub, Int.reduceMul, Int.reduceGE, Int.reduceGT, endO, eP] | rw [dr_cons])
    repeat (with_reducible refine And.intro (by first | (simp only [maxLen]; omega) | omega | decide | (simp; done) | (simp [maxLen]; omega)) ?_)
    have hy : ∀ w', Calls Try.prog 104 #[.bool (!hasB (keys ta) arg)] w' (RetV w' (.agg #[.int .i64 5, .int .i64 0])) := fun w' => by
     have := yes_Z (!hasB (keys ta) arg) w'
     simpa [hin] using this
    refine dcallV (.agg [.v (.int .i64 5), .v (.int .i64 0)]) _ (fun E => rfl) (fun E a w' _ => hy w') ?_
    repeat (first | simp (maxSteps := 2000000) only [go_sem, ↓condS, ↓exitS, ↓gateS, ↓runOp, ↓gateD, ↓runD, ↓imp_ft, ↓imp_tf, ↓imp_tt, ↓imp_ff, ↓imp_fn, ↓imp_tn, ↓imp_fy, ↓imp_ty, ↓reduceIte, Nat.reduceLT, Nat.reduceLeDiff, Nat.reduceAdd, Nat.reduceSub, Nat.reduceMul, Nat.reduceEqDiff, reduceCtorEq, Int.reduceToNat, Int.reduceEq, Int.reduceBEq, Int.reduceBNe, Int.reduceLT, Int.reduceLE, Int.reduceNeg, Int.reduceAdd, Int.reduceSub, Int.reduceMul, Int.reduceGE, Int.reduceGT, endO] | rw [dr_cons])
    repeat (with_reducible refine And.intro (by first | (simp only [maxLen]; omega) | omega | decide | (simp; done) | (simp [maxLen]; omega)) ?_)
    refine retI ht0 _ rfl (of_decide_eq_true rfl) (by simp [SV.okN, SC.okL, SC.okN, ok1L]) ?_
    simp (maxSteps := 2000000) only [go_sem, ↓condS, ↓exitS, ↓gateS, ↓runOp, ↓gateD, ↓runD, ↓imp_ft, ↓imp_tf, ↓imp_tt, ↓imp_ff, ↓imp_fn, ↓imp_tn, ↓imp_fy, ↓imp_ty, ↓reduceIte, Nat.reduceLT, Nat.reduceLeDiff, Nat.reduceAdd, Nat.reduceSub, Nat.reduceMul, Nat.reduceEqDiff, reduceCtorEq, Int.reduceToNat, Int.reduceEq, Int.reduceBEq, Int.reduceBNe, Int.reduceLT, Int.reduceLE, Int.reduceNeg, Int.reduceAdd, Int.reduceSub, Int.reduceMul, Int.reduceGE, Int.reduceGT, endO]
    exact retB5 (m := ⟨cl, sk, qu, se, insAt ta (pos (keys ta) arg) (arg, data)⟩) _ _ _ _ _ (rdN_all eI_ok 10 _ rfl rfl) (rdN_all eI_ok 11 _ rfl rfl) (rdN_all eI_ok 12 _ rfl rfl) (rdN_all eI_ok 13 _ rfl rfl) (rdN_sl eP_ok 22 _ 0 _ _ none rfl (by simp <;> omega) (by rw [insAt_len _ _ _ hpt]; omega) (fun q h => by cases h) (fun e he => by
     rw [Nat.zero_add]
     have := ats_ins (enc := eP) (d := ((0, 0) : Int × Int)) (x := (arg, data)) (f0 := (arrOf eP 2 ta (0, 0)).at_) (f1 := segs 2 [.v (.int .i64 arg), .v (.int .i64 data)]) (g := fun e => (arrOf eP 2 ta (0, 0)).at_ (pos (keys ta) arg + e)) hpt (fun e _ => rfl) rfl (fun e _ => rfl) e he
     exact this)) (rdT_ok _ _ _ _ _ (⟨cl, sk, qu, se, insAt ta (pos (keys ta) arg) (arg, data)⟩, 5, 0))
  ·have hin : hasB (keys ta) arg = true := by simpa using hin
   have hd : doM ⟨cl, sk, qu, se, ta⟩ 60 arg data = (⟨cl, sk, qu, se, ta⟩, 6, 0) := by simp [doM, objOf, doTable, hin]
   rw [hd]
   repeat (with_reducible refine And.intro (by first | (simp only [maxLen]; omega) | omega | decide | (simp; done) | (simp [maxLen]; omega)) ?_)
   refine draw_vc (by kernel_rfl) (mkTab_ok _ _) (of_decide_eq_true rfl) (of_decide_eq_true rfl) ?_
   repeat (first | simp (maxSteps := 2000000) only [go_sem, ↓condS, ↓exitS, ↓gateS, ↓runOp, ↓gateD, ↓runD, ↓imp_ft, ↓imp_tf, ↓imp_tt, ↓imp_ff, ↓imp_fn, ↓imp_tn, ↓imp_fy, ↓imp_ty, ↓reduceIte, Nat.reduceLT, Nat.reduceLeDiff, Nat.reduceAdd, Nat.reduceSub, Nat.reduceMul, Nat.reduceEqDiff, reduceCtorEq, Int.reduceToNat, Int.reduceEq, Int.reduceBEq, Int.reduceBNe, Int.reduceLT, Int.reduceLE, Int.reduceNeg, Int.reduceAdd, Int.reduceSub, Int.reduceMul, Int.reduceGE, Int.reduceGT, endO, eI] | rw [dr_cons])
   repeat (with_reducible refine And.intro (by first | (simp only [maxLen]; omega) | omega | decide | (simp; done) | (simp [maxLen]; omega)) ?_)
   have hy : ∀ w', Calls Try.prog 104 #[.bool (!hasB (keys ta) arg)] w' (RetV w' (.agg #[.int .i64 6, .int .i64 0])) := fun w' => by
    have := yes_Z (!hasB (keys ta) arg) w'
    simpa [hin] using this
   refine dcallV (.agg [.v (.int .i64 6), .v (.int .i64 0)]) _ (fun E => rfl) (fun E a w' _ => hy w') ?_
   repeat (first | simp (maxSteps := 2000000) only [go_sem, ↓condS, ↓exitS, ↓gateS, ↓runOp, ↓gateD, ↓runD, ↓imp_ft, ↓imp_tf, ↓imp_tt, ↓imp_ff, ↓imp_fn, ↓imp_tn, ↓imp_fy, ↓imp_ty, ↓reduceIte, Nat.reduceLT, Nat.reduceLeDiff, Nat.reduceAdd, Nat.reduceSub, Nat.reduceMul, Nat.reduceEqDiff, reduceCtorEq, Int.reduceToNat, Int.reduceEq, Int.reduceBEq, Int.reduceBNe, Int.reduceLT, Int.reduceLE, Int.reduceNeg, Int.reduceAdd, Int.reduceSub, Int.reduceMul, Int.reduceGE, Int.reduceGT, endO] | rw [dr_cons])
   repeat (with_reducible refine And.intro (by first | (simp only [maxLen]; omega) | omega | decide | (simp; done) | (simp [maxLen]; omega)) ?_)
   refine retI ht0 _ rfl (of_decide_eq_true rfl) (by simp [SV.okN, SC.okL, SC.okN, ok1L]) ?_
   simp (maxSteps := 2000000) only [go_sem, ↓condS, ↓exitS, ↓gateS, ↓runOp, ↓gateD, ↓runD, ↓imp_ft, ↓imp_tf, ↓imp_tt, ↓imp_ff, ↓imp_fn, ↓imp_tn, ↓imp_fy, ↓imp_ty, ↓reduceIte, Nat.reduceLT, Nat.reduceLeDiff, Nat.reduceAdd, Nat.reduceSub, Nat.reduceMul, Nat.reduceEqDiff, reduceCtorEq, Int.reduceToNat, Int.reduceEq, Int.reduceBEq, Int.reduceBNe, Int.reduceLT, Int.reduceLE, Int.reduceNeg, Int.reduceAdd, Int.reduceSub, Int.reduceMul, Int.reduceGE, Int.reduceGT, endO]
   exact retB5 (m := ⟨cl, sk, qu, se, ta⟩) _ _ _ _ _ (rdN_all eI_ok 10 _ rfl rfl) (rdN_all eI_ok 11 _ rfl rfl) (rdN_all eI_ok 12 _ rfl rfl) (rdN_all eI_ok 13 _ rfl rfl) (rdN_all eP_ok 14 _ rfl rfl) (rdT_ok _ _ _ _ _ (⟨cl, sk, qu, se, ta⟩, 6, 0))
 have hop : op = 61 ∨ op = 62 := by
  simp only [objOf] at ho
  simp only [b_decR, b_decL, bt_ite, bf_ite, bt_dec, bf_dec, bt_int, bf_int, bt_nint, bf_nint, bt_bool, bf_bool, bt_nbool, bf_nbool, bt_not, bf_not, bt_and, bf_and, bt_or, bf_or, Bool.false_eq_true, Bool.true_eq_false, Bool.not_eq_true, Bool.not_eq_false, reduceCtorEq, false_iff, true_iff, iff_false, iff_true, and_true, true_and, and_false, false_and, or_true, true_or, or_false, false_or, not_true_eq_false, not_false_eq_true, ne_eq] at n22 n23 n30 n31 n40 n41 n50 n51 n52 n60
  omega
 refine both (fun hin => ?_) (fun hin => ?_)
 ·have hin : hasB (keys ta) arg = false := by simpa using hin
  have hd : doM ⟨cl, sk, qu, se, ta⟩ op arg data = (⟨cl, sk, qu, se, ta⟩, 6, 0) := by
   have hno : ∀ p, ta[pos (keys ta) arg]? = some p → p.1 ≠ arg := fun p hp e => by
    simp only [hasB, decide_eq_false_iff_not, keys, List.getElem?_map] at hin
    apply hin
    have hp' : ta[pos (ta.map (·.1)) arg]? = some p := hp
    rw [hp', ← e]; rfl
   rcases hop with rfl | rfl <;> simp only [doM, objOf, doTable] <;> cases hq : ta[pos (keys ta) arg]? with
    | none => simp [hq]
    | some p => simp [hq, hno p hq]
  rw [hd]
  repeat (with_reducible refine And.intro (by first | (simp only [maxLen]; omega) | omega | decide | (simp; done) | (simp [maxLen]; omega)) ?_)
  refine draw_vc (by kernel_rfl) (mkTab_ok _ _) (of_decide_eq_true rfl) (of_decide_eq_true rfl) ?_
  repeat (first | simp (maxSteps := 2000000) only [go_sem, ↓condS, ↓exitS, ↓gateS, ↓runOp, ↓gateD, ↓runD, ↓imp_ft, ↓imp_tf, ↓imp_tt, ↓imp_ff, ↓imp_fn, ↓imp_tn, ↓imp_fy, ↓imp_ty, ↓reduceIte, Nat.reduceLT, Nat.reduceLeDiff, Nat.reduceAdd, Nat.reduceSub, Nat.reduceMul, Nat.reduceEqDiff, reduceCtorEq, Int.reduceToNat, Int.reduceEq, Int.reduceBEq, Int.reduceBNe, Int.reduceLT, Int.reduceLE, Int.reduceNeg, Int.reduceAdd, Int.reduceSub, Int.reduceMul, Int.reduceGE, Int.reduceGT, endO, eP] | rw [dr_cons])
  repeat (with_reducible refine And.intro (by first | (simp only [maxLen]; omega) | omega | decide | (simp; done) | (simp [maxLen]; omega)) ?_)
  refine dcallV (.agg [.v (.int .i64 6), .v (.int .i64 0)]) _ (fun E => rfl) (fun E a w' _ => kind_Z 6 w') ?_
  repeat (first | simp (maxSteps := 2000000) only [go_sem, ↓condS, ↓exitS, ↓gateS, ↓runOp, ↓gateD, ↓runD, ↓imp_ft, ↓imp_tf, ↓imp_tt, ↓imp_ff, ↓imp_fn, ↓imp_tn, ↓imp_fy, ↓imp_ty, ↓reduceIte, Nat.reduceLT, Nat.reduceLeDiff, Nat.reduceAdd, Nat.reduceSub, Nat.reduceMul, Nat.reduceEqDiff, reduceCtorEq, Int.reduceToNat, Int.reduceEq, Int.reduceBEq, Int.reduceBNe, Int.reduceLT, Int.reduceLE, Int.reduceNeg, Int.reduceAdd, Int.reduceSub, Int.reduceMul, Int.reduceGE, Int.reduceGT, endO] | rw [dr_cons])
  repeat (with_reducible refine And.intro (by first | (simp only [maxLen]; omega) | omega | decide | (simp; done) | (simp [maxLen]; omega)) ?_)
  refine retI ht0 _ rfl (of_decide_eq_true rfl) (by simp [SV.okN, SC.okL, SC.okN, ok1L]) ?_
  simp (maxSteps := 2000000) only [go_sem, ↓condS, ↓exitS, ↓gateS, ↓runOp, ↓gateD, ↓runD, ↓imp_ft, ↓imp_tf, ↓imp_tt, ↓imp_ff, ↓imp_fn, ↓imp_tn, ↓imp_fy, ↓imp_ty, ↓reduceIte, Nat.reduceLT, Nat.reduceLeDiff, Nat.reduceAdd, Nat.reduceSub, Nat.reduceMul, Nat.reduceEqDiff, reduceCtorEq, Int.reduceToNat, Int.reduceEq, Int.reduceBEq, Int.reduceBNe, Int.reduceLT, Int.reduceLE, Int.reduceNeg, Int.reduceAdd, Int.reduceSub, Int.reduceMul, Int.reduceGE, Int.reduceGT, endO]
  exact retB5 (m := ⟨cl, sk, qu, se, ta⟩) _ _ _ _ _ (rdN_all eI_ok 10 _ rfl rfl) (rdN_all eI_ok 11 _ rfl rfl) (rdN_all eI_ok 12 _ rfl rfl) (rdN_all eI_ok 13 _ rfl rfl) (rdN_all eP_ok 14 _ rfl rfl) (rdT_ok _ _ _ _ _ (⟨cl, sk, qu, se, ta⟩, 6, 0))
 have hin : hasB (keys ta) arg = true := by simpa using hin
 obtain ⟨pr, hpr, hpa⟩ : ∃ pr, ta[pos (keys ta) arg]? = some pr ∧ pr.1 = arg := by
  simp only [hasB, decide_eq_true_eq, keys, List.getElem?_map, Option.map_eq_some_iff] at hin
  exact hin
 have hlt : pos (keys ta) arg < ta.length := (List.getElem?_eq_some_iff.1 hpr).1
 have hgd : ta.getD (pos (keys ta) arg) (0, 0) = pr := by rw [List.getD_eq_getElem?_getD, hpr]; rfl
 rw [hgd]
 repeat (with_reducible refine And.intro (by first | (simp only [maxLen]; omega) | omega | decide | with_reducible exact Or.inl trivial | with_reducible exact Or.inr trivial | with_reducible exact ⟨Or.inl trivial, Or.inr trivial⟩) ?_)
 refine both (fun h61 => ?_) (fun h61 => ?_)
 ·have h61 : op = 61 := by simpa using h61
  subst h61
  have hd : doM ⟨cl, sk, qu, se, ta⟩ 61 arg data = (⟨cl, sk, qu, se, delAt ta (pos (keys ta) arg)⟩, 2, pr.2) := by simp [doM, objOf, doTable, hpr, hpa]
  rw [hd]
  repeat (with_reducible refine And.intro (by first | (simp only [maxLen]; omega) | omega | decide | (simp; done) | (simp [maxLen]; omega)) ?_)
  refine draw_vc (by kernel_rfl) (mkTab_ok _ _) (of_decide_eq_true rfl) (of_decide_eq_true rfl) ?_
  repeat (first | simp (maxSteps := 2000000) only [go_sem, ↓condS, ↓exitS, ↓gateS, ↓runOp, ↓gateD, ↓runD, ↓imp_ft, ↓imp_tf, ↓imp_tt, ↓imp_ff, ↓imp_fn, ↓imp_tn, ↓imp_fy, ↓imp_ty, ↓reduceIte, Nat.reduceLT, Nat.reduceLeDiff, Nat.reduceAdd, Nat.reduceSub, Nat.reduceMul, Nat.reduceEqDiff, reduceCtorEq, Int.reduceToNat, Int.reduceEq, Int.reduceBEq, Int.reduceBNe, Int.reduceLT, Int.reduceLE, Int.reduceNeg, Int.reduceAdd, Int.reduceSub, Int.reduceMul, Int.reduceGE, Int.reduceGT, endO, eP] | rw [dr_cons])
  rw [wr_succ (by omega)]
  repeat (with_reducible refine And.intro (by first | (simp only [maxLen]; omega) | omega | decide | with_reducible exact Or.inl trivial | with_reducible exact Or.inr trivial | with_reducible exact ⟨Or.inl trivial, Or.inr trivial⟩) ?_)
  refine ⟨fun hc => ?_, fun hc => ?_⟩
  ·have hc' : ta.length = pos (keys ta) arg + 1 := by omega
   repeat (with_reducible refine And.intro (by first | (simp only [maxLen]; omega) | omega | decide | (simp; done) | (simp [maxLen]; omega)) ?_)
   refine draw_vc (by kernel_rfl) (mkTab_ok _ _) (of_decide_eq_true rfl) (of_decide_eq_true rfl) ?_
   repeat (first | simp (maxSteps := 2000000) only [go_sem, ↓condS, ↓exitS, ↓gateS, ↓runOp, ↓gateD, ↓runD, ↓imp_ft, ↓imp_tf, ↓imp_tt, ↓imp_ff, ↓imp_fn, ↓imp_tn, ↓imp_fy, ↓imp_ty, ↓reduceIte, Nat.reduceLT, Nat.reduceLeDiff, Nat.reduceAdd, Nat.reduceSub, Nat.reduceMul, Nat.reduceEqDiff, reduceCtorEq, Int.reduceToNat, Int.reduceEq, Int.reduceBEq, Int.reduceBNe, Int.reduceLT, Int.reduceLE, Int.reduceNeg, Int.reduceAdd, Int.reduceSub, Int.reduceMul, Int.reduceGE, Int.reduceGT, endO, eP] | rw [dr_cons])
   repeat (with_reducible refine And.intro (by first | (simp only [maxLen]; omega) | omega | decide | (simp; done) | (simp [maxLen]; omega)) ?_)
   refine dcallV (.agg [.v (.int .i64 2), .v (.int .i64 pr.2)]) _ (fun E => rfl) (fun E a w' _ => value_Z pr.2 w') ?_
   repeat (first | simp (maxSteps := 2000000) only [go_sem, ↓condS, ↓exitS, ↓gateS, ↓runOp, ↓gateD, ↓runD, ↓imp_ft, ↓imp_tf, ↓imp_tt, ↓imp_ff, ↓imp_fn, ↓imp_tn, ↓imp_fy, ↓imp_ty, ↓reduceIte, Nat.reduceLT, Nat.reduceLeDiff, Nat.reduceAdd, Nat.reduceSub, Nat.reduceMul, Nat.reduceEqDiff, reduceCtorEq, Int.reduceToNat, Int.reduceEq, Int.reduceBEq, Int.reduceBNe, Int.reduceLT, Int.reduceLE, Int.reduceNeg, Int.reduceAdd, Int.reduceSub, Int.reduceMul, Int.reduceGE, Int.reduceGT, endO] | rw [dr_cons])
   repeat (with_reducible refine And.intro (by first | (simp only [maxLen]; omega) | omega | decide | (simp; done) | (simp [maxLen]; omega)) ?_)
   refine retI ht0 _ rfl (of_decide_eq_true rfl) (by simp [SV.okN, SC.okL, SC.okN, ok1L]) ?_
   simp (maxSteps := 2000000) only [go_sem, ↓condS, ↓exitS, ↓gateS, ↓runOp, ↓gateD, ↓runD, ↓imp_ft, ↓imp_tf, ↓imp_tt, ↓imp_ff, ↓imp_fn, ↓imp_tn, ↓imp_fy, ↓imp_ty, ↓reduceIte, Nat.reduceLT, Nat.reduceLeDiff, Nat.reduceAdd, Nat.reduceSub, Nat.reduceMul, Nat.reduceEqDiff, reduceCtorEq, Int.reduceToNat, Int.reduceEq, Int.reduceBEq, Int.reduceBNe, Int.reduceLT, Int.reduceLE, Int.reduceNeg, Int.reduceAdd, Int.reduceSub, Int.reduceMul, Int.reduceGE, Int.reduceGT, endO]
   exact retB5 (m := ⟨cl, sk, qu, se, delAt ta (pos (keys ta) arg)⟩) _ _ _ _ _ (rdN_all eI_ok 10 _ rfl rfl) (rdN_all eI_ok 11 _ rfl rfl) (rdN_all eI_ok 12 _ rfl rfl) (rdN_all eI_ok 13 _ rfl rfl) (rdN_sl eP_ok 21 _ 0 _ _ none rfl (by simp <;> omega) (by rw [delAt_len _ _ hlt]; omega) (fun q h => by cases h) (fun e he => by
     rw [Nat.zero_add]
     have := ats_del (enc := eP) (d := ((0, 0) : Int × Int)) (l := ta) (f0 := (arrOf eP 2 ta (0, 0)).at_) (g := fun _ => []) hlt (fun e _ => rfl) (fun e he => by omega) e he
     exact this)) (rdT_ok _ _ _ _ _ (⟨cl, sk, qu, se, delAt ta (pos (keys ta) arg)⟩, 2, pr.2))
  ·repeat (with_reducible refine And.intro (by first | (simp only [maxLen]; omega) | omega | decide | (simp; done) | (simp [maxLen]; omega)) ?_)
   refine draw_vc (by kernel_rfl) (mkTab_ok _ _) (of_decide_eq_true rfl) (of_decide_eq_true rfl) ?_
   repeat (first | simp (maxSteps := 2000000) only [go_sem, ↓condS, ↓exitS, ↓gateS, ↓runOp, ↓gateD, ↓runD, ↓imp_ft, ↓imp_tf, ↓imp_tt, ↓imp_ff, ↓imp_fn, ↓imp_tn, ↓imp_fy, ↓imp_ty, ↓reduceIte, Nat.reduceLT, Nat.reduceLeDiff, Nat.reduceAdd, Nat.reduceSub, Nat.reduceMul, Nat.reduceEqDiff, reduceCtorEq, Int.reduceToNat, Int.reduceEq, Int.reduceBEq, Int.reduceBNe, Int.reduceLT, Int.reduceLE, Int.reduceNeg, Int.reduceAdd, Int.reduceSub, Int.reduceMul, Int.reduceGE, Int.reduceGT, endO, eP] | rw [dr_cons])
   repeat (with_reducible refine And.intro (by first | (simp only [maxLen]; omega) | omega | decide | (simp; done) | (simp [maxLen]; omega)) ?_)
   refine dcallV (.agg [.v (.int .i64 2), .v (.int .i64 pr.2)]) _ (fun E => rfl) (fun E a w' _ => value_Z pr.2 w') ?_
   repeat (first | simp (maxSteps := 2000000) only [go_sem, ↓condS, ↓exitS, ↓gateS, ↓runOp, ↓gateD, ↓runD, ↓imp_ft, ↓imp_tf, ↓imp_tt, ↓imp_ff, ↓imp_fn, ↓imp_tn, ↓imp_fy, ↓imp_ty, ↓reduceIte, Nat.reduceLT, Nat.reduceLeDiff, Nat.reduceAdd, Nat.reduceSub, Nat.reduceMul, Nat.reduceEqDiff, reduceCtorEq, Int.reduceToNat, Int.reduceEq, Int.reduceBEq, Int.reduceBNe, Int.reduceLT, Int.reduceLE, Int.reduceNeg, Int.reduceAdd, Int.reduceSub, Int.reduceMul, Int.reduceGE, Int.reduceGT, endO] | rw [dr_cons])
   repeat (with_reducible refine And.intro (by first | (simp only [maxLen]; omega) | omega | decide | (simp; done) | (simp [maxLen]; omega)) ?_)
   refine retI ht0 _ rfl (of_decide_eq_true rfl) (by simp [SV.okN, SC.okL, SC.okN, ok1L]) ?_
   simp (maxSteps := 2000000) only [go_sem, ↓condS, ↓exitS, ↓gateS, ↓runOp, ↓gateD, ↓runD, ↓imp_ft, ↓imp_tf, ↓imp_tt, ↓imp_ff, ↓imp_fn, ↓imp_tn, ↓imp_fy, ↓imp_ty, ↓reduceIte, Nat.reduceLT, Nat.reduceLeDiff, Nat.reduceAdd, Nat.reduceSub, Nat.reduceMul, Nat.reduceEqDiff, reduceCtorEq, Int.reduceToNat, Int.reduceEq, Int.reduceBEq, Int.reduceBNe, Int.reduceLT, Int.reduceLE, Int.reduceNeg, Int.reduceAdd, Int.reduceSub, Int.reduceMul, Int.reduceGE, Int.reduceGT, endO]
   exact retB5 (m := ⟨cl, sk, qu, se, delAt ta (pos (keys ta) arg)⟩) _ _ _ _ _ (rdN_all eI_ok 10 _ rfl rfl) (rdN_all eI_ok 11 _ rfl rfl) (rdN_all eI_ok 12 _ rfl rfl) (rdN_all eI_ok 13 _ rfl rfl) (rdN_sl eP_ok 20 _ 0 _ _ none rfl (by simp <;> omega) (by rw [delAt_len _ _ hlt]; omega) (fun q h => by cases h) (fun e he => by
     rw [Nat.zero_add]
     have := ats_del (enc := eP) (d := ((0, 0) : Int × Int)) (l := ta) (f0 := (arrOf eP 2 ta (0, 0)).at_) (g := fun e => (arrOf eP 2 ta (0, 0)).at_ (pos (keys ta) arg + 1 + e)) hlt (fun e _ => rfl) (fun e _ => rfl) e he
     exact this)) (rdT_ok _ _ _ _ _ (⟨cl, sk, qu, se, delAt ta (pos (keys ta) arg)⟩, 2, pr.2))
 ·have h62 : op = 62 := by
   rcases hop with rfl | rfl
   ·simp at h61
   ·rfl
  subst h62
  have hd : doM ⟨cl, sk, qu, se, ta⟩ 62 arg data = (⟨cl, sk, qu, se, ta⟩, 2, pr.2) := by simp [doM, objOf, doTable, hpr, hpa]
  rw [hd]
  repeat (with_reducible refine And.intro (by first | (simp only [maxLen]; omega) | omega | decide | (simp; done) | (simp [maxLen]; omega)) ?_)
  refine draw_vc (by kernel_rfl) (mkTab_ok _ _) (of_decide_eq_true rfl) (of_decide_eq_true rfl) ?_
  repeat (first | simp (maxSteps := 2000000) only [go_sem, ↓condS, ↓exitS, ↓gateS, ↓runOp, ↓gateD, ↓runD, ↓imp_ft, ↓imp_tf, ↓imp_tt, ↓imp_ff, ↓imp_fn, ↓imp_tn, ↓imp_fy, ↓imp_ty, ↓reduceIte, Nat.reduceLT, Nat.reduceLeDiff, Nat.reduceAdd, Nat.reduceSub, Nat.reduceMul, Nat.reduceEqDiff, reduceCtorEq, Int.reduceToNat, Int.reduceEq, Int.reduceBEq, Int.reduceBNe, Int.reduceLT, Int.reduceLE, Int.reduceNeg, Int.reduceAdd, Int.reduceSub, Int.reduceMul, Int.reduceGE, Int.reduceGT, endO, eP] | rw [dr_cons])
  repeat (with_reducible refine And.intro (by first | (simp only [maxLen]; omega) | omega | decide | (simp; done) | (simp [maxLen]; omega)) ?_)
  refine dcallV (.agg [.v (.int .i64 2), .v (.int .i64 pr.2)]) _ (fun E => rfl) (fun E a w' _ => value_Z pr.2 w') ?_
  repeat (first | simp (maxSteps := 2000000) only [go_sem, ↓condS, ↓exitS, ↓gateS, ↓runOp, ↓gateD, ↓runD, ↓imp_ft, ↓imp_tf, ↓imp_tt, ↓imp_ff, ↓imp_fn, ↓imp_tn, ↓imp_fy, ↓imp_ty, ↓reduceIte, Nat.reduceLT, Nat.reduceLeDiff, Nat.reduceAdd, Nat.reduceSub, Nat.reduceMul, Nat.reduceEqDiff, reduceCtorEq, Int.reduceToNat, Int.reduceEq, Int.reduceBEq, Int.reduceBNe, Int.reduceLT, Int.reduceLE, Int.reduceNeg, Int.reduceAdd, Int.reduceSub, Int.reduceMul, Int.reduceGE, Int.reduceGT, endO] | rw [dr_cons])
  repeat (with_reducible refine And.intro (by first | (simp only [maxLen]; omega) | omega | decide | (simp; done) | (simp [maxLen]; omega)) ?_)
  refine retI ht0 _ rfl (of_decide_eq_true rfl) (by simp [SV.okN, SC.okL, SC.okN, ok1L]) ?_
  simp (maxSteps := 2000000) only [go_sem, ↓condS, ↓exitS, ↓gateS, ↓runOp, ↓gateD, ↓runD, ↓imp_ft, ↓imp_tf, ↓imp_tt, ↓imp_ff, ↓imp_fn, ↓imp_tn, ↓imp_fy, ↓imp_ty, ↓reduceIte, Nat.reduceLT, Nat.reduceLeDiff, Nat.reduceAdd, Nat.reduceSub, Nat.reduceMul, Nat.reduceEqDiff, reduceCtorEq, Int.reduceToNat, Int.reduceEq, Int.reduceBEq, Int.reduceBNe, Int.reduceLT, Int.reduceLE, Int.reduceNeg, Int.reduceAdd, Int.reduceSub, Int.reduceMul, Int.reduceGE, Int.reduceGT, endO]
  exact retB5 (m := ⟨cl, sk, qu, se, ta⟩) _ _ _ _ _ (rdN_all eI_ok 10 _ rfl rfl) (rdN_all eI_ok 11 _ rfl rfl) (rdN_all eI_ok 12 _ rfl rfl) (rdN_all eI_ok 13 _ rfl rfl) (rdN_all eP_ok 14 _ rfl rfl) (rdT_ok _ _ _ _ _ (⟨cl, sk, qu, se, ta⟩, 2, pr.2))
theorem rmDo_Z {w : World} {v : Value} {m : MC} (op arg data : Int) (h : Cont w v m) (hok : MC.okR m) (hm : mayB m = true) (ho : objOf op ≠ 0) : Calls Try.prog 83 #[v, .int .i64 op, .int .i64 arg, .int .i64 data] w (RetB w (fun _ => True) 5 (rdT (doM m op arg data)) (mcR (doM m op arg data).1)) := by
 by_cases h6 : op = 22 ∨ op = 23 ∨ op = 30 ∨ op = 31 ∨ op = 40 ∨ op = 41
 ·exact rmDo_ZA op arg data h hok hm ho h6
 ·exact rmDo_ZB op arg data h hok hm ho h6
end Go.Proofs.Ytkjeedlkkpgopaa.Z
