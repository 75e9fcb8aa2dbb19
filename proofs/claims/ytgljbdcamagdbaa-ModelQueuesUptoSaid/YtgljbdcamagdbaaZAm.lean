/- Whether a call may answer so: the reference's Allows; what is refused. No statement of the program. -/
import Derived.Test.YtgljbdcamagdbaaZAl
-- bundled -- short draws
namespace Go.Proofs.Ytgljbdcamagdbaa.Z
open Go Go.RowKit
set_option linter.unusedSimpArgs false
set_option linter.unusedVariables false
theorem rmcopy_Z {v : Value} {m : MC} {w : World} (h : Cont w v m) (hok : m.ok 0) : Calls Try.prog 40 #[v] w (RetB w (fun _ => True) 5 cT (mcR m)) := by
  obtain ⟨x0, x1, x2, x3, x4, rfl, g0, g1, g2, g3, g4⟩ := h
  refine (rCopy0 (m := m) ⟨_, _, _, _, _, rfl, g0, g1, g2, g3, g4⟩ hok).mono ?_
  rintro e w' ⟨v', rfl, hown, hb⟩
  refine ⟨_, rfl, hb, fun b => ?_⟩
  obtain ⟨N, h1, h2⟩ := retB_D (ownC_D' hown) b
  refine ⟨N, h1, fun E2 hE => ?_⟩
  obtain ⟨h3, h4⟩ := h2 E2 hE
  exact ⟨h3, fun w'' _ hw'' => h4 w'' hw''⟩
theorem ral11_Z : True := trivial
set_option maxRecDepth 100000 in
set_option maxHeartbeats 400000 in
theorem alNo_Z {w : World} {v : Value} {m : MC} (c : Cl) (h : Cont w v m) (hn : refN m c.op ≠ 0) : Calls Try.prog 29 #[v, .agg c.enc.toArray] w (RetV w (.tuple #[.agg #[.slice none 0 0, .slice none 0 0, .slice none 0 0, .slice none 0 0, .slice none 0 0], .bool false, .int .i64 (refN m c.op)])) := by
  refine enterC (A := []) (c := ir29) (rs := rs29) (nt := nt29) h [.agg (mcS 0), .agg c.sc] _ Try.func29 rfl (by kernel_rfl) (by kernel_rfl) rfl (fun E' h0 => by rw [List.map_cons, h0]; simp [SV.den, SC.den, Cl.sc, Cl.enc]) (of_decide_eq_true rfl) ?_
  simp (config := { maxSteps := 2000000 }) only [ir29, nt29, rs29, go_sem, ↓condS, ↓exitS, ↓gateS, ↓runOp, ↓gateD, ↓runD, ↓imp_ft, ↓imp_tf, ↓imp_tt, ↓imp_ff, ↓imp_fn, ↓imp_tn, ↓imp_fy, ↓imp_ty, ↓reduceIte, Nat.reduceLT, Nat.reduceLeDiff, Nat.reduceAdd, Nat.reduceSub, Nat.reduceMul, Nat.reduceEqDiff, reduceCtorEq, Int.reduceToNat, Int.reduceEq, Int.reduceBEq, Int.reduceBNe, Int.reduceLT, Int.reduceLE, Int.reduceNeg, Int.reduceAdd, Int.reduceSub, Int.reduceMul, Int.reduceGE, Int.reduceGT, Cl.enc, iv, endO, mcS, mcA, Cl.sc, iv]
  refine callV (.tup [(true, [.v (.slice none 0 0), .v (.slice none 0 0), .v (.slice none 0 0), .v (.slice none 0 0), .v (.slice none 0 0)]), (true, [.v (.int .i64 0), .v (.int .i64 0)]), (false, [.v (.int .i64 (refN m c.op))])]) _ (fun E => rfl) (fun E a w' hs => doNo_Z c.op c.arg c.data (cont_at hs 0 rfl rfl rfl rfl rfl) hn) ?_
  simp (config := { maxSteps := 2000000 }) only [go_sem, ↓condS, ↓exitS, ↓gateS, ↓runOp, ↓gateD, ↓runD, ↓imp_ft, ↓imp_tf, ↓imp_tt, ↓imp_ff, ↓imp_fn, ↓imp_tn, ↓imp_fy, ↓imp_ty, ↓reduceIte, Nat.reduceLT, Nat.reduceLeDiff, Nat.reduceAdd, Nat.reduceSub, Nat.reduceMul, Nat.reduceEqDiff, reduceCtorEq, Int.reduceToNat, Int.reduceEq, Int.reduceBEq, Int.reduceBNe, Int.reduceLT, Int.reduceLE, Int.reduceNeg, Int.reduceAdd, Int.reduceSub, Int.reduceMul, Int.reduceGE, Int.reduceGT, Cl.enc, iv, endO]
  refine both (fun _ => ?_) (fun h0 => ?_)
  · exact retV fun E => by simp [SV.den, den1, SC.den]
  · exfalso
    simp at h0
    exact hn h0
set_option maxRecDepth 100000 in
set_option maxHeartbeats 400000 in
theorem ral_Z {w : World} {v : Value} {m : MC} (c : Cl) (h : Cont w v m) (hok : MC.okR m) (hm : mayB m = true) (ho : objOf c.op ≠ 0) : Calls Try.prog 47 #[v, .agg c.enc.toArray] w (RetB w (fun _ => True) 5 (ralT (allowM m c)) (mcR (allowM m c).1)) := by
  refine enterC (A := []) (c := ir47) (rs := rs47) (nt := nt47) h [.agg (mcS 0), .agg c.sc] _ Try.func47 rfl (by kernel_rfl) (by kernel_rfl) rfl (fun E' h0 => by rw [List.map_cons, h0]; simp [SV.den, SC.den, Cl.sc, Cl.enc]) (of_decide_eq_true rfl) ?_
  simp (config := { maxSteps := 2000000 }) only [ir47, nt47, rs47, go_sem, ↓condS, ↓exitS, ↓gateS, ↓runOp, ↓gateD, ↓runD, ↓imp_ft, ↓imp_tf, ↓imp_tt, ↓imp_ff, ↓imp_fn, ↓imp_tn, ↓imp_fy, ↓imp_ty, ↓reduceIte, Nat.reduceLT, Nat.reduceLeDiff, Nat.reduceAdd, Nat.reduceSub, Nat.reduceMul, Nat.reduceEqDiff, reduceCtorEq, Int.reduceToNat, Int.reduceEq, Int.reduceBEq, Int.reduceBNe, Int.reduceLT, Int.reduceLE, Int.reduceNeg, Int.reduceAdd, Int.reduceSub, Int.reduceMul, Int.reduceGE, Int.reduceGT, Cl.enc, iv, endO, mcS, mcA, Cl.sc, iv]
  refine callF 5 (rdT (doM m c.op c.arg c.data)) (mcR (doM m c.op c.arg c.data).1) (mcR_id _ _) (fun E a w' hs => rmDo_Z c.op c.arg c.data (cont_at hs 0 rfl rfl rfl rfl rfl) hok hm ho) ?_
  simp (config := { maxSteps := 2000000 }) only [go_sem, ↓condS, ↓exitS, ↓gateS, ↓runOp, ↓gateD, ↓runD, ↓imp_ft, ↓imp_tf, ↓imp_tt, ↓imp_ff, ↓imp_fn, ↓imp_tn, ↓imp_fy, ↓imp_ty, ↓reduceIte, Nat.reduceLT, Nat.reduceLeDiff, Nat.reduceAdd, Nat.reduceSub, Nat.reduceMul, Nat.reduceEqDiff, reduceCtorEq, Int.reduceToNat, Int.reduceEq, Int.reduceBEq, Int.reduceBNe, Int.reduceLT, Int.reduceLE, Int.reduceNeg, Int.reduceAdd, Int.reduceSub, Int.reduceMul, Int.reduceGE, Int.reduceGT, Cl.enc, iv, endO, rdT, mcS, mcR, mcA]
  refine both (fun hk => ?_) (fun hk => ?_)
  · have hk : c.kind = 0 := by simpa using hk
    have hd : allowM m c = ((doM m c.op c.arg c.data).1, true) := by simp [allowM, hk]
    rw [hd]
    exact retB5 _ _ _ _ _ (rdN_nw 8 List.mem_cons_self rfl) (rdN_nw 9 List.mem_cons_self rfl) (rdN_nw 10 List.mem_cons_self rfl) (rdN_nw 11 List.mem_cons_self rfl) (rdN_nw 12 List.mem_cons_self rfl) (ralT_ok _ _ _ _ _ _ _ fun E => by rw [den_v])
  have hk : c.kind ≠ 0 := by simpa using hk
  refine both (fun h4 => ?_) (fun h4 => ?_)
  · have h4 : c.kind = 4 := by simpa using h4
    have hd : allowM m c = if fullB c.op = true then (m, true) else (mc0, false) := by simp [allowM, h4]
    refine both (fun hf => ?_) (fun n22 => ?_)
    · have hf : c.op = 22 := by simpa using hf
      refine both (fun _ => ?_) (fun hx => absurd hx (by simp [hf]))
      have hf : fullB c.op = true := by simp [fullB, hf]
      rw [hd, if_pos hf]
      refine callF 5 cT (mcR m) (mcR_id _ _) (fun E a w' hs => rmcopy_Z (cont_at hs 0 rfl rfl rfl rfl rfl) (hok.1.le (by decide))) ?_
      simp (config := { maxSteps := 2000000 }) only [go_sem, ↓condS, ↓exitS, ↓gateS, ↓runOp, ↓gateD, ↓runD, ↓imp_ft, ↓imp_tf, ↓imp_tt, ↓imp_ff, ↓imp_fn, ↓imp_tn, ↓imp_fy, ↓imp_ty, ↓reduceIte, Nat.reduceLT, Nat.reduceLeDiff, Nat.reduceAdd, Nat.reduceSub, Nat.reduceMul, Nat.reduceEqDiff, reduceCtorEq, Int.reduceToNat, Int.reduceEq, Int.reduceBEq, Int.reduceBNe, Int.reduceLT, Int.reduceLE, Int.reduceNeg, Int.reduceAdd, Int.reduceSub, Int.reduceMul, Int.reduceGE, Int.reduceGT, Cl.enc, iv, endO, cT, mcS, mcR, mcA]
      exact retB5 _ _ _ _ _ (rdN_nw 15 List.mem_cons_self rfl) (rdN_nw 16 List.mem_cons_self rfl) (rdN_nw 17 List.mem_cons_self rfl) (rdN_nw 18 List.mem_cons_self rfl) (rdN_nw 19 List.mem_cons_self rfl) (ralT_ok _ _ _ _ _ _ _ fun E => by rw [den_v])
    refine both (fun hf => ?_) (fun n30 => ?_)
    · have hf : c.op = 30 := by simpa using hf
      refine both (fun _ => ?_) (fun hx => absurd hx (by simp [hf]))
      have hf : fullB c.op = true := by simp [fullB, hf]
      rw [hd, if_pos hf]
      refine callF 5 cT (mcR m) (mcR_id _ _) (fun E a w' hs => rmcopy_Z (cont_at hs 0 rfl rfl rfl rfl rfl) (hok.1.le (by decide))) ?_
      simp (config := { maxSteps := 2000000 }) only [go_sem, ↓condS, ↓exitS, ↓gateS, ↓runOp, ↓gateD, ↓runD, ↓imp_ft, ↓imp_tf, ↓imp_tt, ↓imp_ff, ↓imp_fn, ↓imp_tn, ↓imp_fy, ↓imp_ty, ↓reduceIte, Nat.reduceLT, Nat.reduceLeDiff, Nat.reduceAdd, Nat.reduceSub, Nat.reduceMul, Nat.reduceEqDiff, reduceCtorEq, Int.reduceToNat, Int.reduceEq, Int.reduceBEq, Int.reduceBNe, Int.reduceLT, Int.reduceLE, Int.reduceNeg, Int.reduceAdd, Int.reduceSub, Int.reduceMul, Int.reduceGE, Int.reduceGT, Cl.enc, iv, endO, cT, mcS, mcR, mcA]
      exact retB5 _ _ _ _ _ (rdN_nw 15 List.mem_cons_self rfl) (rdN_nw 16 List.mem_cons_self rfl) (rdN_nw 17 List.mem_cons_self rfl) (rdN_nw 18 List.mem_cons_self rfl) (rdN_nw 19 List.mem_cons_self rfl) (ralT_ok _ _ _ _ _ _ _ fun E => by rw [den_v])
    refine both (fun hf => ?_) (fun n40 => ?_)
    · have hf : c.op = 40 := by simpa using hf
      refine both (fun _ => ?_) (fun hx => absurd hx (by simp [hf]))
      have hf : fullB c.op = true := by simp [fullB, hf]
      rw [hd, if_pos hf]
      refine callF 5 cT (mcR m) (mcR_id _ _) (fun E a w' hs => rmcopy_Z (cont_at hs 0 rfl rfl rfl rfl rfl) (hok.1.le (by decide))) ?_
      simp (config := { maxSteps := 2000000 }) only [go_sem, ↓condS, ↓exitS, ↓gateS, ↓runOp, ↓gateD, ↓runD, ↓imp_ft, ↓imp_tf, ↓imp_tt, ↓imp_ff, ↓imp_fn, ↓imp_tn, ↓imp_fy, ↓imp_ty, ↓reduceIte, Nat.reduceLT, Nat.reduceLeDiff, Nat.reduceAdd, Nat.reduceSub, Nat.reduceMul, Nat.reduceEqDiff, reduceCtorEq, Int.reduceToNat, Int.reduceEq, Int.reduceBEq, Int.reduceBNe, Int.reduceLT, Int.reduceLE, Int.reduceNeg, Int.reduceAdd, Int.reduceSub, Int.reduceMul, Int.reduceGE, Int.reduceGT, Cl.enc, iv, endO, cT, mcS, mcR, mcA]
      exact retB5 _ _ _ _ _ (rdN_nw 15 List.mem_cons_self rfl) (rdN_nw 16 List.mem_cons_self rfl) (rdN_nw 17 List.mem_cons_self rfl) (rdN_nw 18 List.mem_cons_self rfl) (rdN_nw 19 List.mem_cons_self rfl) (ralT_ok _ _ _ _ _ _ _ fun E => by rw [den_v])
    refine both (fun hf => ?_) (fun n50 => ?_)
    · have hf : c.op = 50 := by simpa using hf
      refine both (fun _ => ?_) (fun hx => absurd hx (by simp [hf]))
      have hf : fullB c.op = true := by simp [fullB, hf]
      rw [hd, if_pos hf]
      refine callF 5 cT (mcR m) (mcR_id _ _) (fun E a w' hs => rmcopy_Z (cont_at hs 0 rfl rfl rfl rfl rfl) (hok.1.le (by decide))) ?_
      simp (config := { maxSteps := 2000000 }) only [go_sem, ↓condS, ↓exitS, ↓gateS, ↓runOp, ↓gateD, ↓runD, ↓imp_ft, ↓imp_tf, ↓imp_tt, ↓imp_ff, ↓imp_fn, ↓imp_tn, ↓imp_fy, ↓imp_ty, ↓reduceIte, Nat.reduceLT, Nat.reduceLeDiff, Nat.reduceAdd, Nat.reduceSub, Nat.reduceMul, Nat.reduceEqDiff, reduceCtorEq, Int.reduceToNat, Int.reduceEq, Int.reduceBEq, Int.reduceBNe, Int.reduceLT, Int.reduceLE, Int.reduceNeg, Int.reduceAdd, Int.reduceSub, Int.reduceMul, Int.reduceGE, Int.reduceGT, Cl.enc, iv, endO, cT, mcS, mcR, mcA]
      exact retB5 _ _ _ _ _ (rdN_nw 15 List.mem_cons_self rfl) (rdN_nw 16 List.mem_cons_self rfl) (rdN_nw 17 List.mem_cons_self rfl) (rdN_nw 18 List.mem_cons_self rfl) (rdN_nw 19 List.mem_cons_self rfl) (ralT_ok _ _ _ _ _ _ _ fun E => by rw [den_v])
    refine both (fun hf => ?_) (fun n60 => ?_)
    · have hf : c.op = 60 := by simpa using hf
      have hf : fullB c.op = true := by simp [fullB, hf]
      rw [hd, if_pos hf]
      refine callF 5 cT (mcR m) (mcR_id _ _) (fun E a w' hs => rmcopy_Z (cont_at hs 0 rfl rfl rfl rfl rfl) (hok.1.le (by decide))) ?_
      simp (config := { maxSteps := 2000000 }) only [go_sem, ↓condS, ↓exitS, ↓gateS, ↓runOp, ↓gateD, ↓runD, ↓imp_ft, ↓imp_tf, ↓imp_tt, ↓imp_ff, ↓imp_fn, ↓imp_tn, ↓imp_fy, ↓imp_ty, ↓reduceIte, Nat.reduceLT, Nat.reduceLeDiff, Nat.reduceAdd, Nat.reduceSub, Nat.reduceMul, Nat.reduceEqDiff, reduceCtorEq, Int.reduceToNat, Int.reduceEq, Int.reduceBEq, Int.reduceBNe, Int.reduceLT, Int.reduceLE, Int.reduceNeg, Int.reduceAdd, Int.reduceSub, Int.reduceMul, Int.reduceGE, Int.reduceGT, Cl.enc, iv, endO, cT, mcS, mcR, mcA]
      exact retB5 _ _ _ _ _ (rdN_nw 15 List.mem_cons_self rfl) (rdN_nw 16 List.mem_cons_self rfl) (rdN_nw 17 List.mem_cons_self rfl) (rdN_nw 18 List.mem_cons_self rfl) (rdN_nw 19 List.mem_cons_self rfl) (ralT_ok _ _ _ _ _ _ _ fun E => by rw [den_v])
    have hf : ¬ fullB c.op = true := by
      simp only [b_decR, b_decL, bt_ite, bf_ite, bt_dec, bf_dec, bt_int, bf_int, bt_nint, bf_nint, bt_bool, bf_bool, bt_nbool, bf_nbool, bt_not, bf_not, bt_and, bf_and, bt_or, bf_or, Bool.false_eq_true, Bool.true_eq_false, Bool.not_eq_true, Bool.not_eq_false, reduceCtorEq, false_iff, true_iff, iff_false, iff_true, and_true, true_and, and_false, false_and, or_true, true_or, or_false, false_or, not_true_eq_false, not_false_eq_true, ne_eq] at n22 n30 n40 n50 n60
      simp [fullB, n22, n30, n40, n50, n60]
    rw [hd, if_neg hf]
    exact retB5 _ _ _ _ _ rdN_nil rdN_nil rdN_nil rdN_nil rdN_nil (ralT_ok _ _ _ _ _ _ _ fun E => by rw [den_v])
  have h4 : c.kind ≠ 4 := by simpa using h4
  refine both (fun he => ?_) (fun he => ?_)
  · have he : ¬ (c.kind = (doM m c.op c.arg c.data).2.1 ∧ c.val = (doM m c.op c.arg c.data).2.2) := by
      intro h
      rw [h.1, h.2] at he
      simp at he
    have hd : allowM m c = (mc0, false) := by unfold allowM; rw [if_neg hk, if_neg h4, if_neg he]
    rw [hd]
    exact retB5 _ _ _ _ _ rdN_nil rdN_nil rdN_nil rdN_nil rdN_nil (ralT_ok _ _ _ _ _ _ _ fun E => by rw [den_v])
  · simp only [b_decR, b_decL, bt_ite, bf_ite, bt_dec, bf_dec, bt_int, bf_int, bt_nint, bf_nint, bt_bool, bf_bool, bt_nbool, bf_nbool, bt_not, bf_not, bt_and, bf_and, bt_or, bf_or, Bool.false_eq_true, Bool.true_eq_false, Bool.not_eq_true, Bool.not_eq_false, reduceCtorEq, false_iff, true_iff, iff_false, iff_true, and_true, true_and, and_false, false_and, or_true, true_or, or_false, false_or, not_true_eq_false, not_false_eq_true, ne_eq] at he
    have he : c.kind = (doM m c.op c.arg c.data).2.1 ∧ c.val = (doM m c.op c.arg c.data).2.2 := by constructor <;> omega
    have hd : allowM m c = ((doM m c.op c.arg c.data).1, true) := by unfold allowM; rw [if_neg hk, if_neg h4, if_pos he]
    rw [hd]
    exact retB5 _ _ _ _ _ (rdN_nw 8 List.mem_cons_self rfl) (rdN_nw 9 List.mem_cons_self rfl) (rdN_nw 10 List.mem_cons_self rfl) (rdN_nw 11 List.mem_cons_self rfl) (rdN_nw 12 List.mem_cons_self rfl) (ralT_ok _ _ _ _ _ _ _ fun E => by rw [den_v])
end Go.Proofs.Ytgljbdcamagdbaa.Z
