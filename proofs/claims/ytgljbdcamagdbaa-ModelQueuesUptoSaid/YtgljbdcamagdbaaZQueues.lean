/- ModelQueues: the walk. No statement of the program. -/
import Derived.Test.YtgljbdcamagdbaaZRight
-- bundled -- short draws -- cl
namespace Go.Proofs.Ytgljbdcamagdbaa.Z
open Go Go.RowKit
set_option linter.unusedSimpArgs false
set_option linter.unusedVariables false
/-- contents with another queue -/
def wq (m : MC) (q : List Int) : MC := { m with queue := q }
theorem wq_may (m : MC) (q : List Int) : mayB (wq m q) = mayB m := rfl
theorem wq_self (m : MC) : wq m m.queue = m := rfl
theorem wq_up {m : MC} {n k : Nat} {q : List Int} (h : m.upto n) (hq : q.length ≤ k) (hn : n ≤ k) : (wq m q).upto k := by
  obtain ⟨h0, h1, h2, h3, h4⟩ := h
  exact ⟨Nat.le_trans h0 hn, Nat.le_trans h1 hn, hq, Nat.le_trans h3 hn, Nat.le_trans h4 hn⟩
theorem enq (m : MC) (q : List Int) (x y : Int) : doM (wq m q) 40 x y = (wq m (q ++ [x]), 1, 0) := by simp [doM, objOf, doQueue, wq]
theorem deq (m : MC) (q : List Int) (x : Int) : doM (wq m (x :: q)) 41 0 0 = (wq m q, 2, x) := by simp [doM, objOf, doQueue, wq]
theorem deq0 (m : MC) : doM (wq m []) 41 0 0 = (wq m [], 3, 0) := by simp [doM, objOf, doQueue, wq]
def ir7 : IR := (.seq (.ops [⟨(some 2), (.box 29 (.t 0)), none⟩, ⟨(some 4), (.mv (.k (.c (.v (.bool false))))), none⟩]) (.kill [0, 3, 4, 5, 6, 7, 8, 9, 10, 11] (.seq (.ops [⟨(some 20), (.ld true 5 (.t 2)), none⟩, ⟨(some 21), (.call 28 [(.t 20)]), none⟩, ⟨none, (.st 5 (.t 2) (.t 21)), none⟩]) (.kill [20, 21] (.seq (.ops [⟨(some 22), (.ld true 5 (.t 2)), none⟩, ⟨(some 5), (.new 29 [(.v (.slice none 0 0)), (.v (.slice none 0 0)), (.v (.slice none 0 0)), (.v (.slice none 0 0)), (.v (.slice none 0 0))]), none⟩, ⟨none, (.st 5 (.t 5) (.t 22)), none⟩]) (.kill [22] (.seq (.seq (.ops [⟨(some 23), (.mv (.t 1)), none⟩, ⟨(some 24), (.len (.t 23)), none⟩, ⟨(some 25), (.mv (.k (.c (.v (.int .i64 0))))), none⟩]) (.blk 0 (.loop (.seq (.ops [⟨(some 26), (.bin .lss (.t 25) (.t 24)), none⟩]) (.kill [4, 7, 8, 9, 10, 27, 28, 29, 30, 31, 32, 33, 34, 35, 36, 37, 38, 39, 40, 41, 42, 43, 44] (.seq (.cond (.t 26) .skip (.exit 0)) (.kill [26] (.seq (.blk 1 (.seq (.ops [⟨(some 27), (.ia 1 (.t 23) (.t 25)), none⟩, ⟨(some 28), (.ld false 1 (.t 27)), none⟩, ⟨(some 7), (.mv (.t 28)), none⟩]) (.kill [27, 28] (.seq (.ops [⟨(some 30), (.ld true 5 (.t 5)), none⟩, ⟨(some 31), (.mv (.t 7)), none⟩, ⟨(some 32), (.call 25 [(.t 30), (.k (.c (.v (.int .i64 40)))), (.t 31), (.k (.c (.v (.int .i64 0))))]), none⟩, ⟨(some 29), (.mv (.t 32)), none⟩, ⟨(some 33), (.ext 0 (.t 29)), none⟩, ⟨(some 34), (.ext 1 (.t 29)), none⟩, ⟨(some 35), (.ext 2 (.t 29)), none⟩, ⟨(some 8), (.new 29 [(.v (.slice none 0 0)), (.v (.slice none 0 0)), (.v (.slice none 0 0)), (.v (.slice none 0 0)), (.v (.slice none 0 0))]), none⟩, ⟨(some 9), (.new 42 [(.v (.int .i64 0)), (.v (.int .i64 0))]), none⟩, ⟨none, (.st 5 (.t 8) (.t 33)), none⟩, ⟨none, (.st 2 (.t 9) (.t 34)), none⟩, ⟨(some 10), (.mv (.t 35)), none⟩]) (.kill [7, 29, 30, 31, 32, 33, 34, 35] (.seq (.seq (.ops [⟨(some 36), (.mv (.t 10)), none⟩, ⟨(some 37), (.bin .neq (.t 36) (.k (.c (.v (.int .i64 0))))), none⟩, ⟨(some 38), (.mv (.t 37)), none⟩, ⟨(some 39), (.fa 0 (.t 9)), (some (38, false))⟩, ⟨(some 40), (.ld false 1 (.t 39)), (some (38, false))⟩, ⟨(some 41), (.bin .neq (.t 40) (.k (.c (.v (.int .i64 1))))), (some (38, false))⟩, ⟨(some 42), (.pick (.t 38) (.k (.c (.v (.bool true)))) (.t 41)), none⟩]) (.kill [9, 10, 36, 37, 38, 39, 40, 41] (.cond (.t 42) (.seq (.ops [⟨(some 4), (.mv (.k (.c (.v (.bool false))))), none⟩]) (.kill [1, 2, 5, 8, 23, 24, 25, 42] .ret)) .skip))) (.kill [4, 42] (.ops [⟨(some 43), (.ld true 5 (.t 8)), none⟩, ⟨none, (.st 5 (.t 5) (.t 43)), none⟩])))))))) (.kill [4, 7, 8, 9, 10, 27, 28, 29, 30, 31, 32, 33, 34, 35, 36, 37, 38, 39, 40, 41, 42, 43] (.ops [⟨(some 44), (.bin .add (.t 25) (.k (.c (.v (.int .i64 1))))), none⟩, ⟨(some 25), (.mv (.t 44)), none⟩])))))))))) (.kill [4, 7, 8, 9, 10, 23, 24, 25, 26, 27, 28, 29, 30, 31, 32, 33, 34, 35, 36, 37, 38, 39, 40, 41, 42, 43, 44] (.seq (.ops [⟨(some 45), (.fa 2 (.t 2)), none⟩, ⟨(some 46), (.ld false 1 (.t 45)), none⟩, ⟨(some 47), (.app 3 1 8 [(.v (.int .i64 0))] (.k (.c (.v (.slice none 0 0)))) (.t 46)), none⟩, ⟨(some 48), (.mv (.t 1)), none⟩, ⟨(some 49), (.app 3 1 8 [(.v (.int .i64 0))] (.t 47) (.t 48)), none⟩, ⟨(some 11), (.mv (.t 49)), none⟩]) (.kill [1, 2, 45, 46, 47, 48, 49] (.seq (.seq (.ops [⟨(some 50), (.mv (.t 11)), none⟩, ⟨(some 51), (.len (.t 50)), none⟩, ⟨(some 52), (.mv (.k (.c (.v (.int .i64 0))))), none⟩]) (.kill [11] (.blk 2 (.loop (.seq (.ops [⟨(some 53), (.bin .lss (.t 52) (.t 51)), none⟩]) (.kill [4, 13, 14, 15, 16, 54, 55, 56, 57, 58, 59, 60, 61, 62, 63, 64, 65, 66, 67, 68, 69, 70, 71] (.seq (.cond (.t 53) .skip (.exit 2)) (.kill [53] (.seq (.blk 3 (.seq (.ops [⟨(some 54), (.ia 1 (.t 50) (.t 52)), none⟩, ⟨(some 55), (.ld false 1 (.t 54)), none⟩, ⟨(some 13), (.mv (.t 55)), none⟩]) (.kill [54, 55] (.seq (.ops [⟨(some 57), (.ld true 5 (.t 5)), none⟩, ⟨(some 58), (.call 25 [(.t 57), (.k (.c (.v (.int .i64 41)))), (.k (.c (.v (.int .i64 0)))), (.k (.c (.v (.int .i64 0))))]), none⟩, ⟨(some 56), (.mv (.t 58)), none⟩, ⟨(some 59), (.ext 0 (.t 56)), none⟩, ⟨(some 60), (.ext 1 (.t 56)), none⟩, ⟨(some 61), (.ext 2 (.t 56)), none⟩, ⟨(some 14), (.new 29 [(.v (.slice none 0 0)), (.v (.slice none 0 0)), (.v (.slice none 0 0)), (.v (.slice none 0 0)), (.v (.slice none 0 0))]), none⟩, ⟨(some 15), (.new 42 [(.v (.int .i64 0)), (.v (.int .i64 0))]), none⟩, ⟨none, (.st 5 (.t 14) (.t 59)), none⟩, ⟨none, (.st 2 (.t 15) (.t 60)), none⟩, ⟨(some 16), (.mv (.t 61)), none⟩]) (.kill [56, 57, 58, 59, 60, 61] (.seq (.seq (.ops [⟨(some 62), (.mv (.t 16)), none⟩, ⟨(some 63), (.bin .neq (.t 62) (.k (.c (.v (.int .i64 0))))), none⟩, ⟨(some 64), (.mv (.t 63)), none⟩, ⟨(some 65), (.ld true 2 (.t 15)), (some (64, false))⟩, ⟨(some 66), (.mv (.t 13)), (some (64, false))⟩, ⟨(some 67), (.build [(.v (.int .i64 0)), (.v (.int .i64 0))] [(0, (1, (.k (.c (.v (.int .i64 2)))))), (1, (1, (.t 66)))]), (some (64, false))⟩, ⟨(some 68), (.eqa true [true, true] (.t 65) (.t 67)), (some (64, false))⟩, ⟨(some 69), (.pick (.t 64) (.k (.c (.v (.bool true)))) (.t 68)), none⟩]) (.kill [13, 15, 16, 62, 63, 64, 65, 66, 67, 68] (.cond (.t 69) (.seq (.ops [⟨(some 4), (.mv (.k (.c (.v (.bool false))))), none⟩]) (.kill [5, 14, 50, 51, 52, 69] .ret)) .skip))) (.kill [4, 69] (.ops [⟨(some 70), (.ld true 5 (.t 14)), none⟩, ⟨none, (.st 5 (.t 5) (.t 70)), none⟩])))))))) (.kill [4, 13, 14, 15, 16, 54, 55, 56, 57, 58, 59, 60, 61, 62, 63, 64, 65, 66, 67, 68, 69, 70] (.ops [⟨(some 71), (.bin .add (.t 52) (.k (.c (.v (.int .i64 1))))), none⟩, ⟨(some 52), (.mv (.t 71)), none⟩]))))))))))) (.kill [4, 13, 14, 15, 16, 50, 51, 52, 53, 54, 55, 56, 57, 58, 59, 60, 61, 62, 63, 64, 65, 66, 67, 68, 69, 70, 71] (.seq (.ops [⟨(some 73), (.ld true 5 (.t 5)), none⟩, ⟨(some 74), (.call 25 [(.t 73), (.k (.c (.v (.int .i64 41)))), (.k (.c (.v (.int .i64 0)))), (.k (.c (.v (.int .i64 0))))]), none⟩, ⟨(some 72), (.mv (.t 74)), none⟩, ⟨(some 75), (.ext 0 (.t 72)), none⟩, ⟨(some 76), (.ext 1 (.t 72)), none⟩, ⟨(some 77), (.ext 2 (.t 72)), none⟩, ⟨(some 17), (.new 29 [(.v (.slice none 0 0)), (.v (.slice none 0 0)), (.v (.slice none 0 0)), (.v (.slice none 0 0)), (.v (.slice none 0 0))]), none⟩, ⟨(some 18), (.new 42 [(.v (.int .i64 0)), (.v (.int .i64 0))]), none⟩, ⟨none, (.st 5 (.t 17) (.t 75)), none⟩, ⟨none, (.st 2 (.t 18) (.t 76)), none⟩, ⟨(some 19), (.mv (.t 77)), none⟩]) (.kill [5, 17, 72, 73, 74, 75, 76, 77] (.seq (.ops [⟨(some 78), (.mv (.t 19)), none⟩, ⟨(some 79), (.bin .eql (.t 78) (.k (.c (.v (.int .i64 0))))), none⟩, ⟨(some 80), (.mv (.t 79)), none⟩, ⟨(some 81), (.ld true 2 (.t 18)), (some (80, true))⟩, ⟨(some 82), (.build [(.v (.int .i64 0)), (.v (.int .i64 0))] [(0, (1, (.k (.c (.v (.int .i64 3))))))]), (some (80, true))⟩, ⟨(some 83), (.eqa false [true, true] (.t 81) (.t 82)), (some (80, true))⟩, ⟨(some 84), (.pick (.t 80) (.t 83) (.k (.c (.v (.bool false))))), none⟩, ⟨(some 85), (.mv (.t 84)), none⟩, ⟨(some 86), (.call 26 []), (some (85, true))⟩, ⟨(some 87), (.pick (.t 85) (.t 86) (.k (.c (.v (.bool false))))), none⟩, ⟨(some 4), (.mv (.t 87)), none⟩]) (.kill [18, 19, 78, 79, 80, 81, 82, 83, 84, 85, 86, 87] .ret))))))))))))))))
def rs7 : List RS := [(.t 4)]
def nt7 : Nat := 88
set_option maxRecDepth 100000 in
set_option maxHeartbeats 400000 in
theorem queues_walk (w : World) (v v' : Value) (m : MC) (xs : List Int) (N : Nat) (hc : Cont w v m) (hu : m.upto N) (hN : N ≤ 10000000) (h' : Arr w eI 1 v' xs) (hx : xs.length ≤ N) : Calls Try.prog 7 #[v, v'] w (RetV w (.bool true)) := by
  have hok : MC.okR m := hu.okR (by omega)
  refine enterCL (A := []) (c := ir7) (rs := rs7) (nt := nt7) hc (0 : Int) eI_ok h' [.agg (mcS 0), .c (.xv (5, 0, 0))] _ Try.func7 rfl (by kernel_rfl) (by kernel_rfl) rfl (fun E' h0 h1 => by rw [List.map_cons, h0]; simp [SV.den, SC.den, h1]) (of_decide_eq_true rfl) ?_
  simp (config := { maxSteps := 2000000 }) only [ir7, nt7, rs7, go_sem, ↓condS, ↓exitS, ↓gateS, ↓runOp, ↓gateD, ↓runD, ↓imp_ft, ↓imp_tf, ↓imp_tt, ↓imp_ff, ↓imp_fn, ↓imp_tn, ↓imp_fy, ↓imp_ty, ↓reduceIte, Nat.reduceLT, Nat.reduceLeDiff, Nat.reduceAdd, Nat.reduceSub, Nat.reduceMul, Nat.reduceEqDiff, reduceCtorEq, Int.reduceToNat, Int.reduceEq, Int.reduceBEq, Int.reduceBNe, Int.reduceLT, Int.reduceLE, Int.reduceNeg, Int.reduceAdd, Int.reduceSub, Int.reduceMul, Int.reduceGE, Int.reduceGT, Cl.enc, iv, endO, mcS, mcA, List.cons_append, List.nil_append]
  refine callB 5 cT (mcR (rightZ m)) (fun E a w' hs => right_Z (cont_at hs 0 rfl rfl rfl rfl rfl) (hok.1.le (by decide))) ?_
  have hu0 := rightZ_upto hu
  have hm0 := rightZ_may m
  generalize rightZ m = m0 at hu0 hm0 ⊢
  have hq0 : m0.queue.length ≤ N := hu0.2.2.1
  simp (config := { maxSteps := 2000000 }) only [go_sem, ↓condS, ↓exitS, ↓gateS, ↓runOp, ↓gateD, ↓runD, ↓imp_ft, ↓imp_tf, ↓imp_tt, ↓imp_ff, ↓imp_fn, ↓imp_tn, ↓imp_fy, ↓imp_ty, ↓reduceIte, Nat.reduceLT, Nat.reduceLeDiff, Nat.reduceAdd, Nat.reduceSub, Nat.reduceMul, Nat.reduceEqDiff, reduceCtorEq, Int.reduceToNat, Int.reduceEq, Int.reduceBEq, Int.reduceBNe, Int.reduceLT, Int.reduceLE, Int.reduceNeg, Int.reduceAdd, Int.reduceSub, Int.reduceMul, Int.reduceGE, Int.reduceGT, Cl.enc, iv, endO, cT, mcS, mcR, mcA]
  refine loopI (ι := { k : Nat // k ≤ xs.length }) (fun g => ⟨88, [(1, .c (.xv (5, 0, 0))), (2, .c (.ptr (6, 0, 0) 0)), (5, .c (.ptr (7, 0, 0) 0)), (23, .c (.xv (5, 0, 0))), (24, .c (.v (.int .i64 xs.length))), (25, .c (.v (.int .i64 (g.1 : Nat))))],
    [(6, .one (.bk (mcS 8) 29)), (7, .one (.bk (mcS 0) 29))], mcA 0 (wq m0 (m0.queue ++ xs.take g.1)) ++ (5, .one (arrOf eI 1 xs 0)) :: mcA 8 m0, [], 15⟩)
    (fun g => xs.length - g.1) ⟨0, by omega⟩ ?_ ?_
  · simp only [mcS, mcA, List.cons_append, List.nil_append, List.take_zero, List.append_nil, wq_self]
    exact (le_ren (fun i => if i < 5 then i + 7 else if i = 7 then 12 else if 8 ≤ i ∧ i < 13 then i - 1 else i) rfl rfl (by simp [TmpsLe, look, SV.ren, SC.ren, SC.renL, ren1L, ren1, idσ, SV.okN, SC.okN, SC.okL, ok1L]) (by simp [OwnLe, BlkLeO, BlkLe, atN, look, Fm.get, idσ, SC.renL, SC.ren, SC.okL, SC.okN, renL_v, okL_v, ren_ats, ok_ats]) (by simp [ArrsLe, ArrLeO, atN, look, Fm.get, idσ, arrLe_of, arrLe_0]) rfl)
  rintro ⟨k, hk⟩
  simp (config := { maxSteps := 2000000 }) only [go_sem, ↓condS, ↓exitS, ↓gateS, ↓runOp, ↓gateD, ↓runD, ↓imp_ft, ↓imp_tf, ↓imp_tt, ↓imp_ff, ↓imp_fn, ↓imp_tn, ↓imp_fy, ↓imp_ty, ↓reduceIte, Nat.reduceLT, Nat.reduceLeDiff, Nat.reduceAdd, Nat.reduceSub, Nat.reduceMul, Nat.reduceEqDiff, reduceCtorEq, Int.reduceToNat, Int.reduceEq, Int.reduceBEq, Int.reduceBNe, Int.reduceLT, Int.reduceLE, Int.reduceNeg, Int.reduceAdd, Int.reduceSub, Int.reduceMul, Int.reduceGE, Int.reduceGT, Cl.enc, iv, endO, mcS, mcA, List.cons_append, List.nil_append]
  refine both (fun hlt => ?_) (fun hge => ?_)
  · rw [decide_eq_true_eq] at hlt
    have hlt : k < xs.length := by omega
    have htk : xs.take (k + 1) = xs.take k ++ [xs.getD k 0] := by rw [List.take_succ_eq_append_getElem hlt]; simp [List.getD_eq_getElem?_getD, List.getElem?_eq_getElem hlt]
    have htl : (xs.take k).length = k := by simp; omega
    have hup : (wq m0 (m0.queue ++ xs.take k)).upto (2 * N) := wq_up hu0 (by simp only [List.length_append, htl]; omega) (by omega)
    simp (config := { maxSteps := 2000000 }) only [go_sem, ↓condS, ↓exitS, ↓gateS, ↓runOp, ↓gateD, ↓runD, ↓imp_ft, ↓imp_tf, ↓imp_tt, ↓imp_ff, ↓imp_fn, ↓imp_tn, ↓imp_fy, ↓imp_ty, ↓reduceIte, Nat.reduceLT, Nat.reduceLeDiff, Nat.reduceAdd, Nat.reduceSub, Nat.reduceMul, Nat.reduceEqDiff, reduceCtorEq, Int.reduceToNat, Int.reduceEq, Int.reduceBEq, Int.reduceBNe, Int.reduceLT, Int.reduceLE, Int.reduceNeg, Int.reduceAdd, Int.reduceSub, Int.reduceMul, Int.reduceGE, Int.reduceGT, Cl.enc, iv, endO, eI]
    repeat (with_reducible refine And.intro (by first | (simp only [maxLen]; omega) | omega | decide | (simp; done) | (simp [maxLen]; omega)) ?_)
    refine callB 5 (d3T (wq m0 (m0.queue ++ xs.take (k + 1)), 1, 0) 0) (mcR (wq m0 (m0.queue ++ xs.take (k + 1)))) (fun E a w' hs => by
      have := do_Z (w := w') 40 (xs.getD k 0) 0 (cont_at hs 0 rfl rfl rfl rfl rfl) (hup.okR (by omega)).1 (by rw [wq_may]; exact hm0) (by decide)
      rw [enq, List.append_assoc, ← htk] at this
      exact this) ?_
    simp (config := { maxSteps := 2000000 }) only [go_sem, ↓condS, ↓exitS, ↓gateS, ↓runOp, ↓gateD, ↓runD, ↓imp_ft, ↓imp_tf, ↓imp_tt, ↓imp_ff, ↓imp_fn, ↓imp_tn, ↓imp_fy, ↓imp_ty, ↓reduceIte, Nat.reduceLT, Nat.reduceLeDiff, Nat.reduceAdd, Nat.reduceSub, Nat.reduceMul, Nat.reduceEqDiff, reduceCtorEq, Int.reduceToNat, Int.reduceEq, Int.reduceBEq, Int.reduceBNe, Int.reduceLT, Int.reduceLE, Int.reduceNeg, Int.reduceAdd, Int.reduceSub, Int.reduceMul, Int.reduceGE, Int.reduceGT, Cl.enc, iv, endO, d3T, mcS, mcR, mcA, eI, forkS]
    rw [wr_succ (by omega)]
    refine backI ⟨k + 1, hlt⟩ (by simp only; omega) ?_
    simp only [mcS, mcA, List.cons_append, List.nil_append]
    exact (le_ren (fun i => if i < 5 then i + 15 else i) rfl rfl (by simp [TmpsLe, look, SV.ren, SC.ren, SC.renL, ren1L, ren1, idσ, SV.okN, SC.okN, SC.okL, ok1L]) (by simp [OwnLe, BlkLeO, BlkLe, atN, look, Fm.get, idσ, SC.renL, SC.ren, SC.okL, SC.okN, renL_v, okL_v, ren_ats, ok_ats]) (by simp [ArrsLe, ArrLeO, atN, look, Fm.get, idσ, arrLe_of, arrLe_0]) rfl)
  rw [decide_eq_false_iff_not] at hge
  have hkl : k = xs.length := by omega
  subst hkl
  rw [List.take_length]
  repeat (with_reducible refine And.intro (by first | (simp only [maxLen]; omega) | omega | decide | (simp; done) | (simp [maxLen]; omega)) ?_)
  refine loopI (ι := { k : Nat // k ≤ (m0.queue ++ xs).length }) (fun g => ⟨88, [(5, .c (.ptr (7, 0, 0) 0)), (50, .c (.sl (6, 0, 0) 1 0 (m0.queue ++ xs).length none)), (51, .c (.v (.int .i64 (m0.queue ++ xs).length))), (52, .c (.v (.int .i64 (g.1 : Nat))))],
    [(6, .one (.ar (m0.queue ++ xs).length 1 (ats eI (m0.queue ++ xs) 0) 3)), (7, .one (.bk (mcS 0) 29))], mcA 0 (wq m0 ((m0.queue ++ xs).drop g.1)), [], 8⟩)
    (fun g => (m0.queue ++ xs).length - g.1) ⟨0, by omega⟩ ?_ ?_
  · simp only [mcS, mcA, List.cons_append, List.nil_append, List.drop_zero]
    refine le_ren (fun i => if i = 6 then 16 else i) rfl rfl (by simp [TmpsLe, look, SV.ren, SC.ren, SC.renL, ren1L, ren1, idσ, SV.okN, SC.okN, SC.okL, ok1L]) ⟨⟨of_decide_eq_true rfl, arLe_of (by simp) (ats_app rfl rfl (fun e he => rfl) (fun e he => rfl))⟩, ⟨of_decide_eq_true rfl, by simp [BlkLeO, atN, look, Fm.get, idσ, BlkLe, SC.renL, SC.ren, SC.okL, SC.okN]⟩, trivial⟩ (by simp [ArrsLe, ArrLeO, atN, look, Fm.get, idσ, arrLe_of, arrLe_0]) rfl
  rintro ⟨k, hk⟩
  simp (config := { maxSteps := 2000000 }) only [go_sem, ↓condS, ↓exitS, ↓gateS, ↓runOp, ↓gateD, ↓runD, ↓imp_ft, ↓imp_tf, ↓imp_tt, ↓imp_ff, ↓imp_fn, ↓imp_tn, ↓imp_fy, ↓imp_ty, ↓reduceIte, Nat.reduceLT, Nat.reduceLeDiff, Nat.reduceAdd, Nat.reduceSub, Nat.reduceMul, Nat.reduceEqDiff, reduceCtorEq, Int.reduceToNat, Int.reduceEq, Int.reduceBEq, Int.reduceBNe, Int.reduceLT, Int.reduceLE, Int.reduceNeg, Int.reduceAdd, Int.reduceSub, Int.reduceMul, Int.reduceGE, Int.reduceGT, Cl.enc, iv, endO, mcS, mcA, List.cons_append, List.nil_append, eI, ats]
  have hall : (m0.queue ++ xs).length ≤ 2 * N := by simp; omega
  generalize hal : m0.queue ++ xs = al at hk hall ⊢
  refine both (fun hlt => ?_) (fun hge => ?_)
  · rw [decide_eq_true_eq] at hlt
    have hlt : k < al.length := by omega
    have hdr : al.drop k = al.getD k 0 :: al.drop (k + 1) := by rw [List.drop_eq_getElem_cons hlt]; simp [List.getD_eq_getElem?_getD, List.getElem?_eq_getElem hlt]
    have hup : (wq m0 (al.drop k)).upto (2 * N) := wq_up hu0 (by simp; omega) (by omega)
    repeat (with_reducible refine And.intro (by first | (simp only [maxLen]; omega) | omega | decide | (simp; done) | (simp [maxLen]; omega)) ?_)
    refine callB 5 (d3T (wq m0 (al.drop (k + 1)), 2, al.getD k 0) 0) (mcR (wq m0 (al.drop (k + 1)))) (fun E a w' hs => by
      have := do_Z (w := w') 41 0 0 (cont_at hs 0 rfl rfl rfl rfl rfl) (hup.okR (by omega)).1 (by rw [wq_may]; exact hm0) (by decide)
      rw [hdr, deq] at this
      exact this) ?_
    simp (config := { maxSteps := 2000000 }) only [go_sem, ↓condS, ↓exitS, ↓gateS, ↓runOp, ↓gateD, ↓runD, ↓imp_ft, ↓imp_tf, ↓imp_tt, ↓imp_ff, ↓imp_fn, ↓imp_tn, ↓imp_fy, ↓imp_ty, ↓reduceIte, Nat.reduceLT, Nat.reduceLeDiff, Nat.reduceAdd, Nat.reduceSub, Nat.reduceMul, Nat.reduceEqDiff, reduceCtorEq, Int.reduceToNat, Int.reduceEq, Int.reduceBEq, Int.reduceBNe, Int.reduceLT, Int.reduceLE, Int.reduceNeg, Int.reduceAdd, Int.reduceSub, Int.reduceMul, Int.reduceGE, Int.reduceGT, Cl.enc, iv, endO, d3T, mcS, mcR, mcA, eI, forkS]
    rw [wr_succ (by omega)]
    refine backI ⟨k + 1, hlt⟩ (by simp only; omega) ?_
    simp only [mcS, mcA, List.cons_append, List.nil_append]
    exact (le_ren (fun i => if i < 5 then i + 8 else i) rfl rfl (by simp [TmpsLe, look, SV.ren, SC.ren, SC.renL, ren1L, ren1, idσ, SV.okN, SC.okN, SC.okL, ok1L]) (by simp [OwnLe, BlkLeO, BlkLe, atN, look, Fm.get, idσ, SC.renL, SC.ren, SC.okL, SC.okN, renL_v, okL_v, ren_ats, ok_ats]) (by simp [ArrsLe, ArrLeO, atN, look, Fm.get, idσ, arrLe_of, arrLe_0]) rfl)
  rw [decide_eq_false_iff_not] at hge
  have hkl : k = al.length := by omega
  subst hkl
  rw [List.drop_length]
  have hup : (wq m0 []).upto (2 * N) := wq_up hu0 (Nat.zero_le _) (by omega)
  refine callB 5 (d3T (wq m0 [], 3, 0) 0) (mcR (wq m0 [])) (fun E a w' hs => by
    have := do_Z (w := w') 41 0 0 (cont_at hs 0 rfl rfl rfl rfl rfl) (hup.okR (by omega)).1 (by rw [wq_may]; exact hm0) (by decide)
    rw [deq0] at this
    exact this) ?_
  simp (config := { maxSteps := 2000000 }) only [go_sem, ↓condS, ↓exitS, ↓gateS, ↓runOp, ↓gateD, ↓runD, ↓imp_ft, ↓imp_tf, ↓imp_tt, ↓imp_ff, ↓imp_fn, ↓imp_tn, ↓imp_fy, ↓imp_ty, ↓reduceIte, Nat.reduceLT, Nat.reduceLeDiff, Nat.reduceAdd, Nat.reduceSub, Nat.reduceMul, Nat.reduceEqDiff, reduceCtorEq, Int.reduceToNat, Int.reduceEq, Int.reduceBEq, Int.reduceBNe, Int.reduceLT, Int.reduceLE, Int.reduceNeg, Int.reduceAdd, Int.reduceSub, Int.reduceMul, Int.reduceGE, Int.reduceGT, Cl.enc, iv, endO, d3T, mcS, mcR, mcA, eI, forkS]
  refine guardW (.c (.v (.bool true))) (.bool true) (fun E => rfl) (fun E a w' hs => awake_Z w') ?_
  simp (config := { maxSteps := 2000000 }) only [go_sem, ↓condS, ↓exitS, ↓gateS, ↓runOp, ↓gateD, ↓runD, ↓imp_ft, ↓imp_tf, ↓imp_tt, ↓imp_ff, ↓imp_fn, ↓imp_tn, ↓imp_fy, ↓imp_ty, ↓reduceIte, Nat.reduceLT, Nat.reduceLeDiff, Nat.reduceAdd, Nat.reduceSub, Nat.reduceMul, Nat.reduceEqDiff, reduceCtorEq, Int.reduceToNat, Int.reduceEq, Int.reduceBEq, Int.reduceBNe, Int.reduceLT, Int.reduceLE, Int.reduceNeg, Int.reduceAdd, Int.reduceSub, Int.reduceMul, Int.reduceGE, Int.reduceGT, Cl.enc, iv, endO]
  exact retV fun E => by simp [SV.den, SC.den]
end Go.Proofs.Ytgljbdcamagdbaa.Z
