
/- Which calls may be: the reference. No statement of the program. -/
import Derived.Test.YtkjeedlkkpgopaaWF
namespace Go.Proofs.Ytkjeedlkkpgopaa.Z
open Go Go.RowKit
set_option linter.unusedSimpArgs false
set_option linter.unusedVariables false

def ir16 : IR := (.seq (.ops [⟨(some 2), (.mv (.k (.c (.v (.bool false))))), none⟩]) (.kill [1, 2, 3, 4, 5, 6, 7, 8, 9, 10, 11] (.seq (.ops [⟨(some 7), (.mks 3 1 8 [(.v (.int .i64 0))] (.k (.c (.v (.int .i64 16)))) (.k (.c (.v (.int .i64 16))))), none⟩, ⟨(some 3), (.mv (.t 7)), none⟩]) (.kill [7] (.seq (.seq (.ops [⟨(some 4), (.mv (.k (.c (.v (.int .i64 0))))), none⟩]) (.blk 0 (.loop (.seq (.seq (.ops [⟨(some 8), (.mv (.t 4)), none⟩, ⟨(some 9), (.mv (.t 0)), none⟩, ⟨(some 10), (.len (.t 9)), none⟩, ⟨(some 11), (.bin .lss (.t 8) (.t 10)), none⟩]) (.kill [2, 5, 6, 8, 9, 10, 12, 13, 14, 15, 16, 17, 18, 19, 20, 21, 22, 23, 24, 25, 26, 27, 28, 29, 30, 31, 32, 33, 34, 35, 36, 37, 38, 39, 40, 41, 42, 43, 44, 45, 46, 47, 48, 49, 50, 51, 52, 53, 54, 55, 56, 57, 58, 59, 60, 61, 62, 63, 64, 65, 66, 67, 68, 69, 70, 71, 72, 73] (.cond (.t 11) .skip (.exit 0)))) (.kill [11] (.seq (.blk 1 (.seq (.seq (.draw [(⟨(some 14), (.mv (.t 0)), none⟩, ([], [15])), (⟨(some 15), (.mv (.t 4)), none⟩, ([0], [14])), (⟨(some 16), (.ia 9 (.t 14) (.t 15)), none⟩, ([], [])), (⟨(some 17), (.ld true 9 (.t 16)), none⟩, ([], [])), (⟨(some 18), (.call 38 [(.t 17)]), none⟩, ([], [])), (⟨(some 19), (.un .not (.t 18)), none⟩, ([], [])), (⟨(some 20), (.mv (.t 19)), none⟩, ([], [])), (⟨(some 21), (.mv (.t 4)), (some (20, false))⟩, ([], [])), (⟨(some 22), (.bin .gtr (.t 21) (.k (.c (.v (.int .i64 0))))), (some (20, false))⟩, ([], [])), (⟨(some 23), (.mv (.t 22)), (some (20, false))⟩, ([], [])), (⟨(some 24), (.mv (.t 0)), (some (23, true))⟩, ([], [25, 29, 30, 31, 32, 33, 34])), (⟨(some 25), (.mv (.t 4)), (some (23, true))⟩, ([10], [24, 29, 30, 31, 32, 33, 34])), (⟨(some 26), (.ia 9 (.t 24) (.t 25)), (some (23, true))⟩, ([], [29, 30, 31, 32, 33, 34])), (⟨(some 27), (.fa 4 (.t 26)), (some (23, true))⟩, ([], [29, 30, 31, 32, 33, 34])), (⟨(some 28), (.ld false 1 (.t 27)), (some (23, true))⟩, ([], [29, 30, 31, 32, 33, 34])), (⟨(some 29), (.mv (.t 0)), (some (23, true))⟩, ([10, 11, 12, 13, 14], [24, 25, 26, 27, 28, 30, 31])), (⟨(some 30), (.mv (.t 4)), (some (23, true))⟩, ([10, 11, 12, 13, 14, 15], [24, 25, 26, 27, 28, 29])), (⟨(some 31), (.bin .sub (.t 30) (.k (.c (.v (.int .i64 1))))), (some (23, true))⟩, ([10, 11, 12, 13, 14, 15], [24, 25, 26, 27, 28, 29])), (⟨(some 32), (.ia 9 (.t 29) (.t 31)), (some (23, true))⟩, ([10, 11, 12, 13, 14], [24, 25, 26, 27, 28])), (⟨(some 33), (.fa 4 (.t 32)), (some (23, true))⟩, ([10, 11, 12, 13, 14], [24, 25, 26, 27, 28])), (⟨(some 34), (.ld false 1 (.t 33)), (some (23, true))⟩, ([10, 11, 12, 13, 14], [24, 25, 26, 27, 28])), (⟨(some 35), (.bin .leq (.t 28) (.t 34)), (some (23, true))⟩, ([], [])), (⟨(some 36), (.pick (.t 23) (.t 35) (.k (.c (.v (.bool false))))), (some (20, false))⟩, ([], [])), (⟨(some 37), (.pick (.t 20) (.k (.c (.v (.bool true)))) (.t 36)), none⟩, ([], []))]) (.kill [14, 15, 16, 17, 18, 19, 20, 21, 22, 23, 24, 25, 26, 27, 28, 29, 30, 31, 32, 33, 34, 35, 36] (.cond (.t 37) (.seq (.ops [⟨(some 2), (.mv (.k (.c (.v (.bool false))))), none⟩]) (.kill [0, 3, 4, 37] .ret)) .skip))) (.kill [2, 37] (.seq (.ops [⟨(some 38), (.mv (.t 0)), none⟩, ⟨(some 39), (.mv (.t 4)), none⟩, ⟨(some 40), (.ia 9 (.t 38) (.t 39)), none⟩, ⟨(some 41), (.fa 0 (.t 40)), none⟩, ⟨(some 42), (.ld false 1 (.t 41)), none⟩, ⟨(some 5), (.mv (.t 42)), none⟩]) (.kill [38, 39, 40, 41, 42] (.seq (.seq (.ops [⟨(some 43), (.mv (.t 3)), none⟩, ⟨(some 44), (.mv (.t 5)), none⟩, ⟨(some 45), (.ia 1 (.t 43) (.t 44)), none⟩, ⟨(some 46), (.ld false 1 (.t 45)), none⟩, ⟨(some 47), (.bin .gtr (.t 46) (.k (.c (.v (.int .i64 0))))), none⟩]) (.kill [43, 44, 45, 46] (.cond (.t 47) (.seq (.ops [⟨(some 48), (.mv (.t 0)), none⟩, ⟨(some 49), (.mv (.t 3)), none⟩, ⟨(some 50), (.mv (.t 5)), none⟩, ⟨(some 51), (.ia 1 (.t 49) (.t 50)), none⟩, ⟨(some 52), (.ld false 1 (.t 51)), none⟩, ⟨(some 53), (.bin .sub (.t 52) (.k (.c (.v (.int .i64 1))))), none⟩, ⟨(some 54), (.ia 9 (.t 48) (.t 53)), none⟩, ⟨(some 55), (.ld true 9 (.t 54)), none⟩, ⟨(some 6), (.new 53 [(.v (.int .i64 0)), (.v (.int .i64 0)), (.v (.int .i64 0)), (.v (.int .i64 0)), (.v (.int .i64 0)), (.v (.int .i64 0)), (.v (.int .i64 0)), (.v (.int .i64 0)), (.v (.int .i64 0))]), none⟩, ⟨none, (.st 9 (.t 6) (.t 55)), none⟩]) (.kill [47, 48, 49, 50, 51, 52, 53, 54, 55] (.seq (.draw [(⟨(some 56), (.fa 5 (.t 6)), none⟩, ([], [])), (⟨(some 57), (.ld false 1 (.t 56)), none⟩, ([], [])), (⟨(some 58), (.bin .eql (.t 57) (.k (.c (.v (.int .i64 (-1)))))), none⟩, ([], [])), (⟨(some 59), (.mv (.t 58)), none⟩, ([], [])), (⟨(some 60), (.fa 5 (.t 6)), (some (59, false))⟩, ([], [62, 63, 64, 65, 66])), (⟨(some 61), (.ld false 1 (.t 60)), (some (59, false))⟩, ([], [62, 63, 64, 65, 66])), (⟨(some 62), (.mv (.t 0)), (some (59, false))⟩, ([4, 5], [60, 61, 63])), (⟨(some 63), (.mv (.t 4)), (some (59, false))⟩, ([4, 5, 6], [60, 61, 62])), (⟨(some 64), (.ia 9 (.t 62) (.t 63)), (some (59, false))⟩, ([4, 5], [60, 61])), (⟨(some 65), (.fa 4 (.t 64)), (some (59, false))⟩, ([4, 5], [60, 61])), (⟨(some 66), (.ld false 1 (.t 65)), (some (59, false))⟩, ([4, 5], [60, 61])), (⟨(some 67), (.bin .gtr (.t 61) (.t 66)), (some (59, false))⟩, ([], [])), (⟨(some 68), (.pick (.t 59) (.k (.c (.v (.bool true)))) (.t 67)), none⟩, ([], []))]) (.kill [6, 56, 57, 58, 59, 60, 61, 62, 63, 64, 65, 66, 67] (.cond (.t 68) (.seq (.ops [⟨(some 2), (.mv (.k (.c (.v (.bool false))))), none⟩]) (.kill [0, 3, 4, 5, 68] .ret)) .skip))))) .skip))) (.kill [2, 47, 68] (.ops [⟨(some 69), (.mv (.t 3)), none⟩, ⟨(some 70), (.mv (.t 5)), none⟩, ⟨(some 71), (.mv (.t 4)), none⟩, ⟨(some 72), (.bin .add (.t 71) (.k (.c (.v (.int .i64 1))))), none⟩, ⟨(some 73), (.ia 1 (.t 69) (.t 70)), none⟩, ⟨none, (.st 1 (.t 73) (.t 72)), none⟩])))))))) (.kill [2, 5, 6, 14, 15, 16, 17, 18, 19, 20, 21, 22, 23, 24, 25, 26, 27, 28, 29, 30, 31, 32, 33, 34, 35, 36, 37, 38, 39, 40, 41, 42, 43, 44, 45, 46, 47, 48, 49, 50, 51, 52, 53, 54, 55, 56, 57, 58, 59, 60, 61, 62, 63, 64, 65, 66, 67, 68, 69, 70, 71, 72, 73] (.ops [⟨(some 12), (.mv (.t 4)), none⟩, ⟨(some 13), (.bin .add (.t 12) (.k (.c (.v (.int .i64 1))))), none⟩, ⟨(some 4), (.mv (.t 13)), none⟩])))))))) (.kill [2, 3, 4, 5, 6, 8, 9, 10, 11, 12, 13, 14, 15, 16, 17, 18, 19, 20, 21, 22, 23, 24, 25, 26, 27, 28, 29, 30, 31, 32, 33, 34, 35, 36, 37, 38, 39, 40, 41, 42, 43, 44, 45, 46, 47, 48, 49, 50, 51, 52, 53, 54, 55, 56, 57, 58, 59, 60, 61, 62, 63, 64, 65, 66, 67, 68, 69, 70, 71, 72, 73] (.seq (.ops [⟨(some 74), (.mv (.t 0)), none⟩, ⟨(some 75), (.call 39 [(.t 74)]), none⟩, ⟨(some 2), (.mv (.t 75)), none⟩]) (.kill [0, 74, 75] .ret))))))))
def rs16 : List RS := [(.t 2)]
def nt16 : Nat := 76

def lastR (xs : List Cl) : Nat → Nat → Int
  | 0, _ => 0
  | i + 1, e => if e = (xs.getD i cl0).thread.toNat then ((i + 1 : Nat) : Int) else lastR xs i e
def cellR (xs : List Cl) (i e : Nat) : List SC := [.v (.int .i64 (lastR xs i e))]
theorem lastR_spec (xs : List Cl) (e : Nat) : ∀ i, (lastR xs i e = 0 ∧ ∀ k, k < i → (xs.getD k cl0).thread.toNat ≠ e) ∨ ∃ j : Nat, j < i ∧ lastR xs i e = ((j + 1 : Nat) : Int) ∧ (xs.getD j cl0).thread.toNat = e ∧ ∀ k, j < k → k < i → (xs.getD k cl0).thread.toNat ≠ e
  | 0 => Or.inl ⟨rfl, fun k hk => by omega⟩
  | i + 1 => by
    simp only [lastR]
    by_cases h : e = (xs.getD i cl0).thread.toNat
    · rw [if_pos h]
      exact Or.inr ⟨i, by omega, rfl, h.symm, fun k h1 h2 => by omega⟩
    · rw [if_neg h]
      rcases lastR_spec xs e i with ⟨h1, h2⟩ | ⟨j, h1, h2, h3, h4⟩
      · refine Or.inl ⟨h1, fun k hk => ?_⟩
        by_cases hki : k = i
        · subst hki; exact fun h' => h h'.symm
        · exact h2 k (by omega)
      · refine Or.inr ⟨j, by omega, h2, h3, fun k hk hk' => ?_⟩
        by_cases hki : k = i
        · subst hki; exact fun h' => h h'.symm
        · exact h4 k hk (by omega)
/-- as InvA, but a thread's call may end where its next begins -/
structure InvR (xs : List Cl) (n : Nat) : Prop where
  shaped : ∀ k, k < n → shapedB (xs.getD k cl0) = true
  up : ∀ k, k + 1 < n → (xs.getD k cl0).beg < (xs.getD (k + 1) cl0).beg
  thr : ∀ j k, j < k → k < n → (xs.getD j cl0).thread = (xs.getD k cl0).thread → (xs.getD j cl0).fin ≠ -1 ∧ (xs.getD j cl0).fin ≤ (xs.getD k cl0).beg
theorem invR_of {xs : List Cl} {n : Nat} (h : InvA xs n) : InvR xs n := ⟨h.shaped, h.up, fun j k h1 h2 h3 => ⟨(h.thr j k h1 h2 h3).1, Int.le_of_lt (h.thr j k h1 h2 h3).2⟩⟩
theorem mayP_of {xs : List Cl} (h : InvR xs xs.length) (hB : InvB xs xs.length) : mayP xs := by
  refine ⟨⟨h.shaped, h.up, fun j k h1 h2 h3 => ?_⟩, hB⟩
  obtain ⟨g1, g2⟩ := h.thr j k h1 h2 h3
  refine ⟨g1, ?_⟩
  rcases Int.lt_or_eq_of_le g2 with e | e
  · exact e
  · exact absurd (by rw [e]; simp [Cl.moves]) (hB j k h1 h2 _ g1 (by simp [Cl.moves]))
theorem invR_step {xs : List Cl} {i : Nat} (h : InvR xs i) (h1 : shapedB (xs.getD i cl0) = true) (h2 : 0 < i → (xs.getD (i - 1) cl0).beg < (xs.getD i cl0).beg)
    (h3 : ∀ j : Nat, j < i → (xs.getD j cl0).thread = (xs.getD i cl0).thread → (∀ k, j < k → k < i → (xs.getD k cl0).thread ≠ (xs.getD i cl0).thread) → (xs.getD j cl0).fin ≠ -1 ∧ (xs.getD j cl0).fin ≤ (xs.getD i cl0).beg) : InvR xs (i + 1) := by
  have hsh : ∀ k, k < i + 1 → shapedB (xs.getD k cl0) = true := fun k hk => by
    by_cases hki : k = i
    · subst hki; exact h1
    · exact h.shaped k (by omega)
  refine ⟨hsh, fun k hk => ?_, fun j k hj hk ht => ?_⟩
  · by_cases hki : k + 1 = i
    · have := h2 (by omega)
      subst hki
      simpa using this
    · exact h.up k (by omega)
  · by_cases hki : k = i
    · subst hki
      have key : ∀ m j : Nat, k - j ≤ m → j < k → (xs.getD j cl0).thread = (xs.getD k cl0).thread → (xs.getD j cl0).fin ≠ -1 ∧ (xs.getD j cl0).fin ≤ (xs.getD k cl0).beg := by
        intro m
        induction m with
        | zero => intro j hm hj _; omega
        | succ m ih =>
          intro j hm hj ht
          by_cases hex : ∃ q, j < q ∧ q < k ∧ (xs.getD q cl0).thread = (xs.getD k cl0).thread
          · obtain ⟨q, hq1, hq2, hq3⟩ := hex
            have g1 := ih q (by omega) hq2 hq3
            have g2 := h.thr j q hq1 hq2 (ht.trans hq3.symm)
            have g3 := h.shaped q hq2
            simp only [shapedB, decide_eq_true_eq] at g3
            have g4 := g3.1.2.2.2 g1.1
            exact ⟨g2.1, by omega⟩
          · exact h3 j hj ht fun q hq1 hq2 hq3 => hex ⟨q, hq1, hq2, hq3⟩
      exact key k j (by omega) hj ht
    · exact h.thr j k hj (by omega) ht

set_option maxRecDepth 100000 in
set_option maxHeartbeats 400000 in
theorem rmay_calls (w : World) (v : Value) (xs : List Cl) (b : Bool) (hbt : mayP xs → b = true) (hbf : ¬ mayP xs → b = false) (hsz : xs.length * 72 ≤ 140737488355328) (h : Arr w Cl.enc 9 v xs) : Calls Try.prog 16 #[v] w (RetV w (.bool b)) := by
  refine calls_sym (c := ir16) (C := mkC Try.prog [] w rs16 (RetV w (.bool b))) 1000 [.c (.xv (0, 0, 0))] 
    (E1 v) [] [(0, .one (arrOf Cl.enc 9 xs cl0))] [] 1 nt16 _ (mkTab_ok _ _) Try.func16 rfl (by kernel_rfl) (by kernel_rfl) rfl rfl rfl (E1_one (arr_one h))
    (fun E' hE' => ?_) (of_decide_eq_true rfl) (fun E' hE' => inOk_arrs fun w' hw' x A hA => ?_) ?_
  · have e0 := (hE' (0, 0, 0) (by decide)).2.2.2
    simp [SV.den, SC.den, e0, E1]
  · have e0 := (hE' (0, 0, 0) (by decide)).2.2.2
    rcases atN_one hA with ⟨rfl, rfl⟩ | hA
    · exact arr1 cl_ok e0 h hw'
    exact (atN_nil hA).elim
  have hmx : maxLen = 9223372036854775807 := by decide
  simp only [ir16, nt16, rs16, ex_nil, ex_skip, ex_ops, ex_draw, ex_seq, ex_cond, ex_blk, ex_loop, ex_exit, ex_ret, ex_mark, ex_kill, ex_pop, ex_onil, ex_op, ex_opg, ↓condS, ↓exitS, ↓gateS, ↓runOp, thenS, stepOut, St.ev, look, setL, mergeL, dropL, memB, atN, pkN, setN, Fm.get, Fm.pk, Fm.set, St.app, St.putT, St.skipT, St.setB, St.kill, St.call, St.setA, St.resS, specS, specO, specC, chain, chainP, inCh, resV, rsvP, resT, slot1, slotL, pureSlots, St.evW, resA1, resAP, resA, gB, specD, specDO, recG, pure1, pureO, SV.cells, SC.one, allOne, fillP, put, take', drop', len', nth, binI, eqCells, SC.bool?, SC.nil?, neg?, evs, evC, popTo, resL, resP, resSV, oneSV, finS, retS, dr_nil, dr_cons, ↓gateD, ↓runD, thenD, recOf, skipR, wrOk, wrFree, wkImp, St.weak, thenW, recW, fimp_mpe, newOk, outOk, St.appN, St.hid, St.only, keepK, useO, idX, idC, tchs, keyss, Rec.tch, keysL, ltAll, enumT, slSrc, slB, slM, SV.int?, segs, keyOf, intsOf, Value.oneCell', ↓imp_ft, ↓imp_tf, ↓imp_tt, ↓imp_ff, ↓imp_fn, ↓imp_tn, ↓imp_fy, ↓imp_ty, ↓reduceIte, Nat.reduceLT, Nat.reduceLeDiff, Nat.reduceAdd, Nat.reduceSub, Nat.reduceMul, Nat.reduceEqDiff, reduceCtorEq, and_self, and_true, true_and, and_false, false_and, not_true_eq_false, not_false_eq_true, List.map_cons, List.map_nil, List.cons_append, List.nil_append, List.append_nil, Option.bind_some, Option.bind_none, Int.reduceToNat, Int.reduceEq, Int.reduceBEq, Int.reduceBNe, Int.reduceLT, Int.reduceLE, Int.reduceNeg, Bool.true_and, Bool.and_true, Bool.false_and, Bool.and_false, Bool.not_true, Bool.not_false, Bool.not_not, Bool.true_beq, Bool.false_beq, Bool.bne_true, Bool.bne_false, Bool.true_bne, Bool.false_bne, Option.map_some, Option.map_none, beq_self_eq_true, bne_self_eq_false, Bool.false_eq_true, Bool.true_eq_false, Nat.zero_add, Nat.add_zero, forall_const, implies_true, true_implies, false_implies, Int.cast_ofNat_Int, Int.natCast_nonneg, Int.ofNat_lt, Int.toNat_natCast, mkC_rs, decide_true, decide_false, List.length_cons, List.length_nil, Prod.mk.injEq, Nat.reduceEqDiff, Option.some.injEq, arrOf_len, arrOf_size, arrOf_at, wr_lit, wr_litu, Int.reduceAdd, Int.reduceSub, Int.reduceMul, Int.reduceGE, Int.reduceGT, endO, Nat.sub_zero, Cl.enc, iv, ex_back]
  refine ⟨by decide, ?_⟩
  refine loopI (ι := { i : Nat // i ≤ xs.length ∧ InvR xs i }) (fun i => ⟨76, [(0, .c (.xv (0, 0, 0))), (3, .c (.sl (1, 0, 0) 1 0 16 none)), (4, .c (.v (.int .i64 (i.1 : Nat))))], [(1, .one (.ar 16 1 (cellR xs i.1) 3))], [(0, .one (arrOf Cl.enc 9 xs cl0))], [], 2⟩)
    (fun i => xs.length - i.1) ⟨0, by omega, ⟨fun _ h => by omega, fun _ h => by omega, fun _ _ _ h => by omega⟩⟩ (le_refl _) ?_
  rintro ⟨i, hi, hg⟩
  simp only [ex_nil, ex_skip, ex_ops, ex_draw, ex_seq, ex_cond, ex_blk, ex_loop, ex_exit, ex_ret, ex_mark, ex_kill, ex_pop, ex_onil, ex_op, ex_opg, ↓condS, ↓exitS, ↓gateS, ↓runOp, thenS, stepOut, St.ev, look, setL, mergeL, dropL, memB, atN, pkN, setN, Fm.get, Fm.pk, Fm.set, St.app, St.putT, St.skipT, St.setB, St.kill, St.call, St.setA, St.resS, specS, specO, specC, chain, chainP, inCh, resV, rsvP, resT, slot1, slotL, pureSlots, St.evW, resA1, resAP, resA, gB, specD, specDO, recG, pure1, pureO, SV.cells, SC.one, allOne, fillP, put, take', drop', len', nth, binI, eqCells, SC.bool?, SC.nil?, neg?, evs, evC, popTo, resL, resP, resSV, oneSV, finS, retS, dr_nil, dr_cons, ↓gateD, ↓runD, thenD, recOf, skipR, wrOk, wrFree, wkImp, St.weak, thenW, recW, fimp_mpe, newOk, outOk, St.appN, St.hid, St.only, keepK, useO, idX, idC, tchs, keyss, Rec.tch, keysL, ltAll, enumT, slSrc, slB, slM, SV.int?, segs, keyOf, intsOf, Value.oneCell', ↓imp_ft, ↓imp_tf, ↓imp_tt, ↓imp_ff, ↓imp_fn, ↓imp_tn, ↓imp_fy, ↓imp_ty, ↓reduceIte, Nat.reduceLT, Nat.reduceLeDiff, Nat.reduceAdd, Nat.reduceSub, Nat.reduceMul, Nat.reduceEqDiff, reduceCtorEq, and_self, and_true, true_and, and_false, false_and, not_true_eq_false, not_false_eq_true, List.map_cons, List.map_nil, List.cons_append, List.nil_append, List.append_nil, Option.bind_some, Option.bind_none, Int.reduceToNat, Int.reduceEq, Int.reduceBEq, Int.reduceBNe, Int.reduceLT, Int.reduceLE, Int.reduceNeg, Bool.true_and, Bool.and_true, Bool.false_and, Bool.and_false, Bool.not_true, Bool.not_false, Bool.not_not, Bool.true_beq, Bool.false_beq, Bool.bne_true, Bool.bne_false, Bool.true_bne, Bool.false_bne, Option.map_some, Option.map_none, beq_self_eq_true, bne_self_eq_false, Bool.false_eq_true, Bool.true_eq_false, Nat.zero_add, Nat.add_zero, forall_const, implies_true, true_implies, false_implies, Int.cast_ofNat_Int, Int.natCast_nonneg, Int.ofNat_lt, Int.toNat_natCast, mkC_rs, decide_true, decide_false, List.length_cons, List.length_nil, Prod.mk.injEq, Nat.reduceEqDiff, Option.some.injEq, arrOf_len, arrOf_size, arrOf_at, wr_lit, wr_litu, Int.reduceAdd, Int.reduceSub, Int.reduceMul, Int.reduceGE, Int.reduceGT, endO, Nat.sub_zero, Cl.enc, iv, ex_back]
  refine both (fun hlt => ?_) (fun hge => ?_)
  · rw [decide_eq_true_eq] at hlt
    generalize hci : xs.getD i cl0 = ci
    refine draw_vc (by kernel_rfl) (mkTab_ok _ _) (of_decide_eq_true rfl) (of_decide_eq_true rfl) ?_
    simp only [ex_nil, ex_skip, ex_ops, ex_draw, ex_seq, ex_cond, ex_blk, ex_loop, ex_exit, ex_ret, ex_mark, ex_kill, ex_pop, ex_onil, ex_op, ex_opg, ↓condS, ↓exitS, ↓gateS, ↓runOp, thenS, stepOut, St.ev, look, setL, mergeL, dropL, memB, atN, pkN, setN, Fm.get, Fm.pk, Fm.set, St.app, St.putT, St.skipT, St.setB, St.kill, St.call, St.setA, St.resS, specS, specO, specC, chain, chainP, inCh, resV, rsvP, resT, slot1, slotL, pureSlots, St.evW, resA1, resAP, resA, gB, specD, specDO, recG, pure1, pureO, SV.cells, SC.one, allOne, fillP, put, take', drop', len', nth, binI, eqCells, SC.bool?, SC.nil?, neg?, evs, evC, popTo, resL, resP, resSV, oneSV, finS, retS, dr_nil, dr_cons, ↓gateD, ↓runD, thenD, recOf, skipR, wrOk, wrFree, wkImp, St.weak, thenW, recW, fimp_mpe, newOk, outOk, St.appN, St.hid, St.only, keepK, useO, idX, idC, tchs, keyss, Rec.tch, keysL, ltAll, enumT, slSrc, slB, slM, SV.int?, segs, keyOf, intsOf, Value.oneCell', ↓imp_ft, ↓imp_tf, ↓imp_tt, ↓imp_ff, ↓imp_fn, ↓imp_tn, ↓imp_fy, ↓imp_ty, ↓reduceIte, Nat.reduceLT, Nat.reduceLeDiff, Nat.reduceAdd, Nat.reduceSub, Nat.reduceMul, Nat.reduceEqDiff, reduceCtorEq, and_self, and_true, true_and, and_false, false_and, not_true_eq_false, not_false_eq_true, List.map_cons, List.map_nil, List.cons_append, List.nil_append, List.append_nil, Option.bind_some, Option.bind_none, Int.reduceToNat, Int.reduceEq, Int.reduceBEq, Int.reduceBNe, Int.reduceLT, Int.reduceLE, Int.reduceNeg, Bool.true_and, Bool.and_true, Bool.false_and, Bool.and_false, Bool.not_true, Bool.not_false, Bool.not_not, Bool.true_beq, Bool.false_beq, Bool.bne_true, Bool.bne_false, Bool.true_bne, Bool.false_bne, Option.map_some, Option.map_none, beq_self_eq_true, bne_self_eq_false, Bool.false_eq_true, Bool.true_eq_false, Nat.zero_add, Nat.add_zero, forall_const, implies_true, true_implies, false_implies, Int.cast_ofNat_Int, Int.natCast_nonneg, Int.ofNat_lt, Int.toNat_natCast, mkC_rs, decide_true, decide_false, List.length_cons, List.length_nil, Prod.mk.injEq, Nat.reduceEqDiff, Option.some.injEq, arrOf_len, arrOf_size, arrOf_at, wr_lit, wr_litu, Int.reduceAdd, Int.reduceSub, Int.reduceMul, Int.reduceGE, Int.reduceGT, endO, Nat.sub_zero, Cl.enc, iv, ex_back, hci]
    refine ⟨hlt, hlt, ?_⟩
    refine dcallV (.c (.bo (shapedB ci))) _ (fun E => rfl) (fun E a w' _ => fits_calls w' ci) ?_
    simp only [ex_nil, ex_skip, ex_ops, ex_draw, ex_seq, ex_cond, ex_blk, ex_loop, ex_exit, ex_ret, ex_mark, ex_kill, ex_pop, ex_onil, ex_op, ex_opg, ↓condS, ↓exitS, ↓gateS, ↓runOp, thenS, stepOut, St.ev, look, setL, mergeL, dropL, memB, atN, pkN, setN, Fm.get, Fm.pk, Fm.set, St.app, St.putT, St.skipT, St.setB, St.kill, St.call, St.setA, St.resS, specS, specO, specC, chain, chainP, inCh, resV, rsvP, resT, slot1, slotL, pureSlots, St.evW, resA1, resAP, resA, gB, specD, specDO, recG, pure1, pureO, SV.cells, SC.one, allOne, fillP, put, take', drop', len', nth, binI, eqCells, SC.bool?, SC.nil?, neg?, evs, evC, popTo, resL, resP, resSV, oneSV, finS, retS, dr_nil, dr_cons, ↓gateD, ↓runD, thenD, recOf, skipR, wrOk, wrFree, wkImp, St.weak, thenW, recW, fimp_mpe, newOk, outOk, St.appN, St.hid, St.only, keepK, useO, idX, idC, tchs, keyss, Rec.tch, keysL, ltAll, enumT, slSrc, slB, slM, SV.int?, segs, keyOf, intsOf, Value.oneCell', ↓imp_ft, ↓imp_tf, ↓imp_tt, ↓imp_ff, ↓imp_fn, ↓imp_tn, ↓imp_fy, ↓imp_ty, ↓reduceIte, Nat.reduceLT, Nat.reduceLeDiff, Nat.reduceAdd, Nat.reduceSub, Nat.reduceMul, Nat.reduceEqDiff, reduceCtorEq, and_self, and_true, true_and, and_false, false_and, not_true_eq_false, not_false_eq_true, List.map_cons, List.map_nil, List.cons_append, List.nil_append, List.append_nil, Option.bind_some, Option.bind_none, Int.reduceToNat, Int.reduceEq, Int.reduceBEq, Int.reduceBNe, Int.reduceLT, Int.reduceLE, Int.reduceNeg, Bool.true_and, Bool.and_true, Bool.false_and, Bool.and_false, Bool.not_true, Bool.not_false, Bool.not_not, Bool.true_beq, Bool.false_beq, Bool.bne_true, Bool.bne_false, Bool.true_bne, Bool.false_bne, Option.map_some, Option.map_none, beq_self_eq_true, bne_self_eq_false, Bool.false_eq_true, Bool.true_eq_false, Nat.zero_add, Nat.add_zero, forall_const, implies_true, true_implies, false_implies, Int.cast_ofNat_Int, Int.natCast_nonneg, Int.ofNat_lt, Int.toNat_natCast, mkC_rs, decide_true, decide_false, List.length_cons, List.length_nil, Prod.mk.injEq, Nat.reduceEqDiff, Option.some.injEq, arrOf_len, arrOf_size, arrOf_at, wr_lit, wr_litu, Int.reduceAdd, Int.reduceSub, Int.reduceMul, Int.reduceGE, Int.reduceGT, endO, Nat.sub_zero, Cl.enc, iv, ex_back, hci, cellR]
    have hwi : 0 < i → IntKind.i64.wrap ((i : Int) - 1) = ((i - 1 : Nat) : Int) := fun h => by rw [wr64 (by omega) (by omega)]; omega
    have hg1 : (shapedB ci && decide ((i : Int) > 0)) = true → 0 < i := fun h => by
      have := (Bool.and_eq_true _ _ ▸ h).2
      rw [decide_eq_true_eq] at this
      omega
    refine ⟨fun _ => hlt, fun _ => hlt, fun _ => hlt, fun h => ?_, fun h => ?_, fun h => ?_, fun h => ?_, fun h1 => ?_⟩
    · rw [hwi (hg1 h)]; have := hg1 h; omega
    · rw [hwi (hg1 h)]; have := hg1 h; omega
    · rw [hwi (hg1 h)]; have := hg1 h; omega
    · refine retV fun E => ?_
      rw [den_c, den_v, Value.bool.injEq]
      refine (hbf fun hm => ?_).symm
      have g1 := hm.1.shaped i hlt
      rw [hci] at g1
      by_cases hi0 : 0 < i
      · have g2 := hm.1.up (i - 1) (by omega)
        rw [show i - 1 + 1 = i by omega, hci] at g2
        rw [hwi hi0, Int.toNat_natCast] at h
        simp only [b_decR, b_decL, bt_ite, bf_ite, bt_dec, bf_dec, bt_int, bf_int, bt_nint, bf_nint, bt_bool, bf_bool, bt_nbool, bf_nbool, bt_not, bf_not, bt_and, bf_and, bt_or, bf_or, Bool.false_eq_true, Bool.true_eq_false, Bool.not_eq_true, Bool.not_eq_false, reduceCtorEq, false_iff, true_iff, iff_false, iff_true, and_true, true_and, and_false, false_and, or_true, true_or, or_false, false_or, not_true_eq_false, not_false_eq_true, ne_eq] at h
        simp only [g1] at h
        simp only [b_decR, b_decL, bt_ite, bf_ite, bt_dec, bf_dec, bt_int, bf_int, bt_nint, bf_nint, bt_bool, bf_bool, bt_nbool, bf_nbool, bt_not, bf_not, bt_and, bf_and, bt_or, bf_or, Bool.false_eq_true, Bool.true_eq_false, Bool.not_eq_true, Bool.not_eq_false, reduceCtorEq, false_iff, true_iff, iff_false, iff_true, and_true, true_and, and_false, false_and, or_true, true_or, or_false, false_or, not_true_eq_false, not_false_eq_true, ne_eq] at h
        omega
      · simp only [b_decR, b_decL, bt_ite, bf_ite, bt_dec, bf_dec, bt_int, bf_int, bt_nint, bf_nint, bt_bool, bf_bool, bt_nbool, bf_nbool, bt_not, bf_not, bt_and, bf_and, bt_or, bf_or, Bool.false_eq_true, Bool.true_eq_false, Bool.not_eq_true, Bool.not_eq_false, reduceCtorEq, false_iff, true_iff, iff_false, iff_true, and_true, true_and, and_false, false_and, or_true, true_or, or_false, false_or, not_true_eq_false, not_false_eq_true, ne_eq, g1] at h
        omega
    · have h11 : shapedB ci = true := by
        simp only [b_decR, b_decL, bt_ite, bf_ite, bt_dec, bf_dec, bt_int, bf_int, bt_nint, bf_nint, bt_bool, bf_bool, bt_nbool, bf_nbool, bt_not, bf_not, bt_and, bf_and, bt_or, bf_or, Bool.false_eq_true, Bool.true_eq_false, Bool.not_eq_true, Bool.not_eq_false, reduceCtorEq, false_iff, true_iff, iff_false, iff_true, and_true, true_and, and_false, false_and, or_true, true_or, or_false, false_or, not_true_eq_false, not_false_eq_true, ne_eq] at h1
        cases hs : shapedB ci with
        | true => rfl
        | false => simp [hs] at h1
      have h12 : 0 < i → (xs.getD (i - 1) cl0).beg < ci.beg := fun hi0 => by
        rw [hwi hi0, Int.toNat_natCast] at h1
        simp only [b_decR, b_decL, bt_ite, bf_ite, bt_dec, bf_dec, bt_int, bf_int, bt_nint, bf_nint, bt_bool, bf_bool, bt_nbool, bf_nbool, bt_not, bf_not, bt_and, bf_and, bt_or, bf_or, Bool.false_eq_true, Bool.true_eq_false, Bool.not_eq_true, Bool.not_eq_false, reduceCtorEq, false_iff, true_iff, iff_false, iff_true, and_true, true_and, and_false, false_and, or_true, true_or, or_false, false_or, not_true_eq_false, not_false_eq_true, ne_eq, h11] at h1
        omega
      have hth : 0 ≤ ci.thread ∧ ci.thread < 16 := by
        have := h11
        simp only [shapedB, decide_eq_true_eq] at this
        exact ⟨this.1.1, this.1.2.1⟩
      have htn : ci.thread.toNat < 16 := by omega
      have htk : ∀ k, k < i → (xs.getD k cl0).thread.toNat = ci.thread.toNat → (xs.getD k cl0).thread = ci.thread := fun k hk he => by
        have := hg.shaped k hk
        simp only [shapedB, decide_eq_true_eq] at this
        omega
      have hset : ∀ e, setAt ci.thread.toNat (cellR xs i) [SC.v (.int .i64 ((i + 1 : Nat) : Int))] e = SC.renL (idσ id) (cellR xs (i + 1) e) := fun e => by
        simp only [setAt, cellR, lastR, hci, SC.renL, SC.ren]
        split <;> rfl
      refine ⟨hlt, hlt, hlt, hth, htn, fun h2 => ⟨hth, htn, ?_⟩, fun h2 => ⟨hth, htn, ?_⟩⟩
      · rw [decide_eq_true_eq] at h2
        rcases lastR_spec xs ci.thread.toNat i with ⟨h0, _⟩ | ⟨j, hj1, hj2, hj3, hj4⟩
        · omega
        have hwj : IntKind.i64.wrap (((j + 1 : Nat) : Int) - 1) = (j : Int) := by rw [wr64 (by omega) (by omega)]; omega
        rw [hj2, hwj]
        simp only [Int.toNat_natCast]
        refine ⟨⟨by omega, by omega⟩, by omega, ?_⟩
        generalize hcj : xs.getD j cl0 = cj
        refine draw_vc (by kernel_rfl) (mkTab_ok _ _) (of_decide_eq_true rfl) (of_decide_eq_true rfl) ?_
        simp only [ex_nil, ex_skip, ex_ops, ex_draw, ex_seq, ex_cond, ex_blk, ex_loop, ex_exit, ex_ret, ex_mark, ex_kill, ex_pop, ex_onil, ex_op, ex_opg, ↓condS, ↓exitS, ↓gateS, ↓runOp, thenS, stepOut, St.ev, look, setL, mergeL, dropL, memB, atN, pkN, setN, Fm.get, Fm.pk, Fm.set, St.app, St.putT, St.skipT, St.setB, St.kill, St.call, St.setA, St.resS, specS, specO, specC, chain, chainP, inCh, resV, rsvP, resT, slot1, slotL, pureSlots, St.evW, resA1, resAP, resA, gB, specD, specDO, recG, pure1, pureO, SV.cells, SC.one, allOne, fillP, put, take', drop', len', nth, binI, eqCells, SC.bool?, SC.nil?, neg?, evs, evC, popTo, resL, resP, resSV, oneSV, finS, retS, dr_nil, dr_cons, ↓gateD, ↓runD, thenD, recOf, skipR, wrOk, wrFree, wkImp, St.weak, thenW, recW, fimp_mpe, newOk, outOk, St.appN, St.hid, St.only, keepK, useO, idX, idC, tchs, keyss, Rec.tch, keysL, ltAll, enumT, slSrc, slB, slM, SV.int?, segs, keyOf, intsOf, Value.oneCell', ↓imp_ft, ↓imp_tf, ↓imp_tt, ↓imp_ff, ↓imp_fn, ↓imp_tn, ↓imp_fy, ↓imp_ty, ↓reduceIte, Nat.reduceLT, Nat.reduceLeDiff, Nat.reduceAdd, Nat.reduceSub, Nat.reduceMul, Nat.reduceEqDiff, reduceCtorEq, and_self, and_true, true_and, and_false, false_and, not_true_eq_false, not_false_eq_true, List.map_cons, List.map_nil, List.cons_append, List.nil_append, List.append_nil, Option.bind_some, Option.bind_none, Int.reduceToNat, Int.reduceEq, Int.reduceBEq, Int.reduceBNe, Int.reduceLT, Int.reduceLE, Int.reduceNeg, Bool.true_and, Bool.and_true, Bool.false_and, Bool.and_false, Bool.not_true, Bool.not_false, Bool.not_not, Bool.true_beq, Bool.false_beq, Bool.bne_true, Bool.bne_false, Bool.true_bne, Bool.false_bne, Option.map_some, Option.map_none, beq_self_eq_true, bne_self_eq_false, Bool.false_eq_true, Bool.true_eq_false, Nat.zero_add, Nat.add_zero, forall_const, implies_true, true_implies, false_implies, Int.cast_ofNat_Int, Int.natCast_nonneg, Int.ofNat_lt, Int.toNat_natCast, mkC_rs, decide_true, decide_false, List.length_cons, List.length_nil, Prod.mk.injEq, Nat.reduceEqDiff, Option.some.injEq, arrOf_len, arrOf_size, arrOf_at, wr_lit, wr_litu, Int.reduceAdd, Int.reduceSub, Int.reduceMul, Int.reduceGE, Int.reduceGT, endO, Nat.sub_zero, Cl.enc, iv, ex_back, hci]
        have hjt : cj.thread = ci.thread := by rw [← hcj]; exact htk j hj1 hj3
        refine ⟨fun _ => hlt, fun _ => hlt, fun _ => hlt, fun h3 => ?_, fun h3 => ⟨hth, htn, ?_⟩⟩
        · refine retV fun E => ?_
          rw [den_c, den_v, Value.bool.injEq]
          refine (hbf fun hm => ?_).symm
          have h7 := hm.1.thr j i hj1 hlt (by rw [hcj, hci]; exact hjt)
          rw [hcj, hci] at h7
          simp only [b_decR, b_decL, bt_ite, bf_ite, bt_dec, bf_dec, bt_int, bf_int, bt_nint, bf_nint, bt_bool, bf_bool, bt_nbool, bf_nbool, bt_not, bf_not, bt_and, bf_and, bt_or, bf_or, Bool.false_eq_true, Bool.true_eq_false, Bool.not_eq_true, Bool.not_eq_false, reduceCtorEq, false_iff, true_iff, iff_false, iff_true, and_true, true_and, and_false, false_and, or_true, true_or, or_false, false_or, not_true_eq_false, not_false_eq_true, ne_eq] at h3
          omega
        · rw [wr_succ (by omega)]
          refine backI ⟨i + 1, by omega, invR_step hg (by rw [hci]; exact h11) (fun h => by rw [hci]; exact h12 h) fun q hq1 hq2 hq3 => ?_⟩ (by simp only; omega) (le_ren id rfl rfl (by simp [TmpsLe, look, SV.ren, SC.ren, idσ, SV.okN, SC.okN]) ⟨⟨show (1 : Nat) < 2 from by decide, Nat.le_refl _, rfl, rfl, fun e he => ⟨hset e, trivial, trivial⟩⟩, trivial⟩ ⟨⟨show (0 : Nat) < 2 from by decide, arrLe_of⟩, trivial⟩ rfl)
          rw [hci] at hq2 hq3 ⊢
          have hqj : q = j := by
            rcases Nat.lt_trichotomy q j with h8 | h8 | h8
            · exact absurd (by rw [hcj]; exact hjt) (hq3 j h8 hj1)
            · exact h8
            · exact absurd (by rw [hq2]) (hj4 q h8 hq1)
          subst hqj
          rw [hcj]
          simp only [b_decR, b_decL, bt_ite, bf_ite, bt_dec, bf_dec, bt_int, bf_int, bt_nint, bf_nint, bt_bool, bf_bool, bt_nbool, bf_nbool, bt_not, bf_not, bt_and, bf_and, bt_or, bf_or, Bool.false_eq_true, Bool.true_eq_false, Bool.not_eq_true, Bool.not_eq_false, reduceCtorEq, false_iff, true_iff, iff_false, iff_true, and_true, true_and, and_false, false_and, or_true, true_or, or_false, false_or, not_true_eq_false, not_false_eq_true, ne_eq] at h3
          omega
      · rw [decide_eq_false_iff_not] at h2
        rcases lastR_spec xs ci.thread.toNat i with ⟨h0, hnone⟩ | ⟨j, hj1, hj2, hj3, hj4⟩
        · rw [wr_succ (by omega)]
          refine backI ⟨i + 1, by omega, invR_step hg (by rw [hci]; exact h11) (fun h => by rw [hci]; exact h12 h) fun q hq1 hq2 hq3 => absurd (by rw [hq2, hci]) (hnone q hq1)⟩ (by simp only; omega) (le_ren id rfl rfl (by simp [TmpsLe, look, SV.ren, SC.ren, idσ, SV.okN, SC.okN]) ⟨⟨show (1 : Nat) < 2 from by decide, Nat.le_refl _, rfl, rfl, fun e he => ⟨hset e, trivial, trivial⟩⟩, trivial⟩ ⟨⟨show (0 : Nat) < 2 from by decide, arrLe_of⟩, trivial⟩ rfl)
        · omega
  · rw [decide_eq_false_iff_not] at hge
    have hin : i = xs.length := by omega
    subst hin
    refine callV (.c (.bo b)) (.bool b) (fun E => rfl) (fun E a w' hs => ?_) ?_
    · have ha : Arr w' Cl.enc 9 (E.χ (0, 0, 0)) xs := arr_of (d := cl0) ((holds_of hs).1 (0, 0, 0) _ rfl)
      exact apart_calls w' _ xs b (fun hB => hbt (mayP_of hg hB)) (fun hB => hbf fun hm => hB hm.2) (fun k hk => by have := hg.shaped k hk; simp only [shapedB, decide_eq_true_eq] at this; omega) hsz ha
    simp only [ex_nil, ex_skip, ex_ops, ex_draw, ex_seq, ex_cond, ex_blk, ex_loop, ex_exit, ex_ret, ex_mark, ex_kill, ex_pop, ex_onil, ex_op, ex_opg, ↓condS, ↓exitS, ↓gateS, ↓runOp, thenS, stepOut, St.ev, look, setL, mergeL, dropL, memB, atN, pkN, setN, Fm.get, Fm.pk, Fm.set, St.app, St.putT, St.skipT, St.setB, St.kill, St.call, St.setA, St.resS, specS, specO, specC, chain, chainP, inCh, resV, rsvP, resT, slot1, slotL, pureSlots, St.evW, resA1, resAP, resA, gB, specD, specDO, recG, pure1, pureO, SV.cells, SC.one, allOne, fillP, put, take', drop', len', nth, binI, eqCells, SC.bool?, SC.nil?, neg?, evs, evC, popTo, resL, resP, resSV, oneSV, finS, retS, dr_nil, dr_cons, ↓gateD, ↓runD, thenD, recOf, skipR, wrOk, wrFree, wkImp, St.weak, thenW, recW, fimp_mpe, newOk, outOk, St.appN, St.hid, St.only, keepK, useO, idX, idC, tchs, keyss, Rec.tch, keysL, ltAll, enumT, slSrc, slB, slM, SV.int?, segs, keyOf, intsOf, Value.oneCell', ↓imp_ft, ↓imp_tf, ↓imp_tt, ↓imp_ff, ↓imp_fn, ↓imp_tn, ↓imp_fy, ↓imp_ty, ↓reduceIte, Nat.reduceLT, Nat.reduceLeDiff, Nat.reduceAdd, Nat.reduceSub, Nat.reduceMul, Nat.reduceEqDiff, reduceCtorEq, and_self, and_true, true_and, and_false, false_and, not_true_eq_false, not_false_eq_true, List.map_cons, List.map_nil, List.cons_append, List.nil_append, List.append_nil, Option.bind_some, Option.bind_none, Int.reduceToNat, Int.reduceEq, Int.reduceBEq, Int.reduceBNe, Int.reduceLT, Int.reduceLE, Int.reduceNeg, Bool.true_and, Bool.and_true, Bool.false_and, Bool.and_false, Bool.not_true, Bool.not_false, Bool.not_not, Bool.true_beq, Bool.false_beq, Bool.bne_true, Bool.bne_false, Bool.true_bne, Bool.false_bne, Option.map_some, Option.map_none, beq_self_eq_true, bne_self_eq_false, Bool.false_eq_true, Bool.true_eq_false, Nat.zero_add, Nat.add_zero, forall_const, implies_true, true_implies, false_implies, Int.cast_ofNat_Int, Int.natCast_nonneg, Int.ofNat_lt, Int.toNat_natCast, mkC_rs, decide_true, decide_false, List.length_cons, List.length_nil, Prod.mk.injEq, Nat.reduceEqDiff, Option.some.injEq, arrOf_len, arrOf_size, arrOf_at, wr_lit, wr_litu, Int.reduceAdd, Int.reduceSub, Int.reduceMul, Int.reduceGE, Int.reduceGT, endO, Nat.sub_zero, Cl.enc, iv, ex_back]
    exact retV fun E => by rw [den_c, den_b]
end Go.Proofs.Ytkjeedlkkpgopaa.Z
