
/- Calls in memory of their own; lists of calls that are alike. No statement of the program. -/
import Derived.Test.YtkjeedlkkpgopaaWA
namespace Go.Proofs.Ytkjeedlkkpgopaa.Z
open Go Go.RowKit
set_option linter.unusedSimpArgs false
set_option linter.unusedVariables false

def ir17 : IR := (.seq (.ops [⟨(some 4), (.mv (.k (.c (.v (.bool false))))), none⟩]) (.kill [2, 3, 4, 5, 6, 7, 8, 9, 10, 11] (.seq (.seq (.ops [⟨(some 5), (.mv (.k (.c (.v (.int .i64 0))))), none⟩]) (.blk 0 (.loop (.seq (.seq (.ops [⟨(some 6), (.mv (.t 5)), none⟩, ⟨(some 7), (.mv (.t 1)), none⟩, ⟨(some 8), (.len (.t 7)), none⟩, ⟨(some 9), (.bin .lss (.t 6) (.t 8)), none⟩]) (.kill [4, 6, 7, 8, 10, 11, 12, 13, 14, 15, 16, 17, 18, 19, 20] (.cond (.t 9) .skip (.exit 0)))) (.kill [9] (.seq (.blk 1 (.seq (.draw [(⟨(some 12), (.mv (.t 0)), none⟩, ([], [13, 16, 17, 18, 19])), (⟨(some 13), (.mv (.t 5)), none⟩, ([0], [12, 16, 17, 18, 19])), (⟨(some 14), (.ia 9 (.t 12) (.t 13)), none⟩, ([], [16, 17, 18, 19])), (⟨(some 15), (.ld true 9 (.t 14)), none⟩, ([], [16, 17, 18, 19])), (⟨(some 16), (.mv (.t 1)), none⟩, ([0, 1, 2, 3], [12, 13, 14, 15, 17])), (⟨(some 17), (.mv (.t 5)), none⟩, ([0, 1, 2, 3, 4], [12, 13, 14, 15, 16])), (⟨(some 18), (.ia 9 (.t 16) (.t 17)), none⟩, ([0, 1, 2, 3], [12, 13, 14, 15])), (⟨(some 19), (.ld true 9 (.t 18)), none⟩, ([0, 1, 2, 3], [12, 13, 14, 15])), (⟨(some 20), (.eqa true [true, true, true, true, true, true, true, true, true] (.t 15) (.t 19)), none⟩, ([], []))]) (.kill [12, 13, 14, 15, 16, 17, 18, 19] (.cond (.t 20) (.seq (.ops [⟨(some 4), (.mv (.k (.c (.v (.bool false))))), none⟩]) (.kill [0, 1, 5, 20] .ret)) .skip)))) (.kill [4, 12, 13, 14, 15, 16, 17, 18, 19, 20] (.ops [⟨(some 10), (.mv (.t 5)), none⟩, ⟨(some 11), (.bin .add (.t 10) (.k (.c (.v (.int .i64 1))))), none⟩, ⟨(some 5), (.mv (.t 11)), none⟩])))))))) (.kill [4, 5, 6, 7, 8, 9, 10, 11, 12, 13, 14, 15, 16, 17, 18, 19, 20] (.seq (.ops [⟨(some 21), (.mv (.t 0)), none⟩, ⟨(some 22), (.mv (.t 1)), none⟩, ⟨(some 23), (.len (.t 22)), none⟩, ⟨(some 24), (.bin .add (.t 23) (.k (.c (.v (.int .i64 1))))), none⟩, ⟨(some 25), (.slc 9 (.t 21) none (some (.t 24)) none), none⟩, ⟨(some 26), (.mv (.t 1)), none⟩, ⟨(some 27), (.len (.t 26)), none⟩, ⟨(some 28), (.ia 9 (.t 25) (.t 27)), none⟩, ⟨(some 29), (.fa 0 (.t 28)), none⟩, ⟨(some 30), (.ld false 1 (.t 29)), none⟩, ⟨(some 31), (.bin .eql (.t 30) (.k (.c (.v (.int .i64 (-77)))))), none⟩, ⟨(some 4), (.mv (.t 31)), none⟩]) (.kill [0, 1, 21, 22, 23, 24, 25, 26, 27, 28, 29, 30, 31] .ret))))))
def rs17 : List RS := [(.t 4)]
def nt17 : Nat := 32

/-- a slice of n elements, with one more behind it -/
def Tw (w : World) (v : Value) (xs : List Cl) (m : Cl) : Prop := ∃ ba cap, v = .slice ba xs.length cap ∧ Arr w Cl.enc 9 (.slice ba (xs.length + 1) cap) (xs ++ [m])

theorem cl_eq (a b : Cl) : (a == b) = ((a.thread == b.thread) && ((a.op == b.op) && ((a.arg == b.arg) && ((a.data == b.data) && ((a.beg == b.beg) && ((a.fin == b.fin) && ((a.point == b.point) && ((a.kind == b.kind) && (a.val == b.val))))))))) := by
  obtain ⟨a1, a2, a3, a4, a5, a6, a7, a8, a9⟩ := a
  obtain ⟨b1, b2, b3, b4, b5, b6, b7, b8, b9⟩ := b
  rw [Bool.eq_iff_iff]
  simp

set_option maxRecDepth 100000 in
set_option maxHeartbeats 400000 in
theorem unspoilt_calls (w : World) (v v2 : Value) (xs ys : List Cl) (m : Cl) (h1 : Tw w v xs m) (h2 : Arr w Cl.enc 9 v2 ys) (hl : xs.length = ys.length) : Calls Try.prog 17 #[v, v2] w (RetV w (.bool (decide (xs = ys) && m.thread == -77))) := by
  obtain ⟨ba, cap, rfl, h1⟩ := h1
  have hm := Z.Arr.lenM h1
  simp only [List.length_append, List.length_cons, List.length_nil, maxLen] at hm
  have hE : OneC ⟨fun _ => 0, fun _ => 0, fun _ => false, fun x => if x.1 = 1 then .slice ba (xs.length + 1) cap else v2⟩ := by
    intro x
    simp only
    split
    · rfl
    · exact arr_one h2
  refine calls_sym (c := ir17) (C := mkC Try.prog [] w rs17 (RetV w (.bool (decide (xs = ys) && m.thread == -77)))) 1000 [.c (.xs (1, 0, 0) 9 0 ys.length none), .c (.xv (0, 0, 0))] 
    ⟨fun _ => 0, fun _ => 0, fun _ => false, fun x => if x.1 = 1 then .slice ba (xs.length + 1) cap else v2⟩ [] [(0, .one (arrOf Cl.enc 9 ys cl0)), (1, .one (arrOf Cl.enc 9 (xs ++ [m]) cl0))] [] 2 nt17 _ (mkTab_ok _ _) Try.func17 rfl (by kernel_rfl) (by kernel_rfl) rfl rfl rfl hE
    (fun E' hE' => ?_) (of_decide_eq_true rfl) (fun E' hE' => inOk_arrs fun w' hw' x A hA => ?_) ?_
  · have e0 := (hE' (0, 0, 0) (by decide)).2.2.2
    have e1 := (hE' (1, 0, 0) (by decide)).2.2.2
    simp only [Nat.zero_ne_one, if_false, if_true] at e0 e1
    cases ba <;> simp [SV.den, SC.den, e0, e1, hl, Addr.add]
  · have e0 := (hE' (0, 0, 0) (by decide)).2.2.2
    have e1 := (hE' (1, 0, 0) (by decide)).2.2.2
    rcases atN_one hA with ⟨rfl, rfl⟩ | hA
    · exact arr1 cl_ok e0 h2 hw'
    rcases atN_one hA with ⟨rfl, rfl⟩ | hA
    · exact arr1 cl_ok e1 h1 hw'
    exact (atN_nil hA).elim
  simp only [ir17, nt17, rs17, ex_nil, ex_skip, ex_ops, ex_draw, ex_seq, ex_cond, ex_blk, ex_loop, ex_exit, ex_ret, ex_mark, ex_kill, ex_pop, ex_onil, ex_op, ex_opg, ↓condS, ↓exitS, ↓gateS, ↓runOp, thenS, stepOut, St.ev, look, setL, mergeL, dropL, memB, atN, pkN, setN, Fm.get, Fm.pk, Fm.set, St.app, St.putT, St.skipT, St.setB, St.kill, St.call, St.setA, St.resS, specS, specO, specC, chain, chainP, inCh, resV, rsvP, resT, slot1, slotL, pureSlots, St.evW, resA1, resAP, resA, gB, specD, specDO, recG, pure1, pureO, SV.cells, SC.one, allOne, fillP, put, take', drop', len', nth, binI, eqCells, SC.bool?, SC.nil?, neg?, evs, evC, popTo, resL, resP, resSV, oneSV, finS, retS, dr_nil, dr_cons, ↓gateD, ↓runD, thenD, recOf, skipR, wrOk, wrFree, wkImp, St.weak, thenW, recW, fimp_mpe, newOk, outOk, St.appN, St.hid, St.only, keepK, useO, idX, idC, tchs, keyss, Rec.tch, keysL, ltAll, enumT, slSrc, slB, slM, SV.int?, segs, keyOf, intsOf, Value.oneCell', ↓imp_ft, ↓imp_tf, ↓imp_tt, ↓imp_ff, ↓imp_fn, ↓imp_tn, ↓imp_fy, ↓imp_ty, ↓reduceIte, Nat.reduceLT, Nat.reduceLeDiff, Nat.reduceAdd, Nat.reduceSub, Nat.reduceMul, Nat.reduceEqDiff, reduceCtorEq, and_self, and_true, true_and, and_false, false_and, not_true_eq_false, not_false_eq_true, List.map_cons, List.map_nil, List.cons_append, List.nil_append, List.append_nil, Option.bind_some, Option.bind_none, Int.reduceToNat, Int.reduceEq, Int.reduceBEq, Int.reduceBNe, Int.reduceLT, Int.reduceLE, Int.reduceNeg, Bool.true_and, Bool.and_true, Bool.false_and, Bool.and_false, Bool.not_true, Bool.not_false, Bool.not_not, Bool.true_beq, Bool.false_beq, Bool.bne_true, Bool.bne_false, Bool.true_bne, Bool.false_bne, Option.map_some, Option.map_none, beq_self_eq_true, bne_self_eq_false, Bool.false_eq_true, Bool.true_eq_false, Nat.zero_add, Nat.add_zero, forall_const, implies_true, true_implies, false_implies, Int.cast_ofNat_Int, Int.natCast_nonneg, Int.ofNat_lt, Int.toNat_natCast, mkC_rs, decide_true, decide_false, List.length_cons, List.length_nil, Prod.mk.injEq, Nat.reduceEqDiff, Option.some.injEq]
  refine loopI (ι := { i : Nat // i ≤ ys.length ∧ ∀ k, k < i → xs.getD k cl0 = ys.getD k cl0 }) (fun i => ⟨32, [(0, .c (.xs (1, 0, 0) 9 0 ys.length none)), (1, .c (.xv (0, 0, 0))), (5, .c (.v (.int .i64 (i.1 : Nat))))], [], [(0, .one (arrOf Cl.enc 9 ys cl0)), (1, .one (arrOf Cl.enc 9 (xs ++ [m]) cl0))], [], 2⟩)
    (fun i => ys.length - i.1) ⟨0, by omega, fun k hk => by omega⟩ (le_refl _) ?_
  rintro ⟨i, hi, hg⟩
  simp only [ex_nil, ex_skip, ex_ops, ex_draw, ex_seq, ex_cond, ex_blk, ex_loop, ex_exit, ex_ret, ex_mark, ex_kill, ex_pop, ex_onil, ex_op, ex_opg, ↓condS, ↓exitS, ↓gateS, ↓runOp, thenS, stepOut, St.ev, look, setL, mergeL, dropL, memB, atN, pkN, setN, Fm.get, Fm.pk, Fm.set, St.app, St.putT, St.skipT, St.setB, St.kill, St.call, St.setA, St.resS, specS, specO, specC, chain, chainP, inCh, resV, rsvP, resT, slot1, slotL, pureSlots, St.evW, resA1, resAP, resA, gB, specD, specDO, recG, pure1, pureO, SV.cells, SC.one, allOne, fillP, put, take', drop', len', nth, binI, eqCells, SC.bool?, SC.nil?, neg?, evs, evC, popTo, resL, resP, resSV, oneSV, finS, retS, dr_nil, dr_cons, ↓gateD, ↓runD, thenD, recOf, skipR, wrOk, wrFree, wkImp, St.weak, thenW, recW, fimp_mpe, newOk, outOk, St.appN, St.hid, St.only, keepK, useO, idX, idC, tchs, keyss, Rec.tch, keysL, ltAll, enumT, slSrc, slB, slM, SV.int?, segs, keyOf, intsOf, Value.oneCell', ↓imp_ft, ↓imp_tf, ↓imp_tt, ↓imp_ff, ↓imp_fn, ↓imp_tn, ↓imp_fy, ↓imp_ty, ↓reduceIte, Nat.reduceLT, Nat.reduceLeDiff, Nat.reduceAdd, Nat.reduceSub, Nat.reduceMul, Nat.reduceEqDiff, reduceCtorEq, and_self, and_true, true_and, and_false, false_and, not_true_eq_false, not_false_eq_true, List.map_cons, List.map_nil, List.cons_append, List.nil_append, List.append_nil, Option.bind_some, Option.bind_none, Int.reduceToNat, Int.reduceEq, Int.reduceBEq, Int.reduceBNe, Int.reduceLT, Int.reduceLE, Int.reduceNeg, Bool.true_and, Bool.and_true, Bool.false_and, Bool.and_false, Bool.not_true, Bool.not_false, Bool.not_not, Bool.true_beq, Bool.false_beq, Bool.bne_true, Bool.bne_false, Bool.true_bne, Bool.false_bne, Option.map_some, Option.map_none, beq_self_eq_true, bne_self_eq_false, Bool.false_eq_true, Bool.true_eq_false, Nat.zero_add, Nat.add_zero, forall_const, implies_true, true_implies, false_implies, Int.cast_ofNat_Int, Int.natCast_nonneg, Int.ofNat_lt, Int.toNat_natCast, mkC_rs, decide_true, decide_false, List.length_cons, List.length_nil, Prod.mk.injEq, Nat.reduceEqDiff, Option.some.injEq, arrOf_len, arrOf_size, arrOf_at, wr_lit, wr_litu, Int.reduceAdd, Int.reduceSub, Int.reduceMul, Int.reduceGE, Int.reduceGT, endO, Nat.sub_zero, Cl.enc, iv, ex_back]
  refine both (fun hlt => ?_) (fun hge => ?_)
  · rw [decide_eq_true_eq] at hlt
    refine draw_vc (by kernel_rfl) (mkTab_ok _ _) (of_decide_eq_true rfl) (of_decide_eq_true rfl) ?_
    simp only [ex_nil, ex_skip, ex_ops, ex_draw, ex_seq, ex_cond, ex_blk, ex_loop, ex_exit, ex_ret, ex_mark, ex_kill, ex_pop, ex_onil, ex_op, ex_opg, ↓condS, ↓exitS, ↓gateS, ↓runOp, thenS, stepOut, St.ev, look, setL, mergeL, dropL, memB, atN, pkN, setN, Fm.get, Fm.pk, Fm.set, St.app, St.putT, St.skipT, St.setB, St.kill, St.call, St.setA, St.resS, specS, specO, specC, chain, chainP, inCh, resV, rsvP, resT, slot1, slotL, pureSlots, St.evW, resA1, resAP, resA, gB, specD, specDO, recG, pure1, pureO, SV.cells, SC.one, allOne, fillP, put, take', drop', len', nth, binI, eqCells, SC.bool?, SC.nil?, neg?, evs, evC, popTo, resL, resP, resSV, oneSV, finS, retS, dr_nil, dr_cons, ↓gateD, ↓runD, thenD, recOf, skipR, wrOk, wrFree, wkImp, St.weak, thenW, recW, fimp_mpe, newOk, outOk, St.appN, St.hid, St.only, keepK, useO, idX, idC, tchs, keyss, Rec.tch, keysL, ltAll, enumT, slSrc, slB, slM, SV.int?, segs, keyOf, intsOf, Value.oneCell', ↓imp_ft, ↓imp_tf, ↓imp_tt, ↓imp_ff, ↓imp_fn, ↓imp_tn, ↓imp_fy, ↓imp_ty, ↓reduceIte, Nat.reduceLT, Nat.reduceLeDiff, Nat.reduceAdd, Nat.reduceSub, Nat.reduceMul, Nat.reduceEqDiff, reduceCtorEq, and_self, and_true, true_and, and_false, false_and, not_true_eq_false, not_false_eq_true, List.map_cons, List.map_nil, List.cons_append, List.nil_append, List.append_nil, Option.bind_some, Option.bind_none, Int.reduceToNat, Int.reduceEq, Int.reduceBEq, Int.reduceBNe, Int.reduceLT, Int.reduceLE, Int.reduceNeg, Bool.true_and, Bool.and_true, Bool.false_and, Bool.and_false, Bool.not_true, Bool.not_false, Bool.not_not, Bool.true_beq, Bool.false_beq, Bool.bne_true, Bool.bne_false, Bool.true_bne, Bool.false_bne, Option.map_some, Option.map_none, beq_self_eq_true, bne_self_eq_false, Bool.false_eq_true, Bool.true_eq_false, Nat.zero_add, Nat.add_zero, forall_const, implies_true, true_implies, false_implies, Int.cast_ofNat_Int, Int.natCast_nonneg, Int.ofNat_lt, Int.toNat_natCast, mkC_rs, decide_true, decide_false, List.length_cons, List.length_nil, Prod.mk.injEq, Nat.reduceEqDiff, Option.some.injEq, arrOf_len, arrOf_size, arrOf_at, wr_lit, wr_litu, Int.reduceAdd, Int.reduceSub, Int.reduceMul, Int.reduceGE, Int.reduceGT, endO, Nat.sub_zero, Cl.enc, iv, ex_back]
    have hx : (xs ++ [m]).getD i cl0 = xs.getD i cl0 := by simp [List.getD_eq_getElem?_getD, List.getElem?_append_left (show i < xs.length by omega)]
    have hll : (xs ++ [m]).length = xs.length + 1 := by simp
    rw [hx, hll, ← cl_eq]
    refine ⟨⟨hlt, by omega⟩, by omega, hlt, hlt, fun h => ?_, fun h => ?_⟩
    · refine retV fun E => ?_
      simp only [den_c, den_v, Value.bool.injEq]
      have : xs ≠ ys := by
        rintro rfl
        simp at h
      simp [this]
    · rw [wr_succ (by omega)]
      refine backI ⟨i + 1, by omega, fun k hk => ?_⟩ (by simp only; omega) (le_tmps (by simp [TmpsSub, look]))
      by_cases hki : k = i
      · subst hki; simpa using h
      · exact hg k (by omega)
  · rw [decide_eq_false_iff_not] at hge
    have hiy : i = ys.length := by omega
    subst hiy
    have hll : (xs ++ [m]).length = xs.length + 1 := by simp
    have hx : (xs ++ [m]).getD ys.length cl0 = m := by simp [List.getD_eq_getElem?_getD, ← hl]
    rw [wr_succ (by omega), hll, hx]
    refine ⟨⟨by omega, by omega, Or.inr trivial⟩, ⟨by omega, by omega⟩, by omega, by omega, retV fun E => ?_⟩
    have : xs = ys := by
      refine List.ext_getElem hl fun k hk hk' => ?_
      have := hg k hk'
      simpa [List.getD_eq_getElem?_getD, List.getElem?_eq_getElem hk, List.getElem?_eq_getElem hk'] using this
    simp [den_c, den_b, this]

end Go.Proofs.Ytkjeedlkkpgopaa.Z
