/- SplitLooksSaid: what its proof is made of. No condition. -/
import Derived.Test.YtpjdcbofngcdbaaPkSSplitLooksAH
set_option linter.unusedSimpArgs false
set_option linter.unusedVariables false
namespace Go.Proofs.Ytpjdcbofngcdbaa.Z
open Go Go.RowKit
def ir68 : IR := (.seq (.ops [⟨(some 4), (.mv (.k (.c (.v (.int .u64 0))))), none⟩]) (.kill [2, 3, 4, 5, 6, 7, 8, 9, 10, 11] (.seq (.ops [⟨(some 6), (.mv (.t 0)), none⟩, ⟨(some 7), (.bin .add (.t 6) (.k (.c (.v (.int .i64 1))))), none⟩, ⟨(some 8), (.conv .u64 (.t 7)), none⟩, ⟨(some 5), (.mv (.t 8)), none⟩]) (.kill [0, 6, 7, 8] (.seq (.seq (.ops [⟨(some 9), (.mv (.t 1)), none⟩]) (.kill [1] (.cond (.t 9) (.ops [⟨(some 10), (.mv (.t 5)), none⟩, ⟨(some 11), (.bin .add (.t 10) (.k (.c (.v (.int .u64 4294967296))))), none⟩, ⟨(some 5), (.mv (.t 11)), none⟩]) .skip))) (.kill [9, 10, 11] (.seq (.ops [⟨(some 12), (.mv (.t 5)), none⟩, ⟨(some 4), (.mv (.t 12)), none⟩]) (.kill [5, 12] .ret))))))))
def rs68 : List RS := [(.t 4)]
def nt68 : Nat := 13
def ir33 : IR := (.seq (.ops [⟨(some 1), (.box 37 (.t 0)), none⟩, ⟨(some 2), (.mv (.k (.c (.v (.int .i64 0))))), none⟩]) (.kill [0, 2, 3, 4, 5, 6, 7, 8, 9, 10, 11] (.seq (.seq (.ops [⟨(some 4), (.fa 0 (.t 1)), none⟩, ⟨(some 5), (.ld true 7 (.t 4)), none⟩, ⟨(some 6), (.call 51 [(.t 5)]), none⟩, ⟨(some 3), (.mv (.t 6)), none⟩]) (.kill [4, 5, 6] (.seq (.ops [⟨(some 7), (.mv (.t 3)), none⟩, ⟨(some 8), (.bin .neq (.t 7) (.k (.c (.v (.int .i64 0))))), none⟩]) (.kill [7] (.cond (.t 8) (.seq (.ops [⟨(some 9), (.mv (.t 3)), none⟩, ⟨(some 2), (.mv (.t 9)), none⟩]) (.kill [1, 3, 8, 9] .ret)) .skip))))) (.kill [2, 3, 8] (.seq (.seq (.ops [⟨(some 10), (.fa 7 (.t 1)), none⟩, ⟨(some 11), (.ld false 1 (.t 10)), none⟩, ⟨(some 12), (.bin .lss (.t 11) (.k (.c (.v (.int .i64 1))))), none⟩, ⟨(some 13), (.mv (.t 12)), none⟩, ⟨(some 14), (.fa 7 (.t 1)), (some (13, false))⟩, ⟨(some 15), (.ld false 1 (.t 14)), (some (13, false))⟩, ⟨(some 16), (.bin .gtr (.t 15) (.k (.c (.v (.int .i64 16))))), (some (13, false))⟩, ⟨(some 17), (.pick (.t 13) (.k (.c (.v (.bool true)))) (.t 16)), none⟩]) (.kill [1, 10, 11, 12, 13, 14, 15, 16] (.cond (.t 17) (.seq (.ops [⟨(some 2), (.mv (.k (.c (.v (.int .i64 230))))), none⟩]) (.kill [17] .ret)) .skip))) (.kill [2, 17] (.seq (.ops [⟨(some 2), (.mv (.k (.c (.v (.int .i64 0))))), none⟩]) .ret)))))))
def rs33 : List RS := [(.t 2)]
def nt33 : Nat := 18
def ir18 : IR := (.seq (.ops [⟨(some 1), (.box 37 (.t 0)), none⟩, ⟨(some 2), (.mv (.k (.c (.v (.int .i64 0))))), none⟩]) (.kill [0, 2, 3, 4, 5, 6, 7, 8, 9, 10, 11] (.seq (.seq (.ops [⟨(some 3), (.fa 0 (.t 1)), none⟩, ⟨(some 4), (.ld true 7 (.t 3)), none⟩, ⟨(some 5), (.call 35 [(.t 4)]), none⟩, ⟨(some 6), (.un .not (.t 5)), none⟩]) (.kill [3, 4, 5] (.cond (.t 6) (.seq (.ops [⟨(some 2), (.mv (.k (.c (.v (.int .i64 1))))), none⟩]) (.kill [1, 6] .ret)) .skip))) (.kill [2, 6] (.seq (.seq (.ops [⟨(some 7), (.fa 7 (.t 1)), none⟩, ⟨(some 8), (.ld false 1 (.t 7)), none⟩, ⟨(some 9), (.bin .lss (.t 8) (.k (.c (.v (.int .i64 1))))), none⟩, ⟨(some 10), (.mv (.t 9)), none⟩, ⟨(some 11), (.fa 7 (.t 1)), (some (10, false))⟩, ⟨(some 12), (.ld false 1 (.t 11)), (some (10, false))⟩, ⟨(some 13), (.bin .gtr (.t 12) (.k (.c (.v (.int .i64 16))))), (some (10, false))⟩, ⟨(some 14), (.pick (.t 10) (.k (.c (.v (.bool true)))) (.t 13)), none⟩]) (.kill [1, 7, 8, 9, 10, 11, 12, 13] (.cond (.t 14) (.seq (.ops [⟨(some 2), (.mv (.k (.c (.v (.int .i64 230))))), none⟩]) (.kill [14] .ret)) .skip))) (.kill [2, 14] (.seq (.ops [⟨(some 2), (.mv (.k (.c (.v (.int .i64 0))))), none⟩]) .ret)))))))
def rs18 : List RS := [(.t 2)]
def nt18 : Nat := 15
def eU (n : Int) : List Value := [.int .u64 n]
theorem eU_ok : EncT eU 1 := ⟨fun _ => rfl, fun x u hu => by simp [eU] at hu; subst hu; rfl⟩
theorem cf_ok {p : Nat → Prop} (c : Cf) : SC.okL p c.sc := okL_v _ [.int .i64 c.threads, .int .i64 c.records, .int .i64 c.hazards, .int .i64 c.retire, .int .i64 c.cache, .int .i64 c.slots, .int .i64 c.buckets]
set_option maxRecDepth 100000 in
set_option maxHeartbeats 400000 in
theorem packLink_calls (w : World) (n : Nat) (h : n < 4294967296) : Calls Try.prog 68 #[.int .i64 (n : Int), .bool false] w (RetV w (.int .u64 ((n + 1 : Nat) : Int))) := by
 refine enter0 (A := []) (c := ir68) (rs := rs68) (nt := nt68) [iS n, .c (.v (.bool false))] _ Try.func68 rfl (by kernel_rfl) (by kernel_rfl) rfl (fun E' => by simp [SV.den, SC.den, iS, uS]) (of_decide_eq_true rfl) ?_
 simp only [ir68, nt68, rs68, ex_nil, ex_skip, ex_ops, ex_draw, ex_seq, ex_cond, ex_blk, ex_loop, ex_exit, ex_ret, ex_mark, ex_kill, ex_pop, ex_onil, ex_op, ex_opg, ↓condS, ↓exitS, ↓gateS, ↓runOp, thenS, stepOut, St.ev, look, setL, mergeL, dropL, memB, atN, pkN, setN, Fm.get, Fm.pk, Fm.set, St.app, St.putT, St.skipT, St.setB, St.kill, St.call, St.setA, St.resS, specS, specO, specC, chain, chainP, inCh, resV, rsvP, resT, slot1, slotL, pureSlots, St.evW, resA1, resAP, resA, gB, specD, specDO, recG, pure1, pureO, SV.cells, SC.one, allOne, fillP, put, take', drop', len', nth, binI, eqCells, SC.bool?, SC.nil?, neg?, evs, evC, popTo, resL, resP, resSV, oneSV, finS, retS, dr_nil, dr_cons, ↓gateD, altC, ↓runD, thenD, recOf, skipR, wrOk, wrFree, wkImp, St.weak, thenW, recW, fimp_mpe, newOk, outOk, St.appN, St.hid, St.only, keepK, useO, idX, idC, tchs, keyss, Rec.tch, keysL, ltAll, enumT, slSrc, slB, slM, SV.int?, segs, keyOf, intsOf, Value.oneCell', ↓imp_ft, ↓imp_tf, ↓imp_tt, ↓imp_ff, ↓imp_fn, ↓imp_tn, ↓imp_fy, ↓imp_ty, ↓reduceIte, Nat.reduceLT, Nat.reduceLeDiff, Nat.reduceAdd, Nat.reduceSub, Nat.reduceMul, Nat.reduceEqDiff, reduceCtorEq, and_self, and_true, true_and, and_false, false_and, not_true_eq_false, not_false_eq_true, List.map_cons, List.map_nil, List.cons_append, List.nil_append, List.append_nil, Option.bind_some, Option.bind_none, Int.reduceToNat, Int.reduceEq, Int.reduceBEq, Int.reduceBNe, Int.reduceLT, Int.reduceLE, Int.reduceNeg, Bool.true_and, Bool.and_true, Bool.false_and, Bool.and_false, Bool.not_true, Bool.not_false, Bool.not_not, Bool.true_beq, Bool.false_beq, Bool.bne_true, Bool.bne_false, Bool.true_bne, Bool.false_bne, Option.map_some, Option.map_none, beq_self_eq_true, bne_self_eq_false, Bool.false_eq_true, Bool.true_eq_false, Nat.zero_add, Nat.add_zero, forall_const, implies_true, true_implies, false_implies, Int.cast_ofNat_Int, Int.natCast_nonneg, Int.ofNat_lt, Int.toNat_natCast, mkC_rs, decide_true, decide_false, List.length_cons, List.length_nil, Prod.mk.injEq, Nat.reduceEqDiff, Option.some.injEq, arrOf_len, arrOf_size, arrOf_at, wr_lit, wr_litu, Int.reduceAdd, Int.reduceSub, Int.reduceMul, Int.reduceGE, Int.reduceGT, endO, Nat.sub_zero, ex_back, iS]
 rw [wr_succ (by omega), wrU (by omega)]
 exact retV fun E => by simp [SV.den, SC.den]
def spB (c : Cf) (ld : Int) : Int := if c.ok = true then (if 1 ≤ ld ∧ ld ≤ 16 then 0 else 230) else 1
def spS (c : Cf) (ld : Int) : SV := .agg (c.sc ++ [.v (.int .i64 ld)])
def spV (c : Cf) (ld : Int) : Value := .agg #[.int .i64 c.threads, .int .i64 c.records, .int .i64 c.hazards, .int .i64 c.retire, .int .i64 c.cache, .int .i64 c.slots, .int .i64 c.buckets, .int .i64 ld]
set_option maxRecDepth 100000 in
set_option maxHeartbeats 400000 in
theorem scheck_calls (w : World) (c : Cf) (ld : Int) : Calls Try.prog 33 #[spV c ld] w (RetV w (.int .i64 (spB c ld))) := by
 refine enter0 (A := []) (c := ir33) (rs := rs33) (nt := nt33) [spS c ld] _ Try.func33 rfl (by kernel_rfl) (by kernel_rfl) rfl (fun E' => by simp [Cf.sc, spS, spV, SV.den, SC.den, iS]) (of_decide_eq_true rfl) ?_
 simp only [ir33, nt33, rs33, ex_nil, ex_skip, ex_ops, ex_draw, ex_seq, ex_cond, ex_blk, ex_loop, ex_exit, ex_ret, ex_mark, ex_kill, ex_pop, ex_onil, ex_op, ex_opg, ↓condS, ↓exitS, ↓gateS, ↓runOp, thenS, stepOut, St.ev, look, setL, mergeL, dropL, memB, atN, pkN, setN, Fm.get, Fm.pk, Fm.set, St.app, St.putT, St.skipT, St.setB, St.kill, St.call, St.setA, St.resS, specS, specO, specC, chain, chainP, inCh, resV, rsvP, resT, slot1, slotL, pureSlots, St.evW, resA1, resAP, resA, gB, specD, specDO, recG, pure1, pureO, SV.cells, SC.one, allOne, fillP, put, take', drop', len', nth, binI, eqCells, SC.bool?, SC.nil?, neg?, evs, evC, popTo, resL, resP, resSV, oneSV, finS, retS, dr_nil, dr_cons, ↓gateD, altC, ↓runD, thenD, recOf, skipR, wrOk, wrFree, wkImp, St.weak, thenW, recW, fimp_mpe, newOk, outOk, St.appN, St.hid, St.only, keepK, useO, idX, idC, tchs, keyss, Rec.tch, keysL, ltAll, enumT, slSrc, slB, slM, SV.int?, segs, keyOf, intsOf, Value.oneCell', ↓imp_ft, ↓imp_tf, ↓imp_tt, ↓imp_ff, ↓imp_fn, ↓imp_tn, ↓imp_fy, ↓imp_ty, ↓reduceIte, Nat.reduceLT, Nat.reduceLeDiff, Nat.reduceAdd, Nat.reduceSub, Nat.reduceMul, Nat.reduceEqDiff, reduceCtorEq, and_self, and_true, true_and, and_false, false_and, not_true_eq_false, not_false_eq_true, List.map_cons, List.map_nil, List.cons_append, List.nil_append, List.append_nil, Option.bind_some, Option.bind_none, Int.reduceToNat, Int.reduceEq, Int.reduceBEq, Int.reduceBNe, Int.reduceLT, Int.reduceLE, Int.reduceNeg, Bool.true_and, Bool.and_true, Bool.false_and, Bool.and_false, Bool.not_true, Bool.not_false, Bool.not_not, Bool.true_beq, Bool.false_beq, Bool.bne_true, Bool.bne_false, Bool.true_bne, Bool.false_bne, Option.map_some, Option.map_none, beq_self_eq_true, bne_self_eq_false, Bool.false_eq_true, Bool.true_eq_false, Nat.zero_add, Nat.add_zero, forall_const, implies_true, true_implies, false_implies, Int.cast_ofNat_Int, Int.natCast_nonneg, Int.ofNat_lt, Int.toNat_natCast, mkC_rs, decide_true, decide_false, List.length_cons, List.length_nil, Prod.mk.injEq, Nat.reduceEqDiff, Option.some.injEq, arrOf_len, arrOf_size, arrOf_at, wr_lit, wr_litu, Int.reduceAdd, Int.reduceSub, Int.reduceMul, Int.reduceGE, Int.reduceGT, endO, Nat.sub_zero, ex_back, Cf.sc, spS]
 refine callV (iS (if c.ok = true then 0 else 1)) _ (fun E => rfl) (fun E a w' _ => check_calls23 w' c) ?_
 simp only [ex_nil, ex_skip, ex_ops, ex_draw, ex_seq, ex_cond, ex_blk, ex_loop, ex_exit, ex_ret, ex_mark, ex_kill, ex_pop, ex_onil, ex_op, ex_opg, ↓condS, ↓exitS, ↓gateS, ↓runOp, thenS, stepOut, St.ev, look, setL, mergeL, dropL, memB, atN, pkN, setN, Fm.get, Fm.pk, Fm.set, St.app, St.putT, St.skipT, St.setB, St.kill, St.call, St.setA, St.resS, specS, specO, specC, chain, chainP, inCh, resV, rsvP, resT, slot1, slotL, pureSlots, St.evW, resA1, resAP, resA, gB, specD, specDO, recG, pure1, pureO, SV.cells, SC.one, allOne, fillP, put, take', drop', len', nth, binI, eqCells, SC.bool?, SC.nil?, neg?, evs, evC, popTo, resL, resP, resSV, oneSV, finS, retS, dr_nil, dr_cons, ↓gateD, altC, ↓runD, thenD, recOf, skipR, wrOk, wrFree, wkImp, St.weak, thenW, recW, fimp_mpe, newOk, outOk, St.appN, St.hid, St.only, keepK, useO, idX, idC, tchs, keyss, Rec.tch, keysL, ltAll, enumT, slSrc, slB, slM, SV.int?, segs, keyOf, intsOf, Value.oneCell', ↓imp_ft, ↓imp_tf, ↓imp_tt, ↓imp_ff, ↓imp_fn, ↓imp_tn, ↓imp_fy, ↓imp_ty, ↓reduceIte, Nat.reduceLT, Nat.reduceLeDiff, Nat.reduceAdd, Nat.reduceSub, Nat.reduceMul, Nat.reduceEqDiff, reduceCtorEq, and_self, and_true, true_and, and_false, false_and, not_true_eq_false, not_false_eq_true, List.map_cons, List.map_nil, List.cons_append, List.nil_append, List.append_nil, Option.bind_some, Option.bind_none, Int.reduceToNat, Int.reduceEq, Int.reduceBEq, Int.reduceBNe, Int.reduceLT, Int.reduceLE, Int.reduceNeg, Bool.true_and, Bool.and_true, Bool.false_and, Bool.and_false, Bool.not_true, Bool.not_false, Bool.not_not, Bool.true_beq, Bool.false_beq, Bool.bne_true, Bool.bne_false, Bool.true_bne, Bool.false_bne, Option.map_some, Option.map_none, beq_self_eq_true, bne_self_eq_false, Bool.false_eq_true, Bool.true_eq_false, Nat.zero_add, Nat.add_zero, forall_const, implies_true, true_implies, false_implies, Int.cast_ofNat_Int, Int.natCast_nonneg, Int.ofNat_lt, Int.toNat_natCast, mkC_rs, decide_true, decide_false, List.length_cons, List.length_nil, Prod.mk.injEq, Nat.reduceEqDiff, Option.some.injEq, arrOf_len, arrOf_size, arrOf_at, wr_lit, wr_litu, Int.reduceAdd, Int.reduceSub, Int.reduceMul, Int.reduceGE, Int.reduceGT, endO, Nat.sub_zero, ex_back, iS]
 by_cases h : c.ok = true
 ·simp (maxSteps := 2000000) only [h, ex_nil, ex_skip, ex_ops, ex_draw, ex_seq, ex_cond, ex_blk, ex_loop, ex_exit, ex_ret, ex_mark, ex_kill, ex_pop, ex_onil, ex_op, ex_opg, ↓condS, ↓exitS, ↓gateS, ↓runOp, thenS, stepOut, St.ev, look, setL, mergeL, dropL, memB, atN, pkN, setN, Fm.get, Fm.pk, Fm.set, St.app, St.putT, St.skipT, St.setB, St.kill, St.call, St.setA, St.resS, specS, specO, specC, chain, chainP, inCh, resV, rsvP, resT, slot1, slotL, pureSlots, St.evW, resA1, resAP, resA, gB, specD, specDO, recG, pure1, pureO, SV.cells, SC.one, allOne, fillP, put, take', drop', len', nth, binI, eqCells, SC.bool?, SC.nil?, neg?, evs, evC, popTo, resL, resP, resSV, oneSV, finS, retS, dr_nil, dr_cons, ↓gateD, altC, ↓runD, thenD, recOf, skipR, wrOk, wrFree, wkImp, St.weak, thenW, recW, fimp_mpe, newOk, outOk, St.appN, St.hid, St.only, keepK, useO, idX, idC, tchs, keyss, Rec.tch, keysL, ltAll, enumT, slSrc, slB, slM, SV.int?, segs, keyOf, intsOf, Value.oneCell', ↓imp_ft, ↓imp_tf, ↓imp_tt, ↓imp_ff, ↓imp_fn, ↓imp_tn, ↓imp_fy, ↓imp_ty, ↓reduceIte, Nat.reduceLT, Nat.reduceLeDiff, Nat.reduceAdd, Nat.reduceSub, Nat.reduceMul, Nat.reduceEqDiff, reduceCtorEq, and_self, and_true, true_and, and_false, false_and, not_true_eq_false, not_false_eq_true, List.map_cons, List.map_nil, List.cons_append, List.nil_append, List.append_nil, Option.bind_some, Option.bind_none, Int.reduceToNat, Int.reduceEq, Int.reduceBEq, Int.reduceBNe, Int.reduceLT, Int.reduceLE, Int.reduceNeg, Bool.true_and, Bool.and_true, Bool.false_and, Bool.and_false, Bool.not_true, Bool.not_false, Bool.not_not, Bool.true_beq, Bool.false_beq, Bool.bne_true, Bool.bne_false, Bool.true_bne, Bool.false_bne, Option.map_some, Option.map_none, beq_self_eq_true, bne_self_eq_false, Bool.false_eq_true, Bool.true_eq_false, Nat.zero_add, Nat.add_zero, forall_const, implies_true, true_implies, false_implies, Int.cast_ofNat_Int, Int.natCast_nonneg, Int.ofNat_lt, Int.toNat_natCast, mkC_rs, decide_true, decide_false, List.length_cons, List.length_nil, Prod.mk.injEq, Nat.reduceEqDiff, Option.some.injEq, arrOf_len, arrOf_size, arrOf_at, wr_lit, wr_litu, Int.reduceAdd, Int.reduceSub, Int.reduceMul, Int.reduceGE, Int.reduceGT, endO, Nat.sub_zero, ex_back]
  refine both (fun hb => ?_) (fun hb => ?_)
  ·refine retV fun E => ?_
   simp only [b_decR, b_decL, bt_ite, bf_ite, bt_dec, bf_dec, bt_int, bf_int, bt_nint, bf_nint, bt_bool, bf_bool, bt_nbool, bf_nbool, bt_not, bf_not, bt_and, bf_and, bt_or, bf_or, Bool.false_eq_true, Bool.true_eq_false, Bool.not_eq_true, Bool.not_eq_false, reduceCtorEq, false_iff, true_iff, iff_false, iff_true, and_true, true_and, and_false, false_and, or_true, true_or, or_false, false_or, not_true_eq_false, not_false_eq_true, ne_eq] at hb
   simp only [den_c, den_v, spB, h, if_true]
   rw [if_neg (by omega)]
  ·refine retV fun E => ?_
   simp only [b_decR, b_decL, bt_ite, bf_ite, bt_dec, bf_dec, bt_int, bf_int, bt_nint, bf_nint, bt_bool, bf_bool, bt_nbool, bf_nbool, bt_not, bf_not, bt_and, bf_and, bt_or, bf_or, Bool.false_eq_true, Bool.true_eq_false, Bool.not_eq_true, Bool.not_eq_false, reduceCtorEq, false_iff, true_iff, iff_false, iff_true, and_true, true_and, and_false, false_and, or_true, true_or, or_false, false_or, not_true_eq_false, not_false_eq_true, ne_eq] at hb
   simp only [den_c, den_v, spB, h, if_true]
   rw [if_pos (by omega)]
 ·have h' : c.ok = false := by simpa using h
  simp (maxSteps := 2000000) only [h', ex_nil, ex_skip, ex_ops, ex_draw, ex_seq, ex_cond, ex_blk, ex_loop, ex_exit, ex_ret, ex_mark, ex_kill, ex_pop, ex_onil, ex_op, ex_opg, ↓condS, ↓exitS, ↓gateS, ↓runOp, thenS, stepOut, St.ev, look, setL, mergeL, dropL, memB, atN, pkN, setN, Fm.get, Fm.pk, Fm.set, St.app, St.putT, St.skipT, St.setB, St.kill, St.call, St.setA, St.resS, specS, specO, specC, chain, chainP, inCh, resV, rsvP, resT, slot1, slotL, pureSlots, St.evW, resA1, resAP, resA, gB, specD, specDO, recG, pure1, pureO, SV.cells, SC.one, allOne, fillP, put, take', drop', len', nth, binI, eqCells, SC.bool?, SC.nil?, neg?, evs, evC, popTo, resL, resP, resSV, oneSV, finS, retS, dr_nil, dr_cons, ↓gateD, altC, ↓runD, thenD, recOf, skipR, wrOk, wrFree, wkImp, St.weak, thenW, recW, fimp_mpe, newOk, outOk, St.appN, St.hid, St.only, keepK, useO, idX, idC, tchs, keyss, Rec.tch, keysL, ltAll, enumT, slSrc, slB, slM, SV.int?, segs, keyOf, intsOf, Value.oneCell', ↓imp_ft, ↓imp_tf, ↓imp_tt, ↓imp_ff, ↓imp_fn, ↓imp_tn, ↓imp_fy, ↓imp_ty, ↓reduceIte, Nat.reduceLT, Nat.reduceLeDiff, Nat.reduceAdd, Nat.reduceSub, Nat.reduceMul, Nat.reduceEqDiff, reduceCtorEq, and_self, and_true, true_and, and_false, false_and, not_true_eq_false, not_false_eq_true, List.map_cons, List.map_nil, List.cons_append, List.nil_append, List.append_nil, Option.bind_some, Option.bind_none, Int.reduceToNat, Int.reduceEq, Int.reduceBEq, Int.reduceBNe, Int.reduceLT, Int.reduceLE, Int.reduceNeg, Bool.true_and, Bool.and_true, Bool.false_and, Bool.and_false, Bool.not_true, Bool.not_false, Bool.not_not, Bool.true_beq, Bool.false_beq, Bool.bne_true, Bool.bne_false, Bool.true_bne, Bool.false_bne, Option.map_some, Option.map_none, beq_self_eq_true, bne_self_eq_false, Bool.false_eq_true, Bool.true_eq_false, Nat.zero_add, Nat.add_zero, forall_const, implies_true, true_implies, false_implies, Int.cast_ofNat_Int, Int.natCast_nonneg, Int.ofNat_lt, Int.toNat_natCast, mkC_rs, decide_true, decide_false, List.length_cons, List.length_nil, Prod.mk.injEq, Nat.reduceEqDiff, Option.some.injEq, arrOf_len, arrOf_size, arrOf_at, wr_lit, wr_litu, Int.reduceAdd, Int.reduceSub, Int.reduceMul, Int.reduceGE, Int.reduceGT, endO, Nat.sub_zero, ex_back]
  exact retV fun E => by simp [SV.den, den1, SC.den, spB, h']
set_option maxRecDepth 100000 in
set_option maxHeartbeats 400000 in
theorem rcheck_calls (w : World) (c : Cf) (ld : Int) : Calls Try.prog 18 #[spV c ld] w (RetV w (.int .i64 (spB c ld))) := by
 refine enter0 (A := []) (c := ir18) (rs := rs18) (nt := nt18) [spS c ld] _ Try.func18 rfl (by kernel_rfl) (by kernel_rfl) rfl (fun E' => by simp [Cf.sc, spS, spV, SV.den, SC.den, iS]) (of_decide_eq_true rfl) ?_
 simp only [ir18, nt18, rs18, ex_nil, ex_skip, ex_ops, ex_draw, ex_seq, ex_cond, ex_blk, ex_loop, ex_exit, ex_ret, ex_mark, ex_kill, ex_pop, ex_onil, ex_op, ex_opg, ↓condS, ↓exitS, ↓gateS, ↓runOp, thenS, stepOut, St.ev, look, setL, mergeL, dropL, memB, atN, pkN, setN, Fm.get, Fm.pk, Fm.set, St.app, St.putT, St.skipT, St.setB, St.kill, St.call, St.setA, St.resS, specS, specO, specC, chain, chainP, inCh, resV, rsvP, resT, slot1, slotL, pureSlots, St.evW, resA1, resAP, resA, gB, specD, specDO, recG, pure1, pureO, SV.cells, SC.one, allOne, fillP, put, take', drop', len', nth, binI, eqCells, SC.bool?, SC.nil?, neg?, evs, evC, popTo, resL, resP, resSV, oneSV, finS, retS, dr_nil, dr_cons, ↓gateD, altC, ↓runD, thenD, recOf, skipR, wrOk, wrFree, wkImp, St.weak, thenW, recW, fimp_mpe, newOk, outOk, St.appN, St.hid, St.only, keepK, useO, idX, idC, tchs, keyss, Rec.tch, keysL, ltAll, enumT, slSrc, slB, slM, SV.int?, segs, keyOf, intsOf, Value.oneCell', ↓imp_ft, ↓imp_tf, ↓imp_tt, ↓imp_ff, ↓imp_fn, ↓imp_tn, ↓imp_fy, ↓imp_ty, ↓reduceIte, Nat.reduceLT, Nat.reduceLeDiff, Nat.reduceAdd, Nat.reduceSub, Nat.reduceMul, Nat.reduceEqDiff, reduceCtorEq, and_self, and_true, true_and, and_false, false_and, not_true_eq_false, not_false_eq_true, List.map_cons, List.map_nil, List.cons_append, List.nil_append, List.append_nil, Option.bind_some, Option.bind_none, Int.reduceToNat, Int.reduceEq, Int.reduceBEq, Int.reduceBNe, Int.reduceLT, Int.reduceLE, Int.reduceNeg, Bool.true_and, Bool.and_true, Bool.false_and, Bool.and_false, Bool.not_true, Bool.not_false, Bool.not_not, Bool.true_beq, Bool.false_beq, Bool.bne_true, Bool.bne_false, Bool.true_bne, Bool.false_bne, Option.map_some, Option.map_none, beq_self_eq_true, bne_self_eq_false, Bool.false_eq_true, Bool.true_eq_false, Nat.zero_add, Nat.add_zero, forall_const, implies_true, true_implies, false_implies, Int.cast_ofNat_Int, Int.natCast_nonneg, Int.ofNat_lt, Int.toNat_natCast, mkC_rs, decide_true, decide_false, List.length_cons, List.length_nil, Prod.mk.injEq, Nat.reduceEqDiff, Option.some.injEq, arrOf_len, arrOf_size, arrOf_at, wr_lit, wr_litu, Int.reduceAdd, Int.reduceSub, Int.reduceMul, Int.reduceGE, Int.reduceGT, endO, Nat.sub_zero, ex_back, Cf.sc, spS]
 refine callV (.c (.bo c.ok)) _ (fun E => rfl) (fun E a w' _ => config_calls w' c) ?_
 simp only [ex_nil, ex_skip, ex_ops, ex_draw, ex_seq, ex_cond, ex_blk, ex_loop, ex_exit, ex_ret, ex_mark, ex_kill, ex_pop, ex_onil, ex_op, ex_opg, ↓condS, ↓exitS, ↓gateS, ↓runOp, thenS, stepOut, St.ev, look, setL, mergeL, dropL, memB, atN, pkN, setN, Fm.get, Fm.pk, Fm.set, St.app, St.putT, St.skipT, St.setB, St.kill, St.call, St.setA, St.resS, specS, specO, specC, chain, chainP, inCh, resV, rsvP, resT, slot1, slotL, pureSlots, St.evW, resA1, resAP, resA, gB, specD, specDO, recG, pure1, pureO, SV.cells, SC.one, allOne, fillP, put, take', drop', len', nth, binI, eqCells, SC.bool?, SC.nil?, neg?, evs, evC, popTo, resL, resP, resSV, oneSV, finS, retS, dr_nil, dr_cons, ↓gateD, altC, ↓runD, thenD, recOf, skipR, wrOk, wrFree, wkImp, St.weak, thenW, recW, fimp_mpe, newOk, outOk, St.appN, St.hid, St.only, keepK, useO, idX, idC, tchs, keyss, Rec.tch, keysL, ltAll, enumT, slSrc, slB, slM, SV.int?, segs, keyOf, intsOf, Value.oneCell', ↓imp_ft, ↓imp_tf, ↓imp_tt, ↓imp_ff, ↓imp_fn, ↓imp_tn, ↓imp_fy, ↓imp_ty, ↓reduceIte, Nat.reduceLT, Nat.reduceLeDiff, Nat.reduceAdd, Nat.reduceSub, Nat.reduceMul, Nat.reduceEqDiff, reduceCtorEq, and_self, and_true, true_and, and_false, false_and, not_true_eq_false, not_false_eq_true, List.map_cons, List.map_nil, List.cons_append, List.nil_append, List.append_nil, Option.bind_some, Option.bind_none, Int.reduceToNat, Int.reduceEq, Int.reduceBEq, Int.reduceBNe, Int.reduceLT, Int.reduceLE, Int.reduceNeg, Bool.true_and, Bool.and_true, Bool.false_and, Bool.and_false, Bool.not_true, Bool.not_false, Bool.not_not, Bool.true_beq, Bool.false_beq, Bool.bne_true, Bool.bne_false, Bool.true_bne, Bool.false_bne, Option.map_some, Option.map_none, beq_self_eq_true, bne_self_eq_false, Bool.false_eq_true, Bool.true_eq_false, Nat.zero_add, Nat.add_zero, forall_const, implies_true, true_implies, false_implies, Int.cast_ofNat_Int, Int.natCast_nonneg, Int.ofNat_lt, Int.toNat_natCast, mkC_rs, decide_true, decide_false, List.length_cons, List.length_nil, Prod.mk.injEq, Nat.reduceEqDiff, Option.some.injEq, arrOf_len, arrOf_size, arrOf_at, wr_lit, wr_litu, Int.reduceAdd, Int.reduceSub, Int.reduceMul, Int.reduceGE, Int.reduceGT, endO, Nat.sub_zero, ex_back, iS]
 refine both (fun h' => ?_) (fun h => ?_)
 ·rw [Bool.not_eq_true'] at h'
  exact retV fun E => by simp [SV.den, den1, SC.den, spB, h']
 ·rw [Bool.not_eq_false'] at h
  refine both (fun hb => ?_) (fun hb => ?_)
  ·refine retV fun E => ?_
   simp only [b_decR, b_decL, bt_ite, bf_ite, bt_dec, bf_dec, bt_int, bf_int, bt_nint, bf_nint, bt_bool, bf_bool, bt_nbool, bf_nbool, bt_not, bf_not, bt_and, bf_and, bt_or, bf_or, Bool.false_eq_true, Bool.true_eq_false, Bool.not_eq_true, Bool.not_eq_false, reduceCtorEq, false_iff, true_iff, iff_false, iff_true, and_true, true_and, and_false, false_and, or_true, true_or, or_false, false_or, not_true_eq_false, not_false_eq_true, ne_eq] at hb
   simp only [den_c, den_v, spB, h, if_true]
   rw [if_neg (by omega)]
  ·refine retV fun E => ?_
   simp only [b_decR, b_decL, bt_ite, bf_ite, bt_dec, bf_dec, bt_int, bf_int, bt_nint, bf_nint, bt_bool, bf_bool, bt_nbool, bf_nbool, bt_not, bf_not, bt_and, bf_and, bt_or, bf_or, Bool.false_eq_true, Bool.true_eq_false, Bool.not_eq_true, Bool.not_eq_false, reduceCtorEq, false_iff, true_iff, iff_false, iff_true, and_true, true_and, and_false, false_and, or_true, true_or, or_false, false_or, not_true_eq_false, not_false_eq_true, ne_eq] at hb
   simp only [den_c, den_v, spB, h, if_true]
   rw [if_pos (by omega)]
end Go.Proofs.Ytpjdcbofngcdbaa.Z
namespace Go.Proofs.Ytpjdcbofngcdbaa
open Go.RowKit
section
variable {H : Type} {enc : TypeId × Value → H} {P : Program} {w : World} {base : Nat} {spare : Nat → Bool} {held : Bool}
def leavesFields (L : TypeId → Option (List TypeId)) (P : Program) : List Field → Nat → Option (List TypeId)
 | [], _ => some []
 | f :: r, off => if f.offset = off then (L f.type).bind fun l => if l.length = P.cellsOf f.type then (leavesFields L P r (off + l.length)).map (l ++ ·) else none else none
def leavesIn (P : Program) : Nat → TypeId → Option (List TypeId)
 | 0, _ => none
 | n + 1, t => match P.underlying t with
  | some (.struct fs) => leavesFields (leavesIn P n) P fs.toList 0
  | some (.array k e) => (leavesIn P n e).bind fun l => if l.length = P.cellsOf e then some (List.replicate k l).flatten else none
  | some _ => some [t]
  | none => none
theorem trod_one {t : TypeId} {fuel : Nat} {cs : List Value} {x : DataW H × List MemPlace} {d : TypeDesc} (hu : P.underlying t = some d) (hs : ∀ fs, d ≠ .struct fs) (ha : ∀ n e, d ≠ .array n e)
  (h : DataW.trod enc P w base spare held fuel t cs = some x) : ∃ c, cs = [c] := by
 cases fuel with
 | zero => simp [DataW.trod] at h
 | succ n =>
  rcases cs with _ | ⟨c, _ | ⟨c2, r⟩⟩
  ·exfalso
   cases d <;> first | exact hs _ rfl | exact ha _ _ rfl | simp [DataW.trod, hu] at h
  ·exact ⟨c, rfl⟩
  ·exfalso
   cases d <;> first | exact hs _ rfl | exact ha _ _ rfl | simp [DataW.trod, hu] at h
def LeafAt (enc : TypeId × Value → H) (P : Program) (w : World) (base : Nat) (spare : Nat → Bool) (held : Bool) (bound : Nat) (ws : List Nat) (u : TypeId) (c : Value) : Prop :=
 ∃ m y, DataW.trod enc P w base spare held m u [c] = some y ∧ Rows.uptoBulk y.1 ≤ bound ∧ ∀ k ∈ y.1.weights P u, k ∈ ws
theorem bulk_mem {d : DataW H} {l : List (DataW H)} (h : d ∈ l) : Rows.uptoBulk d ≤ Rows.uptoBulkAll l := by
 induction l with
 | nil => cases h
 | cons x r ih =>
  simp only [Rows.uptoBulkAll]
  cases List.mem_cons.1 h with
  | inl e => subst e; omega
  | inr e => have := ih e; omega
theorem one_le_bulk (d : DataW H) : 1 ≤ Rows.uptoBulk d := by
 cases d with
 | lit l => cases l <;> simp [Rows.uptoBulk]
 | nil => simp [Rows.uptoBulk]
 | ptr d => simp [Rows.uptoBulk]
 | slice elems spare => simp [Rows.uptoBulk]
 | agg parts => simp [Rows.uptoBulk]
 | iface t d => simp [Rows.uptoBulk]
 | map entries => simp [Rows.uptoBulk]
 | held h => simp [Rows.uptoBulk]
theorem length_le_bulk (l : List (DataW H)) : l.length ≤ Rows.uptoBulkAll l := by
 induction l with
 | nil => simp [Rows.uptoBulkAll]
 | cons x r ih => have := one_le_bulk x; simp only [Rows.uptoBulkAll, List.length_cons]; omega
theorem weightsEach_mem {ts : List TypeId} {ds : List (DataW H)} {i : Nat} {t : TypeId} {d : DataW H} (ht : ts[i]? = some t) (hd : ds[i]? = some d) : ∀ k ∈ d.weights P t, k ∈ DataW.weightsEach P ts ds := by
 intro k hk
 induction ts generalizing ds i with
 | nil => simp at ht
 | cons t0 ts ih =>
  cases ds with
  | nil => simp at hd
  | cons d0 ds =>
   simp only [DataW.weightsEach, List.mem_append]
   cases i with
   | zero => simp at ht hd; subst ht; subst hd; exact Or.inl hk
   | succ i => exact Or.inr (ih (by simpa using ht) (by simpa using hd))
theorem weightsAll_mem {e : TypeId} {ds : List (DataW H)} {d : DataW H} (hd : d ∈ ds) : ∀ k ∈ d.weights P e, k ∈ DataW.weightsAll P e ds := by
 intro k hk
 induction ds with
 | nil => cases hd
 | cons d0 ds ih =>
  simp only [DataW.weightsAll, List.mem_append]
  cases List.mem_cons.1 hd with
  | inl e => subst e; exact Or.inl hk
  | inr e => exact Or.inr (ih e)
theorem LeafAt.mono {b b' : Nat} {ws ws' : List Nat} {u : TypeId} {c : Value} (h : LeafAt enc P w base spare held b ws u c) (hb : b ≤ b') (hw : ∀ k ∈ ws, k ∈ ws') : LeafAt enc P w base spare held b' ws' u c := by
 obtain ⟨m, y, h1, h2, h3⟩ := h
 exact ⟨m, y, h1, by omega, fun k hk => hw k (h3 k hk)⟩
theorem leavesFields_at {L : TypeId → Option (List TypeId)} : ∀ (fs : List Field) (off : Nat) (l : List TypeId), leavesFields L P fs off = some l → ∀ i u, l[i]? = some u →
  ∃ (k : Nat) (f : Field) (lf : List TypeId) (j : Nat), fs[k]? = some f ∧ L f.type = some lf ∧ lf.length = P.cellsOf f.type ∧ lf[j]? = some u ∧ off + i = f.offset + j := by
 intro fs
 induction fs with
 | nil => intro off l h i u hi; simp [leavesFields] at h; subst h; simp at hi
 | cons f r ih =>
  intro off l h i u hi
  simp only [leavesFields] at h
  split at h
  ·rename_i ho
   obtain ⟨lf, hlf, h⟩ := Option.bind_eq_some_iff.1 h
   split at h
   ·rename_i hlen
    obtain ⟨l', hl', rfl⟩ := Option.map_eq_some_iff.1 h
    by_cases hlt : i < lf.length
    ·rw [List.getElem?_append_left hlt] at hi
     exact ⟨0, f, lf, i, rfl, hlf, hlen, hi, by omega⟩
    ·rw [List.getElem?_append_right (by omega)] at hi
     obtain ⟨k, f', lf', j, h1, h2, h3, h4, h5⟩ := ih _ _ hl' _ _ hi
     exact ⟨k + 1, f', lf', j, by simpa using h1, h2, h3, h4, by omega⟩
   ·cases h
  ·cases h
theorem flatten_rep_at {α : Type} : ∀ (k : Nat) (l : List α) (i : Nat) (u : α), (List.replicate k l).flatten[i]? = some u → ∃ a j, a < k ∧ l[j]? = some u ∧ i = a * l.length + j := by
 intro k
 induction k with
 | zero => intro l i u h; simp at h
 | succ k ih =>
  intro l i u h
  rw [List.replicate_succ, List.flatten_cons] at h
  by_cases hlt : i < l.length
  ·rw [List.getElem?_append_left hlt] at h
   exact ⟨0, i, by omega, h, by omega⟩
  ·rw [List.getElem?_append_right (by omega)] at h
   obtain ⟨a, j, h1, h2, h3⟩ := ih l _ u h
   refine ⟨a + 1, j, by omega, h2, ?_⟩
   rw [Nat.add_mul]; omega
theorem leaf_of : ∀ (n : Nat) (t : TypeId) (L : List TypeId), leavesIn P n t = some L → ∀ (fuel : Nat) (cs : List Value) (x : DataW H × List MemPlace), DataW.trod enc P w base spare held fuel t cs = some x →
  ∀ (i : Nat) (u : TypeId) (c : Value), L[i]? = some u → cs[i]? = some c → LeafAt enc P w base spare held (Rows.uptoBulk x.1) (x.1.weights P t) u c := by
 intro n
 induction n with
 | zero => intro t L h; simp [leavesIn] at h
 | succ n ih =>
  intro t L hL fuel cs x hx i u c hi hc
  cases hu : P.underlying t with
  | none => simp [leavesIn, hu] at hL
  | some d =>
   by_cases hs : ∃ fs, d = .struct fs
   ·obtain ⟨fs, rfl⟩ := hs
    simp only [leavesIn, hu] at hL
    obtain ⟨k, f, lf, j, h1, h2, h3, h4, h5⟩ := leavesFields_at _ _ _ hL i u hi
    obtain ⟨xs, n', _, rfl, hlen, hxl, hg⟩ := DataW.trod_struct hu hx
    have h1' : fs[k]? = some f := by simpa using h1
    have hk := hg k f h1'
    have hkl : k < xs.length := by rw [hxl]; exact (Array.getElem?_eq_some_iff.1 h1').1
    rw [List.getElem?_eq_getElem hkl] at hk
    have hj : j < lf.length := (List.getElem?_eq_some_iff.1 h4).1
    have hcj : ((cs.drop f.offset).take (P.cellsOf f.type))[j]? = some c := by
     rw [List.getElem?_take, if_pos (by omega), List.getElem?_drop, ← h5, Nat.zero_add]; exact hc
    have := ih f.type lf h2 n' _ _ hk j u c h4 hcj
    have hm : xs[k].1 ∈ xs.map (·.1) := List.mem_map.2 ⟨xs[k], List.getElem_mem hkl, rfl⟩
    refine this.mono ?_ ?_
    ·have := bulk_mem hm
     simp only [Rows.uptoBulk]; omega
    ·intro q hq
     simp only [DataW.weights, hu]
     exact weightsEach_mem (i := k) (t := f.type) (d := xs[k].1) (by rw [List.getElem?_map]; rw [h1]; rfl) (by rw [List.getElem?_map, List.getElem?_eq_getElem hkl]; rfl) q hq
   ·by_cases ha : ∃ k e, d = .array k e
    ·obtain ⟨k, e, rfl⟩ := ha
     simp only [leavesIn, hu] at hL
     obtain ⟨l, hl, hL⟩ := Option.bind_eq_some_iff.1 hL
     split at hL
     ·rename_i hlen
      cases hL
      obtain ⟨a, j, h1, h2, h3⟩ := flatten_rep_at _ _ _ _ hi
      obtain ⟨xs, n', _, rfl, _, hxl, hg⟩ := DataW.trod_array hu hx
      have hk := hg a h1
      have hkl : a < xs.length := by omega
      rw [List.getElem?_eq_getElem hkl] at hk
      have hj : j < l.length := (List.getElem?_eq_some_iff.1 h2).1
      have hcj : ((cs.drop (a * P.cellsOf e)).take (P.cellsOf e))[j]? = some c := by
       rw [List.getElem?_take, if_pos (by omega), List.getElem?_drop, ← hlen, ← h3]; exact hc
      have := ih e l hl n' _ _ hk j u c h2 hcj
      have hm : xs[a].1 ∈ xs.map (·.1) := List.mem_map.2 ⟨xs[a], List.getElem_mem hkl, rfl⟩
      refine this.mono ?_ ?_
      ·have := bulk_mem hm
       simp only [Rows.uptoBulk]; omega
      ·intro q hq
       simp only [DataW.weights, hu]
       exact weightsAll_mem hm q hq
     ·cases hL
    ·have hL' : L = [t] := by
      simp only [leavesIn, hu] at hL
      cases d <;> first | exact absurd ⟨_, rfl⟩ hs | exact absurd ⟨_, _, rfl⟩ ha | (simpa using hL.symm)
     subst hL'
     obtain ⟨c', rfl⟩ := trod_one hu (fun fs e => hs ⟨fs, e⟩) (fun k e e' => ha ⟨k, e, e'⟩) hx
     have hi0 : i = 0 := by have := (List.getElem?_eq_some_iff.1 hi).1; simpa using this
     subst hi0
     simp at hi hc
     subst hi; subst hc
     exact ⟨fuel, x, hx, Nat.le_refl _, fun _ h => h⟩
theorem LeafAt.int {b : Nat} {ws : List Nat} {u : TypeId} {c : Value} {k : IntKind} (hu : P.underlying u = some (.int k)) (h : LeafAt enc P w base spare held b ws u c) : ∃ n, c = .int k n ∧ (Lit.int k n).wf = true := by
 obtain ⟨m, y, h1, _⟩ := h
 obtain ⟨n, hc, _, hw⟩ := DataW.trod_int hu h1
 exact ⟨n, by simpa using hc, hw⟩
theorem LeafAt.bool {b : Nat} {ws : List Nat} {u : TypeId} {c : Value} (hu : P.underlying u = some .bool) (h : LeafAt enc P w base spare held b ws u c) : ∃ n, c = .bool n := by
 obtain ⟨m, y, h1, _⟩ := h
 obtain ⟨n, hc, _⟩ := DataW.trod_bool hu h1
 exact ⟨n, by simpa using hc⟩
theorem choose_list {α : Type} {R : Nat → α → Prop} : ∀ n, (∀ i, i < n → ∃ x, R i x) → ∃ xs : List α, xs.length = n ∧ ∀ i x, xs[i]? = some x → R i x := by
 intro n
 induction n with
 | zero => intro _; exact ⟨[], rfl, fun i x h => by simp at h⟩
 | succ n ih =>
  intro h
  obtain ⟨xs, hl, hx⟩ := ih (fun i hi => h i (by omega))
  obtain ⟨y, hy⟩ := h n (by omega)
  refine ⟨xs ++ [y], by simp [hl], fun i x hi => ?_⟩
  by_cases hlt : i < xs.length
  ·rw [List.getElem?_append_left hlt] at hi
   exact hx i x hi
  ·rw [List.getElem?_append_right (by omega)] at hi
   have h0 : i - xs.length = 0 := by have := (List.getElem?_eq_some_iff.1 hi).1; simp at this; omega
   rw [h0] at hi
   simp at hi
   subst hi
   have : i = n := by omega
   subst this
   exact hy
theorem LeafAt.slice {α : Type} {b : Nat} {ws : List Nat} {u e : TypeId} {c : Value} (hu : P.underlying u = some (.slice e)) {s : Nat} (hpos : 0 < s) (hc : P.cellsOf e = s) (encA : α → List Value) (Q : α → Prop)
  (helem : ∀ (m : Nat) (cs : List Value) (y : DataW H × List MemPlace), cs.length = s → DataW.trod enc P w base spare held m e cs = some y → ∃ x : α, cs = encA x ∧ Q x)
  (h : LeafAt enc P w base spare held b ws u c) : ∃ xs : List α, Arr w encA s c xs ∧ (∀ x ∈ xs, Q x) ∧ xs.length + 1 ≤ b ∧ (xs = [] ∨ ∃ k ∈ ws, xs.length * P.bytesOf e ≤ k) := by
 obtain ⟨m, y, h1, hb, hw⟩ := h
 rcases DataW.trod_slice hu h1 with ⟨hcs, rfl⟩ | ⟨a, len, cap, elems, rest, n, _, hcs, rfl, hba, hl, hm, hlen, hel, hsp, hns⟩
 ·simp only [List.cons.injEq, and_true] at hcs
  subst hcs
  refine ⟨[], Arr.nil _ _ _, by simp, ?_, Or.inl rfl⟩
  simp only [Rows.uptoBulk] at hb
  simpa using hb
 ·simp only [List.cons.injEq, and_true] at hcs
  subst hcs
  have each : ∀ i, i < len → ∃ x : α, (∃ cs, w.cells? base (a.add (i * s)) s = some cs ∧ cs = encA x) ∧ Q x := by
   intro i hi
   have h2 := hel i hi
   rw [List.getElem?_eq_getElem (by omega), hc] at h2
   obtain ⟨cs, h3, h4⟩ := Option.bind_eq_some_iff.1 h2
   obtain ⟨x, h5, h6⟩ := helem n cs _ (World.cells?_some h3).2.1 h4
   exact ⟨x, ⟨cs, h3, h5⟩, h6⟩
  obtain ⟨xs, hxl, hx⟩ := choose_list len each
  refine ⟨xs, ?_, ?_, ?_, ?_⟩
  ·refine ⟨some a, cap, by rw [hxl], by omega, hm, ?_⟩
   by_cases h0 : xs = []
   ·exact Or.inl h0
   ·right
    by_cases hspot : a.spot = none
    ·obtain ⟨ab, ao, sp⟩ := a
     simp only at hspot
     subst hspot
     refine ⟨ab, ao, rfl, fun k x hk j u hj => ?_⟩
     obtain ⟨⟨cs, h3, rfl⟩, _⟩ := hx k x hk
     obtain ⟨_, hlc, hcell⟩ := World.cells?_some h3
     have hjs : j < s := by rw [← hlc]; exact (List.getElem?_eq_some_iff.1 hj).1
     have h4 := hcell j hjs
     rw [hj] at h4
     rw [← h4]
     congr 1
     unfold Addr.add
     split <;> split <;> simp_all
    ·exfalso
     obtain ⟨x0, hx0⟩ : ∃ x0, xs[0]? = some x0 := by cases xs with | nil => exact absurd rfl h0 | cons y _ => exact ⟨y, rfl⟩
     obtain ⟨⟨cs, h3, _⟩, _⟩ := hx 0 x0 hx0
     obtain ⟨_, hlc, hcell⟩ := World.cells?_some h3
     have h4 := hcell 0 hpos
     rw [Nat.zero_mul] at h4
     have e : (a.add 0).add 0 = a := by simp [Addr.add]
     rw [e, List.getElem?_eq_getElem (by omega)] at h4
     unfold World.cell? at h4
     split at h4
     ·cases hs : a.spot with
      | none => exact hspot hs
      | some q => rw [hs] at h4; simp at h4
     ·cases h4
  ·intro x hx'
   obtain ⟨i, hi⟩ := List.getElem?_of_mem hx'
   exact (hx i x hi).2
  ·have h2 := length_le_bulk (elems.map (·.1))
   simp only [Rows.uptoBulk, List.length_map] at hb h2
   omega
  ·right
   refine ⟨_, hw (((elems.map (·.1)).length + (rest.map (·.1)).length) * P.bytesOf e) ?_, ?_⟩
   ·simp only [DataW.weights, hu]
    exact List.mem_cons_self
   ·rw [hxl, List.length_map, hlen]
    exact Nat.mul_le_mul_right _ (by omega)
end
end Go.Proofs.Ytpjdcbofngcdbaa
namespace Go.Proofs.Ytpjdcbofngcdbaa.Z
open Go Go.RowKit Go.ChangeShapes Go.WideShapes Go.ChangeAt
theorem own : ownKnob Try.prog.godebug = none := by kernel_rfl
theorem laidOut : laidOutB Try.prog = true := by kernel_rfl
theorem leavesSp : leavesIn Try.prog 9 37 = some [3, 3, 3, 3, 3, 3, 3, 3] := by kernel_rfl
theorem cellsSp : Try.prog.cellsOf 37 = 8 := by kernel_rfl
set_option maxRecDepth 100000 in
theorem open_sp {H : Type} {enc : TypeId × Value → H} {w : World} {base : Nat} {v : Value} {d : DataW H} {p : List MemPlace} (hv : Value.okWide Try.prog w .any base 37 v) (h : DataW.Trod enc Try.prog w 0 (fun _ => true) true 37 v d p) :
  ∃ c ld, v = spV c ld := by
 obtain ⟨cs, rfl, hsz⟩ := okWide_struct Try.underlying37 hv
 obtain ⟨l⟩ := cs
 obtain ⟨fuel, hf⟩ := h
 match l, hsz.trans cellsSp with
 | [c0, c1, c2, c3, c4, c5, c6, c7], _ =>
  have L := leaf_of 9 _ _ leavesSp fuel _ _ hf
  obtain ⟨x0, rfl, _⟩ := (L 0 3 c0 rfl rfl).int Try.underlying3
  obtain ⟨x1, rfl, _⟩ := (L 1 3 c1 rfl rfl).int Try.underlying3
  obtain ⟨x2, rfl, _⟩ := (L 2 3 c2 rfl rfl).int Try.underlying3
  obtain ⟨x3, rfl, _⟩ := (L 3 3 c3 rfl rfl).int Try.underlying3
  obtain ⟨x4, rfl, _⟩ := (L 4 3 c4 rfl rfl).int Try.underlying3
  obtain ⟨x5, rfl, _⟩ := (L 5 3 c5 rfl rfl).int Try.underlying3
  obtain ⟨x6, rfl, _⟩ := (L 6 3 c6 rfl rfl).int Try.underlying3
  obtain ⟨x7, rfl, _⟩ := (L 7 3 c7 rfl rfl).int Try.underlying3
  exact ⟨⟨x0, x1, x2, x3, x4, x5, x6⟩, x7, rfl⟩
end Go.Proofs.Ytpjdcbofngcdbaa.Z
namespace Go.Proofs.Ytpjdcbofngcdbaa.Z
open Go Go.RowKit
def lnkOk (x : Int) : Bool := decide (x < 8589934592 ∧ x % 4294967296 ≤ 2147483647)
def lnkI (x : Int) : Int := x % 4294967296 - 1
def lnkM (x : Int) : Bool := decide (x / 4294967296 % 2 = 1)
def vI (x : Int) : Int := IntKind.i64.wrap x
def okW (ws : List Int) : Prop := ∀ x ∈ ws, 0 ≤ x ∧ x < 18446744073709551616
def Cf.at_ (c : Cf) (ws : List Int) (r : Nat) (i : Int) : Int := ws.getD (c.base (r - 1) + i).toNat 0
theorem okW_at {ws : List Int} (h : okW ws) (k : Nat) : 0 ≤ ws.getD k 0 ∧ ws.getD k 0 < 18446744073709551616 := by
 rw [List.getD_eq_getElem?_getD]
 by_cases hk : k < ws.length
 ·rw [List.getElem?_eq_getElem hk]; exact h _ (List.getElem_mem hk)
 ·rw [List.getElem?_eq_none (by omega)]; decide
structure Nd where
 slot : Int
 place : Int
 mark : Bool
def nd0 : Nd := ⟨0, 0, false⟩
def Nd.enc (n : Nd) : List Value := [.int .i64 n.slot, .int .i64 n.place, .bool n.mark]
def bkt (c : Cf) (p : Int) : Int :=
 if 0 ≤ p ∧ p < 2147483648 ∧ p % 2 = 0 ∧ 1 ≤ rv (p / 2).toNat 30 ∧ (rv (p / 2).toNat 30 : Int) < c.buckets then (rv (p / 2).toNat 30 : Nat) else -1
theorem bkt_iff {c : Cf} (hb : c.buckets ≤ 64) {p : Int} {b : Nat} (h1 : 1 ≤ b) (h2 : (b : Int) < c.buckets) : p = 2 * (rv b 30 : Nat) ↔ bkt c p = b := by
 have hr := rv30 b
 have hrr : rv (rv b 30) 30 = b := rv_rv (by omega)
 constructor
 ·rintro rfl
  have e : ((2 * ((rv b 30 : Nat) : Int)) / 2).toNat = rv b 30 := by omega
  unfold bkt
  rw [e, hrr, if_pos (by omega)]
 ·intro h
  unfold bkt at h
  split at h
  ·next hc =>
   have hb' : rv (p / 2).toNat 30 = b := by omega
   have : rv (rv (p / 2).toNat 30) 30 = (p / 2).toNat := rv_rv (by omega)
   rw [hb'] at this
   rw [this]
   omega
  ·omega
theorem bkt_pos {c : Cf} (hb : c.buckets ≤ 64) {p : Int} (h : bkt c p ≠ -1) : ∃ b : Nat, 1 ≤ b ∧ (b : Int) < c.buckets ∧ bkt c p = b ∧ p = 2 * (rv b 30 : Nat) := by
 have h' := h
 unfold bkt at h
 split at h
 ·next hc =>
  refine ⟨rv (p / 2).toNat 30, hc.2.2.2.1, hc.2.2.2.2, ?_, ?_⟩
  ·unfold bkt; rw [if_pos hc]
  ·rw [rv_rv (by omega)]; omega
 ·exact absurd rfl h
def stp (c : Cf) (ws : List Int) (acc : List Nd) (at_ : Int) : Option (Nd × Int) :=
 if c.slots ≤ at_ ∨ at_ ∈ acc.map (·.slot) then none
 else if lnkOk (c.at_ ws 13 at_) = false then none
 else if acc ≠ [] ∧ vI (c.at_ ws 11 at_) ≤ (acc.getLast?.getD nd0).place then none
 else if placeB (vI (c.at_ ws 11 at_)) = false ∧ (lnkM (c.at_ ws 13 at_) = true ∨ bkt c (vI (c.at_ ws 11 at_)) = -1) then none
 else some (⟨at_, vI (c.at_ ws 11 at_), lnkM (c.at_ ws 13 at_)⟩, lnkI (c.at_ ws 13 at_))
def ndF (c : Cf) (ws : List Int) : Nat → List Nd → Int → Option (List Nd)
 | 0, _, _ => none
 | k + 1, acc, at_ => if at_ < 0 then some acc else match stp c ws acc at_ with
  | none => none
  | some (n, a) => ndF c ws k (acc ++ [n]) a
def nodesL (c : Cf) (ws : List Int) : Option (List Nd) := if lnkOk (c.at_ ws 6 0) = true ∧ lnkM (c.at_ ws 6 0) = false then ndF c ws (c.slots.toNat + 2) [] (lnkI (c.at_ ws 6 0)) else none
structure NdOk (c : Cf) (ws : List Int) (acc : List Nd) : Prop where
 nd : (acc.map (·.slot)).Nodup
 rng : ∀ n ∈ acc, 0 ≤ n.slot ∧ n.slot < c.slots
 srt : acc.Pairwise fun a b => a.place < b.place
 kind : ∀ n ∈ acc, (placeB n.place = true ∨ n.mark = false ∧ bkt c n.place ≠ -1) ∧ 0 ≤ n.place
theorem NdOk.len {c : Cf} {ws : List Int} {acc : List Nd} (h : NdOk c ws acc) : acc.length ≤ c.slots.toNat := by
 have h1 : (acc.map fun n => n.slot.toNat).Nodup := by
  rw [List.nodup_iff_pairwise_ne, List.pairwise_map]
  have := h.nd
  rw [List.nodup_iff_pairwise_ne, List.pairwise_map] at this
  refine (List.Pairwise.and_mem.1 this).imp ?_
  rintro a b ⟨ha, hb, hne⟩
  have := (h.rng a ha).1
  have := (h.rng b hb).1
  omega
 have h2 : ∀ x ∈ acc.map (fun n => n.slot.toNat), x ∈ List.range c.slots.toNat := fun x hx => by
  rw [List.mem_map] at hx
  obtain ⟨n, hn, rfl⟩ := hx
  have := h.rng n hn
  rw [List.mem_range]
  omega
 have h3 := h1.length_le_of_subset h2
 simpa using h3
theorem NdOk.nil (c : Cf) (ws : List Int) : NdOk c ws [] := ⟨by simp, by simp, List.Pairwise.nil, by simp⟩
theorem last_lt {l : List Nd} (h : l.Pairwise fun a b => a.place < b.place) {p : Int} (hl : ¬ (l ≠ [] ∧ p ≤ (l.getLast?.getD nd0).place)) : ∀ n ∈ l, n.place < p := by
 intro n hn
 obtain ⟨k, hk, rfl⟩ := List.getElem_of_mem hn
 have hne : l ≠ [] := List.ne_nil_of_mem hn
 have e : l.getLast?.getD nd0 = l[l.length - 1]'(by omega) := by rw [List.getLast?_eq_getElem?, List.getElem?_eq_getElem (by omega)]; rfl
 have h2 : ¬ p ≤ (l[l.length - 1]'(by omega)).place := fun hp => hl ⟨hne, by rw [e]; exact hp⟩
 by_cases hk' : k = l.length - 1
 ·subst hk'; omega
 ·have := List.pairwise_iff_getElem.1 h k (l.length - 1) hk (by omega) (by omega)
  omega
theorem NdOk.step {c : Cf} {ws : List Int} {acc : List Nd} {at_ : Int} (h : NdOk c ws acc) (h0 : 0 ≤ at_) {n : Nd} {a : Int} (hs : stp c ws acc at_ = some (n, a)) : NdOk c ws (acc ++ [n]) ∧ n.slot = at_ := by
 unfold stp at hs
 split at hs
 ·cases hs
 next h1 =>
 split at hs
 ·cases hs
 next h2 =>
 split at hs
 ·cases hs
 next h3 =>
 split at hs
 ·cases hs
 next h4 =>
 simp only [Option.some.injEq, Prod.mk.injEq] at hs
 obtain ⟨rfl, rfl⟩ := hs
 have hk : placeB (vI (c.at_ ws 11 at_)) = true ∨ lnkM (c.at_ ws 13 at_) = false ∧ bkt c (vI (c.at_ ws 11 at_)) ≠ -1 := by
  by_cases hp : placeB (vI (c.at_ ws 11 at_)) = true
  ·exact Or.inl hp
  ·refine Or.inr ⟨?_, fun e => h4 ⟨by simpa using hp, Or.inr e⟩⟩
   cases hm : lnkM (c.at_ ws 13 at_)
   ·rfl
   ·exact absurd ⟨by simpa using hp, Or.inl hm⟩ h4
 have hpos : 0 ≤ vI (c.at_ ws 11 at_) := by
  rcases hk with hk | ⟨_, hk⟩
  ·simp only [placeB, decide_eq_true_eq] at hk; exact hk.1
  ·unfold bkt at hk
   split at hk
   ·next hc => exact hc.1
   ·exact absurd rfl hk
 refine ⟨⟨?_, ?_, ?_, ?_⟩, rfl⟩
 ·rw [List.map_append, List.nodup_append]
  refine ⟨h.nd, by simp, ?_⟩
  intro x hx y hy
  simp only [List.map_cons, List.map_nil, List.mem_singleton] at hy
  subst hy
  rintro rfl
  exact h1 (Or.inr hx)
 ·intro n hn
  rw [List.mem_append, List.mem_singleton] at hn
  rcases hn with hn | rfl
  ·exact h.rng n hn
  ·exact ⟨h0, by show at_ < _; omega⟩
 ·rw [List.pairwise_append]
  refine ⟨h.srt, List.pairwise_singleton _ _, fun a ha b hb => ?_⟩
  rw [List.mem_singleton] at hb
  subst hb
  exact last_lt h.srt h3 a ha
 ·intro n hn
  rw [List.mem_append, List.mem_singleton] at hn
  rcases hn with hn | rfl
  ·exact h.kind n hn
  ·exact ⟨hk, hpos⟩
theorem ndF_ok {c : Cf} {ws : List Int} : ∀ {k : Nat} {acc : List Nd} {at_ : Int} {l : List Nd}, NdOk c ws acc → ndF c ws k acc at_ = some l → NdOk c ws l
 | 0, acc, at_, l, _, h => by cases h
 | k + 1, acc, at_, l, ha, h => by
  unfold ndF at h
  split at h
  ·cases h; exact ha
  next h0 =>
  split at h
  ·cases h
  ·next n a hs => exact ndF_ok (ha.step (by omega) hs).1 h
theorem nodesL_ok {c : Cf} {ws : List Int} {l : List Nd} (h : nodesL c ws = some l) : NdOk c ws l := by
 unfold nodesL at h
 split at h
 ·exact ndF_ok (NdOk.nil c ws) h
 ·cases h
end Go.Proofs.Ytpjdcbofngcdbaa.Z
