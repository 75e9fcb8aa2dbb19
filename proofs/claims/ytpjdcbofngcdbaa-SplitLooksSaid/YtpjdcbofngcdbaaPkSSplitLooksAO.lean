/- SplitLooksSaid: what its proof is made of. No condition. -/
import Derived.Test.YtpjdcbofngcdbaaPkSSplitLooksAN
set_option linter.unusedSimpArgs false
set_option linter.unusedVariables false
namespace Go.Proofs.Ytpjdcbofngcdbaa.Z
open Go Go.RowKit
def ir25 : IR := (.seq (.ops [⟨(some 2), (.box 37 (.t 0)), none⟩, ⟨(some 4), (.mv (.k (.c (.v (.slice none 0 0))))), none⟩, ⟨(some 5), (.mv (.k (.c (.v (.int .i64 0))))), none⟩]) (.kill [0, 3, 4, 5, 6, 7, 8, 9, 10, 11] (.seq (.ops [⟨(some 12), (.ld true 8 (.t 2)), none⟩, ⟨(some 13), (.mv (.t 1)), none⟩, ⟨(some 14), (.call 49 [(.t 12), (.t 13)]), none⟩, ⟨(some 11), (.mv (.t 14)), none⟩, ⟨(some 15), (.ext 0 (.t 11)), none⟩, ⟨(some 16), (.ext 1 (.t 11)), none⟩, ⟨(some 6), (.mv (.t 15)), none⟩, ⟨(some 7), (.mv (.t 16)), none⟩]) (.kill [1, 11, 12, 13, 14, 15, 16] (.seq (.seq (.ops [⟨(some 17), (.mv (.t 7)), none⟩, ⟨(some 18), (.bin .neq (.t 17) (.k (.c (.v (.int .i64 0))))), none⟩]) (.kill [17] (.cond (.t 18) (.seq (.ops [⟨(some 19), (.mv (.t 7)), none⟩, ⟨(some 4), (.mv (.k (.c (.v (.slice none 0 0))))), none⟩, ⟨(some 5), (.mv (.t 19)), none⟩]) (.kill [2, 6, 7, 18, 19] .ret)) .skip))) (.kill [4, 5, 7, 18] (.seq (.ops [⟨(some 8), (.mv (.k (.c (.v (.slice none 0 0))))), none⟩]) (.seq (.seq (.ops [⟨(some 9), (.mv (.k (.c (.v (.int .i64 1))))), none⟩]) (.blk 0 (.loop (.seq (.seq (.ops [⟨(some 20), (.mv (.t 9)), none⟩, ⟨(some 21), (.fa 0 (.t 2)), none⟩, ⟨(some 22), (.fa 6 (.t 21)), none⟩, ⟨(some 23), (.ld false 1 (.t 22)), none⟩, ⟨(some 24), (.bin .lss (.t 20) (.t 23)), none⟩]) (.kill [10, 20, 21, 22, 23, 25, 26, 27, 28, 29, 30, 31, 32, 33, 34, 35, 36, 37, 38, 39, 40, 41, 42, 43, 44, 45] (.cond (.t 24) .skip (.exit 0)))) (.kill [24] (.seq (.blk 1 (.seq (.ops [⟨(some 10), (.mv (.k (.c (.v (.int .i64 0))))), none⟩]) (.blk 2 (.loop (.seq (.seq (.ops [⟨(some 27), (.mv (.t 10)), none⟩, ⟨(some 28), (.mv (.t 6)), none⟩, ⟨(some 29), (.len (.t 28)), none⟩, ⟨(some 30), (.bin .lss (.t 27) (.t 29)), none⟩]) (.kill [27, 28, 29, 31, 32, 33, 34, 35, 36, 37, 38, 39, 40, 41, 42, 43, 44, 45] (.cond (.t 30) .skip (.exit 2)))) (.kill [30] (.seq (.blk 3 (.seq (.draw [(⟨(some 33), (.mv (.t 6)), none⟩, ([], [34, 38, 39, 40])), (⟨(some 34), (.mv (.t 10)), none⟩, ([0], [33, 38, 39, 40])), (⟨(some 35), (.ia 3 (.t 33) (.t 34)), none⟩, ([], [38, 39, 40])), (⟨(some 36), (.fa 1 (.t 35)), none⟩, ([], [38, 39, 40])), (⟨(some 37), (.ld false 1 (.t 36)), none⟩, ([], [38, 39, 40])), (⟨(some 38), (.mv (.t 9)), none⟩, ([0, 1, 2, 3, 4], [33, 34, 35, 36, 37])), (⟨(some 39), (.call 32 [(.t 38)]), none⟩, ([0, 1, 2, 3, 4], [33, 34, 35, 36, 37])), (⟨(some 40), (.bin .mul (.k (.c (.v (.int .i64 2)))) (.t 39)), none⟩, ([0, 1, 2, 3, 4], [33, 34, 35, 36, 37])), (⟨(some 41), (.bin .eql (.t 37) (.t 40)), none⟩, ([], []))]) (.kill [33, 34, 35, 36, 37, 38, 39, 40] (.cond (.t 41) (.ops [⟨(some 42), (.mv (.t 8)), none⟩, ⟨(some 43), (.mv (.t 9)), none⟩, ⟨(some 44), (.mkSl 3 1 1 [(.v (.int .i64 0))] [(0, (1, (.t 43)))]), none⟩, ⟨(some 45), (.app 3 1 8 [(.v (.int .i64 0))] (.t 42) (.t 44)), none⟩, ⟨(some 8), (.mv (.t 45)), none⟩]) .skip)))) (.kill [33, 34, 35, 36, 37, 38, 39, 40, 41, 42, 43, 44, 45] (.ops [⟨(some 31), (.mv (.t 10)), none⟩, ⟨(some 32), (.bin .add (.t 31) (.k (.c (.v (.int .i64 1))))), none⟩, ⟨(some 10), (.mv (.t 32)), none⟩]))))))))) (.kill [10, 27, 28, 29, 30, 31, 32, 33, 34, 35, 36, 37, 38, 39, 40, 41, 42, 43, 44, 45] (.ops [⟨(some 25), (.mv (.t 9)), none⟩, ⟨(some 26), (.bin .add (.t 25) (.k (.c (.v (.int .i64 1))))), none⟩, ⟨(some 9), (.mv (.t 26)), none⟩])))))))) (.kill [2, 6, 9, 10, 20, 21, 22, 23, 24, 25, 26, 27, 28, 29, 30, 31, 32, 33, 34, 35, 36, 37, 38, 39, 40, 41, 42, 43, 44, 45] (.seq (.ops [⟨(some 46), (.mv (.t 8)), none⟩, ⟨(some 4), (.mv (.t 46)), none⟩, ⟨(some 5), (.mv (.k (.c (.v (.int .i64 0))))), none⟩]) (.kill [8, 46] .ret)))))))))))
def rs25 : List RS := [(.t 4), (.t 5)]
def nt25 : Nat := 47
def bkU (l : List Nd) (b : Nat) : List Int := ((List.range b).filter (bkQ l)).map fun b : Nat => (b : Int)
def bkV (l : List Nd) (b i : Nat) : List Int := bkU l b ++ if (l.take i).any (fun n => decide (n.place = 2 * (rv b 30 : Nat))) = true then [(b : Int)] else []
theorem bkU_one (l : List Nd) : bkU l 1 = [] := by simp [bkU, List.range_succ, bkQ]
theorem bkU_len (l : List Nd) (b : Nat) : (bkU l b).length ≤ b := by
 unfold bkU
 rw [List.length_map]
 have := List.length_filter_le (bkQ l) (List.range b)
 rwa [List.length_range] at this
theorem bkV_zero (l : List Nd) (b : Nat) : bkV l b 0 = bkU l b := by simp [bkV]
theorem bkV_end (l : List Nd) {b : Nat} (h : 1 ≤ b) : bkV l b l.length = bkU l (b + 1) := by
 unfold bkV bkU
 rw [List.take_length, List.range_succ, List.filter_append, List.map_append]
 congr 1
 have e : bkQ l b = l.any (fun n => decide (n.place = 2 * (rv b 30 : Nat))) := by unfold bkQ; rw [decide_eq_true h, Bool.true_and]
 rw [← e]
 cases hq : bkQ l b <;> simp [hq]
theorem bkV_len (l : List Nd) (b i : Nat) : (bkV l b i).length ≤ b + 1 := by
 have := bkU_len l b
 unfold bkV
 rw [List.length_append]
 split <;> simp <;> omega
theorem bkV_no {l : List Nd} {b i : Nat} (hi : i < l.length) (h : (l.getD i nd0).place ≠ 2 * (rv b 30 : Nat)) : bkV l b (i + 1) = bkV l b i := by
 unfold bkV
 rw [List.take_add_one, List.any_append, List.getElem?_eq_getElem hi]
 rw [List.getD_eq_getElem?_getD, List.getElem?_eq_getElem hi] at h
 simp only [Option.toList, List.any_cons, List.any_nil, Bool.or_false]
 rw [show decide ((l[i]).place = 2 * ((rv b 30 : Nat) : Int)) = false from decide_eq_false h, Bool.or_false]
theorem bkV_yes {c : Cf} {ws : List Int} {l : List Nd} (hok : NdOk c ws l) {b i : Nat} (hi : i < l.length) (h : (l.getD i nd0).place = 2 * (rv b 30 : Nat)) : bkV l b i = bkU l b ∧ bkV l b (i + 1) = bkV l b i ++ [(b : Int)] := by
 rw [List.getD_eq_getElem?_getD, List.getElem?_eq_getElem hi] at h
 have h0 : (l.take i).any (fun n => decide (n.place = 2 * (rv b 30 : Nat))) = false := by
  rw [List.any_eq_false]
  intro n hn
  obtain ⟨j, hj, rfl⟩ := List.getElem_of_mem hn
  have hjl : j < i := by simp at hj; omega
  have := List.pairwise_iff_getElem.1 hok.srt j i (by omega) hi hjl
  rw [List.getElem_take, decide_eq_true_eq]
  simp only [Option.getD_some] at h
  omega
 have e1 : bkV l b i = bkU l b := by unfold bkV; rw [h0]; simp
 refine ⟨e1, ?_⟩
 rw [e1]
 unfold bkV
 rw [List.take_add_one, List.any_append, List.getElem?_eq_getElem hi]
 simp only [Option.toList, List.any_cons, List.any_nil, Bool.or_false]
 rw [show decide ((l[i]).place = 2 * ((rv b 30 : Nat) : Int)) = true from decide_eq_true h, Bool.or_true, if_pos rfl]
set_option maxRecDepth 100000 in
set_option maxHeartbeats 4000000 in
theorem rbuckets_calls (w : World) (v : Value) (c : Cf) (ld : Int) (ws : List Int) (hw : okW ws) (h : Arr w eU 1 v ws) : Calls Try.prog 25 #[spV c ld, v] w (RetN w 1 (leT 1 (bkS c (lkL c ld ws)).length (lkE c ld ws)) (lsO 3 1 eI (bkS c (lkL c ld ws)) 0)) := by
 have hlen := Z.Arr.lenM h
 simp only [maxLen] at hlen
 refine enter1 (A := []) (c := ir25) (rs := rs25) (nt := nt25) 0 eU_ok h [spS c ld, .c (.xv (0, 0, 0))] _ Try.func25 rfl (by kernel_rfl) (by kernel_rfl) rfl (fun E' h0 => by simp [SV.den, SC.den, h0, spS, spV, Cf.sc]) (of_decide_eq_true rfl) ?_
 simp (maxSteps := 2000000) only [ir25, nt25, rs25, ex_nil, ex_skip, ex_ops, ex_draw, ex_seq, ex_cond, ex_blk, ex_loop, ex_exit, ex_ret, ex_mark, ex_kill, ex_pop, ex_onil, ex_op, ex_opg, ↓condS, ↓exitS, ↓gateS, ↓runOp, thenS, stepOut, St.ev, look, setL, mergeL, dropL, memB, atN, pkN, setN, Fm.get, Fm.pk, Fm.set, St.app, St.putT, St.skipT, St.setB, St.kill, St.call, St.setA, St.resS, specS, specO, specC, chain, chainP, inCh, resV, rsvP, resT, slot1, slotL, pureSlots, St.evW, resA1, resAP, resA, gB, specD, specDO, recG, pure1, pureO, SV.cells, SC.one, allOne, fillP, put, take', drop', len', nth, binI, eqCells, SC.bool?, SC.nil?, neg?, evs, evC, popTo, resL, resP, resSV, oneSV, finS, retS, dr_nil, dr_cons, ↓gateD, altC, ↓runD, thenD, recOf, skipR, wrOk, wrFree, wkImp, St.weak, thenW, recW, fimp_mpe, newOk, outOk, St.appN, St.hid, St.only, keepK, useO, idX, idC, tchs, keyss, Rec.tch, keysL, ltAll, enumT, slSrc, slB, slM, SV.int?, segs, keyOf, intsOf, Value.oneCell', ↓imp_ft, ↓imp_tf, ↓imp_tt, ↓imp_ff, ↓imp_fn, ↓imp_tn, ↓imp_fy, ↓imp_ty, ↓reduceIte, Nat.reduceLT, Nat.reduceLeDiff, Nat.reduceAdd, Nat.reduceSub, Nat.reduceMul, Nat.reduceEqDiff, reduceCtorEq, and_self, and_true, true_and, and_false, false_and, not_true_eq_false, not_false_eq_true, List.map_cons, List.map_nil, List.cons_append, List.nil_append, List.append_nil, Option.bind_some, Option.bind_none, Int.reduceToNat, Int.reduceEq, Int.reduceBEq, Int.reduceBNe, Int.reduceLT, Int.reduceLE, Int.reduceNeg, Bool.true_and, Bool.and_true, Bool.false_and, Bool.and_false, Bool.not_true, Bool.not_false, Bool.not_not, Bool.true_beq, Bool.false_beq, Bool.bne_true, Bool.bne_false, Bool.true_bne, Bool.false_bne, Option.map_some, Option.map_none, beq_self_eq_true, bne_self_eq_false, Bool.false_eq_true, Bool.true_eq_false, Nat.zero_add, Nat.add_zero, forall_const, implies_true, true_implies, false_implies, Int.cast_ofNat_Int, Int.natCast_nonneg, Int.ofNat_lt, Int.toNat_natCast, mkC_rs, decide_true, decide_false, List.length_cons, List.length_nil, Prod.mk.injEq, Nat.reduceEqDiff, Option.some.injEq, arrOf_len, arrOf_size, arrOf_at, wr_lit, wr_litu, Int.reduceAdd, Int.reduceSub, Int.reduceMul, Int.reduceGE, Int.reduceGT, endO, Nat.sub_zero, ex_back, spS, Cf.sc, List.cons_append, List.nil_append]
 refine callN 1 (leT 3 (lkL c ld ws).length (lkE c ld ws)) (lsO 128 3 Nd.enc (lkL c ld ws) nd0) (fun E a w' hs => shape_calls w' _ c ld ws hw (arr_at (d := 0) hs 0 rfl)) ?_
 simp (maxSteps := 2000000) only [ex_nil, ex_skip, ex_ops, ex_draw, ex_seq, ex_cond, ex_blk, ex_loop, ex_exit, ex_ret, ex_mark, ex_kill, ex_pop, ex_onil, ex_op, ex_opg, ↓condS, ↓exitS, ↓gateS, ↓runOp, thenS, stepOut, St.ev, look, setL, mergeL, dropL, memB, atN, pkN, setN, Fm.get, Fm.pk, Fm.set, St.app, St.putT, St.skipT, St.setB, St.kill, St.call, St.setA, St.resS, specS, specO, specC, chain, chainP, inCh, resV, rsvP, resT, slot1, slotL, pureSlots, St.evW, resA1, resAP, resA, gB, specD, specDO, recG, pure1, pureO, SV.cells, SC.one, allOne, fillP, put, take', drop', len', nth, binI, eqCells, SC.bool?, SC.nil?, neg?, evs, evC, popTo, resL, resP, resSV, oneSV, finS, retS, dr_nil, dr_cons, ↓gateD, altC, ↓runD, thenD, recOf, skipR, wrOk, wrFree, wkImp, St.weak, thenW, recW, fimp_mpe, newOk, outOk, St.appN, St.hid, St.only, keepK, useO, idX, idC, tchs, keyss, Rec.tch, keysL, ltAll, enumT, slSrc, slB, slM, SV.int?, segs, keyOf, intsOf, Value.oneCell', ↓imp_ft, ↓imp_tf, ↓imp_tt, ↓imp_ff, ↓imp_fn, ↓imp_tn, ↓imp_fy, ↓imp_ty, ↓reduceIte, Nat.reduceLT, Nat.reduceLeDiff, Nat.reduceAdd, Nat.reduceSub, Nat.reduceMul, Nat.reduceEqDiff, reduceCtorEq, and_self, and_true, true_and, and_false, false_and, not_true_eq_false, not_false_eq_true, List.map_cons, List.map_nil, List.cons_append, List.nil_append, List.append_nil, Option.bind_some, Option.bind_none, Int.reduceToNat, Int.reduceEq, Int.reduceBEq, Int.reduceBNe, Int.reduceLT, Int.reduceLE, Int.reduceNeg, Bool.true_and, Bool.and_true, Bool.false_and, Bool.and_false, Bool.not_true, Bool.not_false, Bool.not_not, Bool.true_beq, Bool.false_beq, Bool.bne_true, Bool.bne_false, Bool.true_bne, Bool.false_bne, Option.map_some, Option.map_none, beq_self_eq_true, bne_self_eq_false, Bool.false_eq_true, Bool.true_eq_false, Nat.zero_add, Nat.add_zero, forall_const, implies_true, true_implies, false_implies, Int.cast_ofNat_Int, Int.natCast_nonneg, Int.ofNat_lt, Int.toNat_natCast, mkC_rs, decide_true, decide_false, List.length_cons, List.length_nil, Prod.mk.injEq, Nat.reduceEqDiff, Option.some.injEq, arrOf_len, arrOf_size, arrOf_at, wr_lit, wr_litu, Int.reduceAdd, Int.reduceSub, Int.reduceMul, Int.reduceGE, Int.reduceGT, endO, Nat.sub_zero, ex_back, leT, lsO]
 refine both (fun h1 => ?_) (fun h1 => ?_)
 ·have h1 : lkE c ld ws ≠ 0 := by simpa using h1
  have e2 : bkS c (lkL c ld ws) = [] := by unfold lkL; rw [if_neg h1, bkS]; simp [bkQ]
  rw [e2]
  exact retNE
 have h1 : lkE c ld ws = 0 := by simpa using h1
 obtain ⟨hc, hsz, hok⟩ := lk_ok h1
 have hbk : 1 ≤ c.buckets ∧ c.buckets ≤ 64 ∧ 1 ≤ c.slots ∧ c.slots ≤ 1024 := by simp only [Cf.ok, decide_eq_true_eq] at hc; omega
 have hll := hok.len
 rw [h1]
 generalize lkL c ld ws = l at *
 refine loopI (ι := { b : Nat // 1 ≤ b ∧ (b : Int) ≤ c.buckets }) (fun b => ⟨47, [(2, .c (.ptr (1, 0, 0) 0)), (6, .c (.sl (2, 0, 0) 3 0 l.length none)), (8, .c (.sl (3, 0, 0) 1 0 (bkU l b.1).length none)), (9, iS (b.1 : Nat))], [(1, .one (.bk (c.sc ++ [.v (.int .i64 ld)]) 37)), (2, .one (.ar l.length 3 (ndA l) 128)), (3, .one (.ar (bkU l b.1).length 1 (ats eI (bkU l b.1) 0) 3))], [], [], 4⟩) (fun b => c.buckets.toNat - b.1) ⟨1, Nat.le_refl _, by omega⟩ ?_ ?_
 ·refine le_tr (le_arden (i := 2) (g := ndA l) rfl (fun e _ E => ndA_den l e E)) ?_
  refine le_tr (le_nilown (tmps' := [(2, .c (.ptr (1, 0, 0) 0)), (6, .c (.sl (2, 0, 0) 3 0 l.length none)), (8, .c (.sl (3, 0, 0) 1 0 0 none)), (9, iS 1)]) 1 3 (ats eI [] 0) (by simp [TmpsNil, look, iS]) rfl) ?_
  refine le_ren id rfl rfl (by simp [TmpsLe, look, SV.ren, SC.ren, idσ, SV.okN, SC.okN, iS, bkU_one]) ?_ (by simp [ArrsLe, ArrLeO, atN, look, Fm.get, idσ, arrLe_of]) rfl
  exact own_bk (show 1 < 4 by decide) rfl (by simp [Cf.sc, SC.renL, SC.ren]) (by simp [Cf.sc, SC.okL, SC.okN]) (own_ar (show 2 < 4 by decide) rfl (Nat.le_refl _) (fun e _ => ndA_ren l e _ _) (own_av (show 3 < 4 by decide) rfl (by rw [bkU_one]; exact Nat.le_refl _) (fun e _ => by rw [bkU_one]) trivial))
 rintro ⟨b, hb1, hb⟩
 dsimp only at hb1 hb ⊢
 simp (maxSteps := 2000000) only [ex_nil, ex_skip, ex_ops, ex_draw, ex_seq, ex_cond, ex_blk, ex_loop, ex_exit, ex_ret, ex_mark, ex_kill, ex_pop, ex_onil, ex_op, ex_opg, ↓condS, ↓exitS, ↓gateS, ↓runOp, thenS, stepOut, St.ev, look, setL, mergeL, dropL, memB, atN, pkN, setN, Fm.get, Fm.pk, Fm.set, St.app, St.putT, St.skipT, St.setB, St.kill, St.call, St.setA, St.resS, specS, specO, specC, chain, chainP, inCh, resV, rsvP, resT, slot1, slotL, pureSlots, St.evW, resA1, resAP, resA, gB, specD, specDO, recG, pure1, pureO, SV.cells, SC.one, allOne, fillP, put, take', drop', len', nth, binI, eqCells, SC.bool?, SC.nil?, neg?, evs, evC, popTo, resL, resP, resSV, oneSV, finS, retS, dr_nil, dr_cons, ↓gateD, altC, ↓runD, thenD, recOf, skipR, wrOk, wrFree, wkImp, St.weak, thenW, recW, fimp_mpe, newOk, outOk, St.appN, St.hid, St.only, keepK, useO, idX, idC, tchs, keyss, Rec.tch, keysL, ltAll, enumT, slSrc, slB, slM, SV.int?, segs, keyOf, intsOf, Value.oneCell', ↓imp_ft, ↓imp_tf, ↓imp_tt, ↓imp_ff, ↓imp_fn, ↓imp_tn, ↓imp_fy, ↓imp_ty, ↓reduceIte, Nat.reduceLT, Nat.reduceLeDiff, Nat.reduceAdd, Nat.reduceSub, Nat.reduceMul, Nat.reduceEqDiff, reduceCtorEq, and_self, and_true, true_and, and_false, false_and, not_true_eq_false, not_false_eq_true, List.map_cons, List.map_nil, List.cons_append, List.nil_append, List.append_nil, Option.bind_some, Option.bind_none, Int.reduceToNat, Int.reduceEq, Int.reduceBEq, Int.reduceBNe, Int.reduceLT, Int.reduceLE, Int.reduceNeg, Bool.true_and, Bool.and_true, Bool.false_and, Bool.and_false, Bool.not_true, Bool.not_false, Bool.not_not, Bool.true_beq, Bool.false_beq, Bool.bne_true, Bool.bne_false, Bool.true_bne, Bool.false_bne, Option.map_some, Option.map_none, beq_self_eq_true, bne_self_eq_false, Bool.false_eq_true, Bool.true_eq_false, Nat.zero_add, Nat.add_zero, forall_const, implies_true, true_implies, false_implies, Int.cast_ofNat_Int, Int.natCast_nonneg, Int.ofNat_lt, Int.toNat_natCast, mkC_rs, decide_true, decide_false, List.length_cons, List.length_nil, Prod.mk.injEq, Nat.reduceEqDiff, Option.some.injEq, arrOf_len, arrOf_size, arrOf_at, wr_lit, wr_litu, Int.reduceAdd, Int.reduceSub, Int.reduceMul, Int.reduceGE, Int.reduceGT, endO, Nat.sub_zero, ex_back, iS, Cf.sc, List.cons_append, List.nil_append]
 refine both (fun hlt => ?_) (fun hge => ?_)
 ·have hlt : (b : Int) < c.buckets := of_decide_eq_true hlt
  refine loopI (ι := { i : Nat // i ≤ l.length }) (fun i => ⟨47, [(2, .c (.ptr (1, 0, 0) 0)), (6, .c (.sl (2, 0, 0) 3 0 l.length none)), (8, .c (.sl (3, 0, 0) 1 0 (bkV l b i.1).length none)), (9, iS (b : Nat)), (10, iS (i.1 : Nat))], [(1, .one (.bk (c.sc ++ [.v (.int .i64 ld)]) 37)), (2, .one (.ar l.length 3 (ndA l) 128)), (3, .one (.ar (bkV l b i.1).length 1 (ats eI (bkV l b i.1) 0) 3))], [], [], 4⟩) (fun i => l.length - i.1) ⟨0, by omega⟩ ?_ ?_
  ·refine le_ren id rfl rfl (by simp [TmpsLe, look, SV.ren, SC.ren, idσ, SV.okN, SC.okN, iS, bkV_zero]) ?_ (by simp [ArrsLe, ArrLeO, atN, look, Fm.get, idσ, arrLe_of]) rfl
   exact own_bk (show 1 < 4 by decide) rfl (by simp [Cf.sc, SC.renL, SC.ren]) (by simp [Cf.sc, SC.okL, SC.okN]) (own_ar (show 2 < 4 by decide) rfl (Nat.le_refl _) (fun e _ => ndA_ren l e _ _) (own_av (show 3 < 4 by decide) rfl (by rw [bkV_zero]; exact Nat.le_refl _) (fun e _ => by rw [bkV_zero]) trivial))
  rintro ⟨i, hi⟩
  dsimp only at hi ⊢
  simp (maxSteps := 2000000) only [ex_nil, ex_skip, ex_ops, ex_draw, ex_seq, ex_cond, ex_blk, ex_loop, ex_exit, ex_ret, ex_mark, ex_kill, ex_pop, ex_onil, ex_op, ex_opg, ↓condS, ↓exitS, ↓gateS, ↓runOp, thenS, stepOut, St.ev, look, setL, mergeL, dropL, memB, atN, pkN, setN, Fm.get, Fm.pk, Fm.set, St.app, St.putT, St.skipT, St.setB, St.kill, St.call, St.setA, St.resS, specS, specO, specC, chain, chainP, inCh, resV, rsvP, resT, slot1, slotL, pureSlots, St.evW, resA1, resAP, resA, gB, specD, specDO, recG, pure1, pureO, SV.cells, SC.one, allOne, fillP, put, take', drop', len', nth, binI, eqCells, SC.bool?, SC.nil?, neg?, evs, evC, popTo, resL, resP, resSV, oneSV, finS, retS, dr_nil, dr_cons, ↓gateD, altC, ↓runD, thenD, recOf, skipR, wrOk, wrFree, wkImp, St.weak, thenW, recW, fimp_mpe, newOk, outOk, St.appN, St.hid, St.only, keepK, useO, idX, idC, tchs, keyss, Rec.tch, keysL, ltAll, enumT, slSrc, slB, slM, SV.int?, segs, keyOf, intsOf, Value.oneCell', ↓imp_ft, ↓imp_tf, ↓imp_tt, ↓imp_ff, ↓imp_fn, ↓imp_tn, ↓imp_fy, ↓imp_ty, ↓reduceIte, Nat.reduceLT, Nat.reduceLeDiff, Nat.reduceAdd, Nat.reduceSub, Nat.reduceMul, Nat.reduceEqDiff, reduceCtorEq, and_self, and_true, true_and, and_false, false_and, not_true_eq_false, not_false_eq_true, List.map_cons, List.map_nil, List.cons_append, List.nil_append, List.append_nil, Option.bind_some, Option.bind_none, Int.reduceToNat, Int.reduceEq, Int.reduceBEq, Int.reduceBNe, Int.reduceLT, Int.reduceLE, Int.reduceNeg, Bool.true_and, Bool.and_true, Bool.false_and, Bool.and_false, Bool.not_true, Bool.not_false, Bool.not_not, Bool.true_beq, Bool.false_beq, Bool.bne_true, Bool.bne_false, Bool.true_bne, Bool.false_bne, Option.map_some, Option.map_none, beq_self_eq_true, bne_self_eq_false, Bool.false_eq_true, Bool.true_eq_false, Nat.zero_add, Nat.add_zero, forall_const, implies_true, true_implies, false_implies, Int.cast_ofNat_Int, Int.natCast_nonneg, Int.ofNat_lt, Int.toNat_natCast, mkC_rs, decide_true, decide_false, List.length_cons, List.length_nil, Prod.mk.injEq, Nat.reduceEqDiff, Option.some.injEq, arrOf_len, arrOf_size, arrOf_at, wr_lit, wr_litu, Int.reduceAdd, Int.reduceSub, Int.reduceMul, Int.reduceGE, Int.reduceGT, endO, Nat.sub_zero, ex_back, iS, Cf.sc, List.cons_append, List.nil_append, ndA]
  have hvl := bkV_len l b i
  refine both (fun hlt2 => ?_) (fun hge2 => ?_)
  ·have hlt2 : i < l.length := by have := of_decide_eq_true hlt2; omega
   have hno := bkV_no (b := b) hlt2
   have hye := bkV_yes hok (b := b) hlt2
   refine draw_vc (by kernel_rfl) (mkTab_ok _ _) (of_decide_eq_true rfl) (of_decide_eq_true rfl) ?_
   repeat (rw [dr_cons]; try simp (maxSteps := 2000000) only [ex_nil, ex_skip, ex_ops, ex_draw, ex_seq, ex_cond, ex_blk, ex_loop, ex_exit, ex_ret, ex_mark, ex_kill, ex_pop, ex_onil, ex_op, ex_opg, ↓condS, ↓exitS, ↓gateS, ↓runOp, thenS, stepOut, St.ev, look, setL, mergeL, dropL, memB, atN, pkN, setN, Fm.get, Fm.pk, Fm.set, St.app, St.putT, St.skipT, St.setB, St.kill, St.call, St.setA, St.resS, specS, specO, specC, chain, chainP, inCh, resV, rsvP, resT, slot1, slotL, pureSlots, St.evW, resA1, resAP, resA, gB, specD, specDO, recG, pure1, pureO, SV.cells, SC.one, allOne, fillP, put, take', drop', len', nth, binI, eqCells, SC.bool?, SC.nil?, neg?, evs, evC, popTo, resL, resP, resSV, oneSV, finS, retS, dr_nil, ↓gateD, altC, ↓runD, thenD, recOf, skipR, wrOk, wrFree, wkImp, St.weak, thenW, recW, fimp_mpe, newOk, outOk, St.appN, St.hid, St.only, keepK, useO, idX, idC, tchs, keyss, Rec.tch, keysL, ltAll, enumT, slSrc, slB, slM, SV.int?, segs, keyOf, intsOf, Value.oneCell', ↓imp_ft, ↓imp_tf, ↓imp_tt, ↓imp_ff, ↓imp_fn, ↓imp_tn, ↓imp_fy, ↓imp_ty, ↓reduceIte, Nat.reduceLT, Nat.reduceLeDiff, Nat.reduceAdd, Nat.reduceSub, Nat.reduceMul, Nat.reduceEqDiff, reduceCtorEq, and_self, and_true, true_and, and_false, false_and, not_true_eq_false, not_false_eq_true, List.map_cons, List.map_nil, List.cons_append, List.nil_append, List.append_nil, Option.bind_some, Option.bind_none, Int.reduceToNat, Int.reduceEq, Int.reduceBEq, Int.reduceBNe, Int.reduceLT, Int.reduceLE, Int.reduceNeg, Bool.true_and, Bool.and_true, Bool.false_and, Bool.and_false, Bool.not_true, Bool.not_false, Bool.not_not, Bool.true_beq, Bool.false_beq, Bool.bne_true, Bool.bne_false, Bool.true_bne, Bool.false_bne, Option.map_some, Option.map_none, beq_self_eq_true, bne_self_eq_false, Bool.false_eq_true, Bool.true_eq_false, Nat.zero_add, Nat.add_zero, forall_const, implies_true, true_implies, false_implies, Int.cast_ofNat_Int, Int.natCast_nonneg, Int.ofNat_lt, Int.toNat_natCast, mkC_rs, decide_true, decide_false, List.length_cons, List.length_nil, Prod.mk.injEq, Nat.reduceEqDiff, Option.some.injEq, arrOf_len, arrOf_size, arrOf_at, wr_lit, wr_litu, Int.reduceAdd, Int.reduceSub, Int.reduceMul, Int.reduceGE, Int.reduceGT, endO, Nat.sub_zero, ex_back, ndA])
   try simp (maxSteps := 2000000) only [ex_nil, ex_skip, ex_ops, ex_draw, ex_seq, ex_cond, ex_blk, ex_loop, ex_exit, ex_ret, ex_mark, ex_kill, ex_pop, ex_onil, ex_op, ex_opg, ↓condS, ↓exitS, ↓gateS, ↓runOp, thenS, stepOut, St.ev, look, setL, mergeL, dropL, memB, atN, pkN, setN, Fm.get, Fm.pk, Fm.set, St.app, St.putT, St.skipT, St.setB, St.kill, St.call, St.setA, St.resS, specS, specO, specC, chain, chainP, inCh, resV, rsvP, resT, slot1, slotL, pureSlots, St.evW, resA1, resAP, resA, gB, specD, specDO, recG, pure1, pureO, SV.cells, SC.one, allOne, fillP, put, take', drop', len', nth, binI, eqCells, SC.bool?, SC.nil?, neg?, evs, evC, popTo, resL, resP, resSV, oneSV, finS, retS, dr_nil, ↓gateD, altC, ↓runD, thenD, recOf, skipR, wrOk, wrFree, wkImp, St.weak, thenW, recW, fimp_mpe, newOk, outOk, St.appN, St.hid, St.only, keepK, useO, idX, idC, tchs, keyss, Rec.tch, keysL, ltAll, enumT, slSrc, slB, slM, SV.int?, segs, keyOf, intsOf, Value.oneCell', ↓imp_ft, ↓imp_tf, ↓imp_tt, ↓imp_ff, ↓imp_fn, ↓imp_tn, ↓imp_fy, ↓imp_ty, ↓reduceIte, Nat.reduceLT, Nat.reduceLeDiff, Nat.reduceAdd, Nat.reduceSub, Nat.reduceMul, Nat.reduceEqDiff, reduceCtorEq, and_self, and_true, true_and, and_false, false_and, not_true_eq_false, not_false_eq_true, List.map_cons, List.map_nil, List.cons_append, List.nil_append, List.append_nil, Option.bind_some, Option.bind_none, Int.reduceToNat, Int.reduceEq, Int.reduceBEq, Int.reduceBNe, Int.reduceLT, Int.reduceLE, Int.reduceNeg, Bool.true_and, Bool.and_true, Bool.false_and, Bool.and_false, Bool.not_true, Bool.not_false, Bool.not_not, Bool.true_beq, Bool.false_beq, Bool.bne_true, Bool.bne_false, Bool.true_bne, Bool.false_bne, Option.map_some, Option.map_none, beq_self_eq_true, bne_self_eq_false, Bool.false_eq_true, Bool.true_eq_false, Nat.zero_add, Nat.add_zero, forall_const, implies_true, true_implies, false_implies, Int.cast_ofNat_Int, Int.natCast_nonneg, Int.ofNat_lt, Int.toNat_natCast, mkC_rs, decide_true, decide_false, List.length_cons, List.length_nil, Prod.mk.injEq, Nat.reduceEqDiff, Option.some.injEq, arrOf_len, arrOf_size, arrOf_at, wr_lit, wr_litu, Int.reduceAdd, Int.reduceSub, Int.reduceMul, Int.reduceGE, Int.reduceGT, endO, Nat.sub_zero, ex_back, ndA]
   generalize hn : l.getD i nd0 = n at *
   refine ⟨⟨hlt2, Nat.le_refl _⟩, hlt2, ?_⟩
   refine dcallV (iS (rv b 30 : Nat)) _ (fun E => rfl) (fun E a w' _ => rround_calls w' b (by omega)) ?_
   have hr := rv30 b
   try simp (maxSteps := 2000000) only [ex_nil, ex_skip, ex_ops, ex_draw, ex_seq, ex_cond, ex_blk, ex_loop, ex_exit, ex_ret, ex_mark, ex_kill, ex_pop, ex_onil, ex_op, ex_opg, ↓condS, ↓exitS, ↓gateS, ↓runOp, thenS, stepOut, St.ev, look, setL, mergeL, dropL, memB, atN, pkN, setN, Fm.get, Fm.pk, Fm.set, St.app, St.putT, St.skipT, St.setB, St.kill, St.call, St.setA, St.resS, specS, specO, specC, chain, chainP, inCh, resV, rsvP, resT, slot1, slotL, pureSlots, St.evW, resA1, resAP, resA, gB, specD, specDO, recG, pure1, pureO, SV.cells, SC.one, allOne, fillP, put, take', drop', len', nth, binI, eqCells, SC.bool?, SC.nil?, neg?, evs, evC, popTo, resL, resP, resSV, oneSV, finS, retS, dr_nil, ↓gateD, altC, ↓runD, thenD, recOf, skipR, wrOk, wrFree, wkImp, St.weak, thenW, recW, fimp_mpe, newOk, outOk, St.appN, St.hid, St.only, keepK, useO, idX, idC, tchs, keyss, Rec.tch, keysL, ltAll, enumT, slSrc, slB, slM, SV.int?, segs, keyOf, intsOf, Value.oneCell', ↓imp_ft, ↓imp_tf, ↓imp_tt, ↓imp_ff, ↓imp_fn, ↓imp_tn, ↓imp_fy, ↓imp_ty, ↓reduceIte, Nat.reduceLT, Nat.reduceLeDiff, Nat.reduceAdd, Nat.reduceSub, Nat.reduceMul, Nat.reduceEqDiff, reduceCtorEq, and_self, and_true, true_and, and_false, false_and, not_true_eq_false, not_false_eq_true, List.map_cons, List.map_nil, List.cons_append, List.nil_append, List.append_nil, Option.bind_some, Option.bind_none, Int.reduceToNat, Int.reduceEq, Int.reduceBEq, Int.reduceBNe, Int.reduceLT, Int.reduceLE, Int.reduceNeg, Bool.true_and, Bool.and_true, Bool.false_and, Bool.and_false, Bool.not_true, Bool.not_false, Bool.not_not, Bool.true_beq, Bool.false_beq, Bool.bne_true, Bool.bne_false, Bool.true_bne, Bool.false_bne, Option.map_some, Option.map_none, beq_self_eq_true, bne_self_eq_false, Bool.false_eq_true, Bool.true_eq_false, Nat.zero_add, Nat.add_zero, forall_const, implies_true, true_implies, false_implies, Int.cast_ofNat_Int, Int.natCast_nonneg, Int.ofNat_lt, Int.toNat_natCast, mkC_rs, decide_true, decide_false, List.length_cons, List.length_nil, Prod.mk.injEq, Nat.reduceEqDiff, Option.some.injEq, arrOf_len, arrOf_size, arrOf_at, wr_lit, wr_litu, Int.reduceAdd, Int.reduceSub, Int.reduceMul, Int.reduceGE, Int.reduceGT, endO, Nat.sub_zero, ex_back, iS, ndA]
   repeat (rw [dr_cons]; try simp (maxSteps := 2000000) only [ex_nil, ex_skip, ex_ops, ex_draw, ex_seq, ex_cond, ex_blk, ex_loop, ex_exit, ex_ret, ex_mark, ex_kill, ex_pop, ex_onil, ex_op, ex_opg, ↓condS, ↓exitS, ↓gateS, ↓runOp, thenS, stepOut, St.ev, look, setL, mergeL, dropL, memB, atN, pkN, setN, Fm.get, Fm.pk, Fm.set, St.app, St.putT, St.skipT, St.setB, St.kill, St.call, St.setA, St.resS, specS, specO, specC, chain, chainP, inCh, resV, rsvP, resT, slot1, slotL, pureSlots, St.evW, resA1, resAP, resA, gB, specD, specDO, recG, pure1, pureO, SV.cells, SC.one, allOne, fillP, put, take', drop', len', nth, binI, eqCells, SC.bool?, SC.nil?, neg?, evs, evC, popTo, resL, resP, resSV, oneSV, finS, retS, dr_nil, ↓gateD, altC, ↓runD, thenD, recOf, skipR, wrOk, wrFree, wkImp, St.weak, thenW, recW, fimp_mpe, newOk, outOk, St.appN, St.hid, St.only, keepK, useO, idX, idC, tchs, keyss, Rec.tch, keysL, ltAll, enumT, slSrc, slB, slM, SV.int?, segs, keyOf, intsOf, Value.oneCell', ↓imp_ft, ↓imp_tf, ↓imp_tt, ↓imp_ff, ↓imp_fn, ↓imp_tn, ↓imp_fy, ↓imp_ty, ↓reduceIte, Nat.reduceLT, Nat.reduceLeDiff, Nat.reduceAdd, Nat.reduceSub, Nat.reduceMul, Nat.reduceEqDiff, reduceCtorEq, and_self, and_true, true_and, and_false, false_and, not_true_eq_false, not_false_eq_true, List.map_cons, List.map_nil, List.cons_append, List.nil_append, List.append_nil, Option.bind_some, Option.bind_none, Int.reduceToNat, Int.reduceEq, Int.reduceBEq, Int.reduceBNe, Int.reduceLT, Int.reduceLE, Int.reduceNeg, Bool.true_and, Bool.and_true, Bool.false_and, Bool.and_false, Bool.not_true, Bool.not_false, Bool.not_not, Bool.true_beq, Bool.false_beq, Bool.bne_true, Bool.bne_false, Bool.true_bne, Bool.false_bne, Option.map_some, Option.map_none, beq_self_eq_true, bne_self_eq_false, Bool.false_eq_true, Bool.true_eq_false, Nat.zero_add, Nat.add_zero, forall_const, implies_true, true_implies, false_implies, Int.cast_ofNat_Int, Int.natCast_nonneg, Int.ofNat_lt, Int.toNat_natCast, mkC_rs, decide_true, decide_false, List.length_cons, List.length_nil, Prod.mk.injEq, Nat.reduceEqDiff, Option.some.injEq, arrOf_len, arrOf_size, arrOf_at, wr_lit, wr_litu, Int.reduceAdd, Int.reduceSub, Int.reduceMul, Int.reduceGE, Int.reduceGT, endO, Nat.sub_zero, ex_back, iS, ndA])
   rw [wrI (by omega), wr_succ (by omega)]
   refine both (fun hp => ?_) (fun hp => ?_)
   ·have hp : n.place = 2 * (rv b 30 : Nat) := by simpa using hp
    obtain ⟨_, hy⟩ := hye hp
    have hyl : (bkV l b (i + 1)).length = (bkV l b i).length + 1 := by rw [hy, List.length_append]; rfl
    refine ⟨by decide, ⟨Nat.le_refl _, fit_sm2 8 (by omega), by simp only [maxLen]; omega⟩, ?_⟩
    refine backI ⟨i + 1, by omega⟩ (by simp only; omega) ?_
    refine le_ren (fun i => if i = 3 then 5 else i) rfl rfl (by simp [TmpsLe, look, SV.ren, SC.ren, idσ, SV.okN, SC.okN, iS, hyl]) ?_ (by simp [ArrsLe, ArrLeO, atN, look, Fm.get, idσ, arrLe_of]) rfl
    exact own_bk (show 1 < 4 by decide) rfl (by simp [Cf.sc, SC.renL, SC.ren]) (by simp [Cf.sc, SC.okL, SC.okN]) (own_ar (show 2 < 4 by decide) rfl (Nat.le_refl _) (fun e _ => ndA_ren l e _ _) (own_av (show 3 < 4 by decide) rfl (Nat.le_of_eq hyl) (fun e he => ats_push hy rfl (fun _ _ => rfl) (by simp [take', drop', eI]) e he) trivial))
   ·have hp : n.place ≠ 2 * (rv b 30 : Nat) := by simpa using hp
    have hy := hno hp
    refine backI ⟨i + 1, by omega⟩ (by simp only; omega) ?_
    refine le_ren id rfl rfl (by simp [TmpsLe, look, SV.ren, SC.ren, idσ, SV.okN, SC.okN, iS, hy]) ?_ (by simp [ArrsLe, ArrLeO, atN, look, Fm.get, idσ, arrLe_of]) rfl
    exact own_bk (show 1 < 4 by decide) rfl (by simp [Cf.sc, SC.renL, SC.ren]) (by simp [Cf.sc, SC.okL, SC.okN]) (own_ar (show 2 < 4 by decide) rfl (Nat.le_refl _) (fun e _ => ndA_ren l e _ _) (own_av (show 3 < 4 by decide) rfl (by rw [hy]; exact Nat.le_refl _) (fun e _ => by rw [hy]) trivial))
  ·have hge2 : i = l.length := by have := of_decide_eq_false hge2; omega
   subst hge2
   rw [wr_succ (by omega)]
   have hve := bkV_end l hb1
   refine backI ⟨b + 1, by omega, by omega⟩ (by simp only; omega) ?_
   refine le_ren id rfl rfl (by simp [TmpsLe, look, SV.ren, SC.ren, idσ, SV.okN, SC.okN, iS, hve]) ?_ (by simp [ArrsLe, ArrLeO, atN, look, Fm.get, idσ, arrLe_of]) rfl
   exact own_bk (show 1 < 4 by decide) rfl (by simp [Cf.sc, SC.renL, SC.ren]) (by simp [Cf.sc, SC.okL, SC.okN]) (own_ar (show 2 < 4 by decide) rfl (Nat.le_refl _) (fun e _ => ndA_ren l e _ _) (own_av (show 3 < 4 by decide) rfl (by rw [hve]; exact Nat.le_refl _) (fun e _ => by rw [hve]) trivial))
 ·have hge : c.buckets.toNat = b := by have := of_decide_eq_false hge; omega
  have e : bkS c l = bkU l b := by unfold bkS; rw [hge]; rfl
  rw [e]
  exact retLE 3 _ _ rfl rfl (Nat.le_refl _) fun e he => rfl
end Go.Proofs.Ytpjdcbofngcdbaa.Z
namespace Go.Proofs.Ytpjdcbofngcdbaa.Z
open Go Go.RowKit
def ir69 : IR := (.seq (.ops [⟨(some 6), (.mv (.k (.c (.v (.int .u64 0))))), none⟩]) (.kill [4, 5, 6, 7, 8, 9, 10, 11] (.seq (.ops [⟨(some 10), (.ld true 7 (.t 2)), none⟩, ⟨(some 11), (.mv (.t 0)), none⟩, ⟨(some 12), (.mv (.t 1)), none⟩, ⟨(some 13), (.build [(.v (.int .i64 0)), (.v (.int .i64 0)), (.v (.int .i64 0))] [(0, (1, (.t 11))), (1, (1, (.t 12)))]), none⟩, ⟨(some 14), (.call 53 [(.t 10), (.t 13)]), none⟩, ⟨(some 9), (.mv (.t 14)), none⟩, ⟨(some 15), (.ext 0 (.t 9)), none⟩, ⟨(some 16), (.ext 1 (.t 9)), none⟩, ⟨(some 7), (.mv (.t 15)), none⟩, ⟨(some 8), (.mv (.t 16)), none⟩]) (.kill [0, 1, 2, 8, 9, 10, 11, 12, 13, 14, 15, 16] (.seq (.ops [⟨(some 17), (.ld false 1 (.t 3)), none⟩, ⟨(some 18), (.mv (.t 7)), none⟩, ⟨(some 19), (.ia 1 (.t 17) (.t 18)), none⟩, ⟨(some 20), (.ld false 1 (.t 19)), none⟩, ⟨(some 6), (.mv (.t 20)), none⟩]) (.kill [3, 7, 17, 18, 19, 20] .ret))))))
def rs69 : List RS := [(.t 6)]
def nt69 : Nat := 21
def Cf.vs (c : Cf) : Array Value := #[.int .i64 c.threads, .int .i64 c.records, .int .i64 c.hazards, .int .i64 c.retire, .int .i64 c.cache, .int .i64 c.slots, .int .i64 c.buckets]
def EL (v : Value) (p q : Nat) : Env := ⟨fun _ => 0, fun _ => 0, fun _ => false, fun x => if x.1 = 1 then .slice (some ⟨p, 0, none⟩) 1 1 else if x.1 = 2 then .slice (some ⟨q, 0, none⟩) 1 1 else v⟩
theorem arr_cells {w : World} {E : Env} {x : Nm} {p n ty : Nat} {cs : List SC} {vs : Array Value} (hχ : E.χ x = .slice (some ⟨p, 0, none⟩) 1 1) (hp : w.heap[p]? = some (.cells vs ty (0, 0))) (hn : cs.length = n) (hv : cs.map (SC.den E) = vs.toList) (h1 : ∀ u ∈ vs.toList, u.oneCell' = true) : ArrAt E w x ⟨1, n, fun _ => cs, 0⟩ := by
 refine ⟨_, 1, hχ, Nat.le_refl _, by simp [maxLen], Or.inr ⟨p, 0, rfl, Nat.zero_le _, fun k hk => ⟨hn, fun j u hu => ?_⟩⟩⟩
 have hk0 : k = 0 := by simp only at hk; omega
 subst hk0
 have hvj : vs[j]? = some (SC.den E u) := by
  rw [← Array.getElem?_toList, ← hv, List.getElem?_map, show cs[j]? = some u from hu]; rfl
 refine ⟨?_, h1 _ ?_⟩
 ·unfold World.cell?
  simp [hp, hvj]
 ·rw [Array.mem_toList_iff]
  exact Array.mem_of_getElem? hvj
set_option maxHeartbeats 4000000 in
theorem look1_calls (w : World) (p q : Nat) (c : Cf) (v : Value) (ws : List Int) (r : Int) (i A : Int) (ty1 ty2 : Nat) (hp : w.heap[p]? = some (.cells c.vs ty1 (0, 0))) (hq : w.heap[q]? = some (.cells #[v] ty2 (0, 0))) (h : Arr w eU 1 v ws)
  (hA : ∀ w', Calls Try.prog 53 #[c.enc, .agg #[.int .i64 r, .int .i64 i, .int .i64 0]] w' (RetV w' (.tuple #[.int .i64 A, .int .i64 0]))) (h0 : 0 ≤ A ∧ A < ws.length) :
  Calls Try.prog 69 #[.int .i64 r, .int .i64 i, .pointer (some ⟨p, 0, none⟩), .pointer (some ⟨q, 0, none⟩)] w (RetV w (.int .u64 (ws.getD A.toNat 0))) := by
 have hlen := Z.Arr.lenM h
 simp only [maxLen] at hlen
 have hone : OneC (EL v p q) := fun x => by
  simp only [EL]
  split
  ·rfl
  ·split
   ·rfl
   ·exact arr_one h
 have hk : ∀ E' : Env, AgreeD (· < 3) (EL v p q) E' → E'.χ (0, 0, 0) = v ∧ E'.χ (1, 0, 0) = .slice (some ⟨p, 0, none⟩) 1 1 ∧ E'.χ (2, 0, 0) = .slice (some ⟨q, 0, none⟩) 1 1 := fun E' hE' => by
  refine ⟨?_, ?_, ?_⟩
  ·have := (hE' (0, 0, 0) (show 0 < 3 by decide)).2.2.2; simpa [EL] using this
  ·have := (hE' (1, 0, 0) (show 1 < 3 by decide)).2.2.2; simpa [EL] using this
  ·have := (hE' (2, 0, 0) (show 2 < 3 by decide)).2.2.2; simpa [EL] using this
 refine calls_sym (c := ir69) (C := mkC Try.prog [] w rs69 (RetV w (.int .u64 (ws.getD A.toNat 0)))) 1000 [iS r, iS i, .c (.ep (1, 0, 0) 7 0 0), .c (.ep (2, 0, 0) 1 0 0)] (EL v p q) [] [(0, .one (arrOf eU 1 ws 0)), (1, .one ⟨1, 7, fun _ => c.sc, 0⟩), (2, .one ⟨1, 1, fun _ => [.xv (0, 0, 0)], 0⟩)] [] 3 nt69 _ (mkTab_ok _ _) Try.func69 rfl (by kernel_rfl) (by kernel_rfl) rfl rfl rfl hone (fun E' hE' => ?_) (of_decide_eq_true rfl) (fun E' hE' => inOk_arrs fun w' hw' x A' hA' => ?_) ?_
 ·obtain ⟨k0, k1, k2⟩ := hk E' hE'
  simp [SV.den, SC.den, iS, k1, k2]
 ·obtain ⟨k0, k1, k2⟩ := hk E' hE'
  rcases atN_one hA' with ⟨rfl, rfl⟩ | hA'
  ·exact arr1 eU_ok k0 h hw'
  rcases atN_one hA' with ⟨rfl, rfl⟩ | hA'
  ·refine arr_cells k1 (vs := c.vs) (ty := ty1) ?_ rfl ?_ ?_
   ·rw [hw' p (Array.getElem?_eq_some_iff.1 hp).1]; exact hp
   ·simp [Cf.sc, Cf.vs, SC.den]
   ·simp [Cf.vs, Value.oneCell']
  rcases atN_one hA' with ⟨rfl, rfl⟩ | hA'
  ·refine arr_cells k2 (vs := #[v]) (ty := ty2) ?_ rfl ?_ ?_
   ·rw [hw' q (Array.getElem?_eq_some_iff.1 hq).1]; exact hq
   ·simp [SC.den, k0]
   ·simp [arr_one h]
  exact (atN_nil hA').elim
 simp (maxSteps := 2000000) only [ir69, nt69, rs69, ex_nil, ex_skip, ex_ops, ex_draw, ex_seq, ex_cond, ex_blk, ex_loop, ex_exit, ex_ret, ex_mark, ex_kill, ex_pop, ex_onil, ex_op, ex_opg, ↓condS, ↓exitS, ↓gateS, ↓runOp, thenS, stepOut, St.ev, look, setL, mergeL, dropL, memB, atN, pkN, setN, Fm.get, Fm.pk, Fm.set, St.app, St.putT, St.skipT, St.setB, St.kill, St.call, St.setA, St.resS, specS, specO, specC, chain, chainP, inCh, resV, rsvP, resT, slot1, slotL, pureSlots, St.evW, resA1, resAP, resA, gB, specD, specDO, recG, pure1, pureO, SV.cells, SC.one, allOne, fillP, put, take', drop', len', nth, binI, eqCells, SC.bool?, SC.nil?, neg?, evs, evC, popTo, resL, resP, resSV, oneSV, finS, retS, dr_nil, dr_cons, ↓gateD, altC, ↓runD, thenD, recOf, skipR, wrOk, wrFree, wkImp, St.weak, thenW, recW, fimp_mpe, newOk, outOk, St.appN, St.hid, St.only, keepK, useO, idX, idC, tchs, keyss, Rec.tch, keysL, ltAll, enumT, slSrc, slB, slM, SV.int?, segs, keyOf, intsOf, Value.oneCell', ↓imp_ft, ↓imp_tf, ↓imp_tt, ↓imp_ff, ↓imp_fn, ↓imp_tn, ↓imp_fy, ↓imp_ty, ↓reduceIte, Nat.reduceLT, Nat.reduceLeDiff, Nat.reduceAdd, Nat.reduceSub, Nat.reduceMul, Nat.reduceEqDiff, reduceCtorEq, and_self, and_true, true_and, and_false, false_and, not_true_eq_false, not_false_eq_true, List.map_cons, List.map_nil, List.cons_append, List.nil_append, List.append_nil, Option.bind_some, Option.bind_none, Int.reduceToNat, Int.reduceEq, Int.reduceBEq, Int.reduceBNe, Int.reduceLT, Int.reduceLE, Int.reduceNeg, Bool.true_and, Bool.and_true, Bool.false_and, Bool.and_false, Bool.not_true, Bool.not_false, Bool.not_not, Bool.true_beq, Bool.false_beq, Bool.bne_true, Bool.bne_false, Bool.true_bne, Bool.false_bne, Option.map_some, Option.map_none, beq_self_eq_true, bne_self_eq_false, Bool.false_eq_true, Bool.true_eq_false, Nat.zero_add, Nat.add_zero, forall_const, implies_true, true_implies, false_implies, Int.cast_ofNat_Int, Int.natCast_nonneg, Int.ofNat_lt, Int.toNat_natCast, mkC_rs, decide_true, decide_false, List.length_cons, List.length_nil, Prod.mk.injEq, Nat.reduceEqDiff, Option.some.injEq, arrOf_len, arrOf_size, arrOf_at, wr_lit, wr_litu, Int.reduceAdd, Int.reduceSub, Int.reduceMul, Int.reduceGE, Int.reduceGT, endO, Nat.sub_zero, ex_back, iS, Cf.sc]
 refine callV (.tup [(false, [.v (.int .i64 A)]), (false, [.v (.int .i64 0)])]) _ (fun E => rfl) (fun E a w' _ => hA w') ?_
 simp (maxSteps := 2000000) only [ex_nil, ex_skip, ex_ops, ex_draw, ex_seq, ex_cond, ex_blk, ex_loop, ex_exit, ex_ret, ex_mark, ex_kill, ex_pop, ex_onil, ex_op, ex_opg, ↓condS, ↓exitS, ↓gateS, ↓runOp, thenS, stepOut, St.ev, look, setL, mergeL, dropL, memB, atN, pkN, setN, Fm.get, Fm.pk, Fm.set, St.app, St.putT, St.skipT, St.setB, St.kill, St.call, St.setA, St.resS, specS, specO, specC, chain, chainP, inCh, resV, rsvP, resT, slot1, slotL, pureSlots, St.evW, resA1, resAP, resA, gB, specD, specDO, recG, pure1, pureO, SV.cells, SC.one, allOne, fillP, put, take', drop', len', nth, binI, eqCells, SC.bool?, SC.nil?, neg?, evs, evC, popTo, resL, resP, resSV, oneSV, finS, retS, dr_nil, dr_cons, ↓gateD, altC, ↓runD, thenD, recOf, skipR, wrOk, wrFree, wkImp, St.weak, thenW, recW, fimp_mpe, newOk, outOk, St.appN, St.hid, St.only, keepK, useO, idX, idC, tchs, keyss, Rec.tch, keysL, ltAll, enumT, slSrc, slB, slM, SV.int?, segs, keyOf, intsOf, Value.oneCell', ↓imp_ft, ↓imp_tf, ↓imp_tt, ↓imp_ff, ↓imp_fn, ↓imp_tn, ↓imp_fy, ↓imp_ty, ↓reduceIte, Nat.reduceLT, Nat.reduceLeDiff, Nat.reduceAdd, Nat.reduceSub, Nat.reduceMul, Nat.reduceEqDiff, reduceCtorEq, and_self, and_true, true_and, and_false, false_and, not_true_eq_false, not_false_eq_true, List.map_cons, List.map_nil, List.cons_append, List.nil_append, List.append_nil, Option.bind_some, Option.bind_none, Int.reduceToNat, Int.reduceEq, Int.reduceBEq, Int.reduceBNe, Int.reduceLT, Int.reduceLE, Int.reduceNeg, Bool.true_and, Bool.and_true, Bool.false_and, Bool.and_false, Bool.not_true, Bool.not_false, Bool.not_not, Bool.true_beq, Bool.false_beq, Bool.bne_true, Bool.bne_false, Bool.true_bne, Bool.false_bne, Option.map_some, Option.map_none, beq_self_eq_true, bne_self_eq_false, Bool.false_eq_true, Bool.true_eq_false, Nat.zero_add, Nat.add_zero, forall_const, implies_true, true_implies, false_implies, Int.cast_ofNat_Int, Int.natCast_nonneg, Int.ofNat_lt, Int.toNat_natCast, mkC_rs, decide_true, decide_false, List.length_cons, List.length_nil, Prod.mk.injEq, Nat.reduceEqDiff, Option.some.injEq, arrOf_len, arrOf_size, arrOf_at, wr_lit, wr_litu, Int.reduceAdd, Int.reduceSub, Int.reduceMul, Int.reduceGE, Int.reduceGT, endO, Nat.sub_zero, ex_back, iS, Cf.sc, eU]
 refine And.intro h0 (And.intro (by omega) ?_)
 exact retV fun E => by simp [SV.den, SC.den]
set_option maxHeartbeats 1000000 in
theorem look2_calls (w : World) (x y : Int × Int) (hx : 0 ≤ x.1 ∧ x.1 < 4611686018427387904) (hy : 0 ≤ y.1 ∧ y.1 < 4611686018427387904) : Calls Try.prog 72 #[.agg #[.int .i64 x.1, .int .i64 x.2], .agg #[.int .i64 y.1, .int .i64 y.2]] w fun e w' => e = .returned (.int .i64 (x.1 - y.1)) ∧ Below w.heap.size w w' ∧ w.drawn ≤ w'.drawn := by
 go_enter Try.func72, Try.ntmps72
 go_wp2_with fail
 go_ret
 refine ⟨?_, (below_box _ _).trans ((below_box _ _).mono (by simp)), Nat.le_refl _⟩
 rfl
end Go.Proofs.Ytpjdcbofngcdbaa.Z
namespace Go.Proofs
open Go.Shelf Go.RowKit Go.Lib Go.Sort
def Ytpjdcbofngcdbaa.sortPr_ren : Go.Shelf.Ren := ⟨fun | 6 => 71 | 15 => 82 | 14 => 81 | 28 => 96 | 29 => 97 | 20 => 88 | 21 => 89 | 22 => 90 | 23 => 91 | 24 => 92 | 25 => 93 | 26 => 94 | 27 => 95 | 46 => 107 | 47 => 108 | 48 => 109 | 49 => 110 | 50 => 111 | 57 => 116 | n => n, fun | 22 => 57 | 24 => 131 | 25 => 191 | 3 => 3 | 39 => 132 | 0 => 0 | 53 => 222 | 55 => 56 | 4 => 4 | 46 => 216 | 45 => 215 | 50 => 189 | 5 => 5 | 9 => 9 | 66 => 229 | 70 => 233 | 76 => 237 | 77 => 238 | n => n, fun | n => n⟩
theorem Ytpjdcbofngcdbaa.sortPr : Go.Proofs.SlLaysF0.n6 Try.prog Ytpjdcbofngcdbaa.sortPr_ren where
 mixed := by kernel_rfl
 f6 := ⟨"slices.SortFunc[[]reclaim/api.Pair,reclaim/api.Pair]", by decide, Try.func71.trans (congrArg some (by kernel_rfl))⟩
 f14 := ⟨"slices.pdqsortCmpFunc[reclaim/api.Pair]", by decide, Try.func81.trans (congrArg some (by kernel_rfl))⟩
 f15 := Try.func82.trans (congrArg some (by kernel_rfl))
 f20 := ⟨"slices.insertionSortCmpFunc[reclaim/api.Pair]", by decide, Try.func88.trans (congrArg some (by kernel_rfl))⟩
 f21 := ⟨"slices.heapSortCmpFunc[reclaim/api.Pair]", by decide, Try.func89.trans (congrArg some (by kernel_rfl))⟩
 f22 := ⟨"slices.breakPatternsCmpFunc[reclaim/api.Pair]", by decide, Try.func90.trans (congrArg some (by kernel_rfl))⟩
 f23 := ⟨"slices.choosePivotCmpFunc[reclaim/api.Pair]", by decide, Try.func91.trans (congrArg some (by kernel_rfl))⟩
 f24 := ⟨"slices.reverseRangeCmpFunc[reclaim/api.Pair]", by decide, Try.func92.trans (congrArg some (by kernel_rfl))⟩
 f25 := ⟨"slices.partialInsertionSortCmpFunc[reclaim/api.Pair]", by decide, Try.func93.trans (congrArg some (by kernel_rfl))⟩
 f26 := ⟨"slices.partitionEqualCmpFunc[reclaim/api.Pair]", by decide, Try.func94.trans (congrArg some (by kernel_rfl))⟩
 f27 := ⟨"slices.partitionCmpFunc[reclaim/api.Pair]", by decide, Try.func95.trans (congrArg some (by kernel_rfl))⟩
 f28 := Try.func96.trans (congrArg some (by kernel_rfl))
 f29 := Try.func97.trans (congrArg some (by kernel_rfl))
 f46 := ⟨"slices.siftDownCmpFunc[reclaim/api.Pair]", by decide, Try.func107.trans (congrArg some (by kernel_rfl))⟩
 f47 := Try.func108.trans (congrArg some (by kernel_rfl))
 f48 := Try.func109.trans (congrArg some (by kernel_rfl))
 f49 := ⟨"slices.medianAdjacentCmpFunc[reclaim/api.Pair]", by decide, Try.func110.trans (congrArg some (by kernel_rfl))⟩
 f50 := ⟨"slices.medianCmpFunc[reclaim/api.Pair]", by decide, Try.func111.trans (congrArg some (by kernel_rfl))⟩
 f57 := ⟨"slices.order2CmpFunc[reclaim/api.Pair]", by decide, Try.func116.trans (congrArg some (by kernel_rfl))⟩
 t0 := Try.underlying0
 a0 := Try.isAgg0
 z0 := Try.sizeOf0
 v0 := Try.zeroValue0
 t3 := Try.underlying3
 a3 := Try.isAgg3
 z3 := Try.sizeOf3
 v3 := Try.zeroValue3
 t4 := Try.underlying4
 a4 := Try.isAgg4
 z4 := Try.sizeOf4
 v4 := Try.zeroValue4
 t5 := Try.underlying5
 a5 := Try.isAgg5
 z5 := Try.sizeOf5
 v5 := Try.zeroValue5
 t9 := Try.underlying9
 a9 := Try.isAgg9
 z9 := Try.sizeOf9
 v9 := Try.zeroValue9
 t22 := Try.underlying57
 a22 := Try.isAgg57
 z22 := Try.sizeOf57
 v22 := Try.zeroValue57
 t25 := Try.underlying191
 a25 := Try.isAgg191
 z25 := Try.sizeOf191
 v25 := Try.zeroValue191
 t39 := Try.underlying132
 a39 := Try.isAgg132
 z39 := Try.sizeOf132
 v39 := Try.zeroValue132
 t45 := Try.underlying215
 a45 := Try.isAgg215
 z45 := Try.sizeOf215
 v45 := Try.zeroValue215
 t46 := Try.underlying216
 a46 := Try.isAgg216
 z46 := Try.sizeOf216
 v46 := Try.zeroValue216
 t50 := Try.underlying189
 a50 := Try.isAgg189
 z50 := Try.sizeOf189
 v50 := Try.zeroValue189
 t53 := Try.underlying222
 a53 := Try.isAgg222
 z53 := Try.sizeOf222
 v53 := Try.zeroValue222
 t55 := Try.underlying56
 a55 := Try.isAgg56
 z55 := Try.sizeOf56
 v55 := Try.zeroValue56
 t66 := Try.underlying229
 a66 := Try.isAgg229
 z66 := Try.sizeOf229
 v66 := Try.zeroValue229
 t70 := Try.underlying233
 a70 := Try.isAgg233
 z70 := Try.sizeOf233
 v70 := Try.zeroValue233
 t76 := Try.underlying237
 a76 := Try.isAgg237
 z76 := Try.sizeOf237
 v76 := Try.zeroValue237
 t77 := Try.underlying238
 a77 := Try.isAgg238
 z77 := Try.sizeOf238
 v77 := Try.zeroValue238
def Ytpjdcbofngcdbaa.sortIn_ren : Go.Shelf.Ren := ⟨fun | 53 => 73 | 64 => 82 | 63 => 83 | 78 => 96 | 79 => 97 | 70 => 98 | 71 => 99 | 72 => 100 | 73 => 101 | 74 => 102 | 75 => 103 | 59 => 104 | 76 => 105 | 77 => 106 | 88 => 112 | 89 => 108 | 90 => 109 | 91 => 113 | 92 => 114 | 68 => 115 | 96 => 117 | n => n, fun | 22 => 25 | 23 => 3 | 3 => 3 | 51 => 132 | 0 => 0 | 67 => 222 | 69 => 56 | 4 => 4 | 61 => 216 | 60 => 215 | 44 => 189 | 5 => 5 | 9 => 9 | 75 => 229 | 79 => 233 | 83 => 237 | 84 => 238 | n => n, fun | n => n⟩
theorem Ytpjdcbofngcdbaa.sortIn : Go.Proofs.SlLaysN.n53 Try.prog Ytpjdcbofngcdbaa.sortIn_ren where
 mixed := by kernel_rfl
 f53 := ⟨"slices.Sort[[]int,int]", by decide, Try.func73.trans (congrArg some (by kernel_rfl))⟩
 f59 := ⟨"cmp.Less[int]", by decide, Try.func104.trans (congrArg some (by kernel_rfl))⟩
 f63 := ⟨"slices.pdqsortOrdered[int]", by decide, Try.func83.trans (congrArg some (by kernel_rfl))⟩
 f64 := Try.func82.trans (congrArg some (by kernel_rfl))
 f68 := ⟨"cmp.isNaN[int]", by decide, Try.func115.trans (congrArg some (by kernel_rfl))⟩
 f70 := ⟨"slices.insertionSortOrdered[int]", by decide, Try.func98.trans (congrArg some (by kernel_rfl))⟩
 f71 := ⟨"slices.heapSortOrdered[int]", by decide, Try.func99.trans (congrArg some (by kernel_rfl))⟩
 f72 := ⟨"slices.breakPatternsOrdered[int]", by decide, Try.func100.trans (congrArg some (by kernel_rfl))⟩
 f73 := ⟨"slices.choosePivotOrdered[int]", by decide, Try.func101.trans (congrArg some (by kernel_rfl))⟩
 f74 := ⟨"slices.reverseRangeOrdered[int]", by decide, Try.func102.trans (congrArg some (by kernel_rfl))⟩
 f75 := ⟨"slices.partialInsertionSortOrdered[int]", by decide, Try.func103.trans (congrArg some (by kernel_rfl))⟩
 f76 := ⟨"slices.partitionEqualOrdered[int]", by decide, Try.func105.trans (congrArg some (by kernel_rfl))⟩
 f77 := ⟨"slices.partitionOrdered[int]", by decide, Try.func106.trans (congrArg some (by kernel_rfl))⟩
 f78 := Try.func96.trans (congrArg some (by kernel_rfl))
 f79 := Try.func97.trans (congrArg some (by kernel_rfl))
 f88 := ⟨"slices.siftDownOrdered[int]", by decide, Try.func112.trans (congrArg some (by kernel_rfl))⟩
 f89 := Try.func108.trans (congrArg some (by kernel_rfl))
 f90 := Try.func109.trans (congrArg some (by kernel_rfl))
 f91 := ⟨"slices.medianAdjacentOrdered[int]", by decide, Try.func113.trans (congrArg some (by kernel_rfl))⟩
 f92 := ⟨"slices.medianOrdered[int]", by decide, Try.func114.trans (congrArg some (by kernel_rfl))⟩
 f96 := ⟨"slices.order2Ordered[int]", by decide, Try.func117.trans (congrArg some (by kernel_rfl))⟩
 t0 := Try.underlying0
 a0 := Try.isAgg0
 z0 := Try.sizeOf0
 v0 := Try.zeroValue0
 t3 := Try.underlying3
 a3 := Try.isAgg3
 z3 := Try.sizeOf3
 v3 := Try.zeroValue3
 t4 := Try.underlying4
 a4 := Try.isAgg4
 z4 := Try.sizeOf4
 v4 := Try.zeroValue4
 t5 := Try.underlying5
 a5 := Try.isAgg5
 z5 := Try.sizeOf5
 v5 := Try.zeroValue5
 t9 := Try.underlying9
 a9 := Try.isAgg9
 z9 := Try.sizeOf9
 v9 := Try.zeroValue9
 t22 := Try.underlying25
 a22 := Try.isAgg25
 z22 := Try.sizeOf25
 v22 := Try.zeroValue25
 t23 := Try.underlying3
 a23 := Try.isAgg3
 z23 := Try.sizeOf3
 v23 := Try.zeroValue3
 t44 := Try.underlying189
 a44 := Try.isAgg189
 z44 := Try.sizeOf189
 v44 := Try.zeroValue189
 t51 := Try.underlying132
 a51 := Try.isAgg132
 z51 := Try.sizeOf132
 v51 := Try.zeroValue132
 t60 := Try.underlying215
 a60 := Try.isAgg215
 z60 := Try.sizeOf215
 v60 := Try.zeroValue215
 t61 := Try.underlying216
 a61 := Try.isAgg216
 z61 := Try.sizeOf216
 v61 := Try.zeroValue216
 t67 := Try.underlying222
 a67 := Try.isAgg222
 z67 := Try.sizeOf222
 v67 := Try.zeroValue222
 t69 := Try.underlying56
 a69 := Try.isAgg56
 z69 := Try.sizeOf56
 v69 := Try.zeroValue56
 t75 := Try.underlying229
 a75 := Try.isAgg229
 z75 := Try.sizeOf229
 v75 := Try.zeroValue229
 t79 := Try.underlying233
 a79 := Try.isAgg233
 z79 := Try.sizeOf233
 v79 := Try.zeroValue233
 t83 := Try.underlying237
 a83 := Try.isAgg237
 z83 := Try.sizeOf237
 v83 := Try.zeroValue237
 t84 := Try.underlying238
 a84 := Try.isAgg238
 z84 := Try.sizeOf238
 v84 := Try.zeroValue238
namespace Ytpjdcbofngcdbaa.Z
open Go Go.RowKit
theorem cr_sortI {C : Ctx} {S : St} {ρ : Go.Shelf.Ren} (L : SlLaysN.n53 C.P ρ) {i ty : Nat} {cap : Option Nat} {ys zs : List Int}
  (hown : look S.own i = some (.one (.ar ys.length 1 (ats eI ys 0) ty))) (hlen : ys.length < 4611686018427387904) (hl : ys.mergeSort (fun x y => decide (x ≤ y)) = zs) :
  CR C (ρ.f 53) [.c (.sl (i, 0, 0) 1 0 ys.length cap)] S [i] (.tup []) 0 [(i, .one (.ar ys.length 1 (ats eI zs 0) ty))] [] := by
 intro E a w hs
 obtain ⟨H, hH, _⟩ := hs.mem
 have hat : atN S.own (i, 0, 0) = some (.ar ys.length 1 (ats eI ys 0) ty) := by simp [atN, hown, Fm.get]
 have hd := hH.den _ _ hat
 by_cases hy : ys = []
 ·subst hy
  obtain rfl : [] = zs := by rw [← hl]; simp
  refine Calls.mono (AnyG.slices_Sort_int_none (ρ := ρ) L _ _ w) ?_
  rintro e w' ⟨rfl, rfl⟩
  exact ⟨_, rfl, E, hs.one, fun E2 h2 hk _ => ⟨rfl, (fits_same hown).G⟩⟩
 simp only [Blk.den] at hd
 rcases hd with ⟨_, _, h0, _⟩ | ⟨hν, hn, hκ, cells, hHx, hcs, hcells⟩
 ·exact absurd (List.eq_nil_of_length_eq_zero h0) hy
 have hlt0 : 0 < ys.length := List.length_pos_iff.2 hy
 obtain ⟨hw0, _⟩ := hH.sub _ _ hat (E.ρ (i, 0, 0)) (.cells cells ty (0, 0)) (by rw [hHx]; simp [sing])
 have hblk : E.ρ (i, 0, 0) < w.heap.size := hH.lt hat (o := .cells cells ty (0, 0)) (by rw [hHx]; simp [sing])
 have hcell : ∀ e, e < ys.length → cells[e]? = some (.int .i64 (ys.getD e 0)) := fun e he => by
  have := (hcells e he).2 0 (.v (.int .i64 (ys.getD e 0))) (by simp [ats, eI])
  simpa [SC.den] using this.1
 have hHolds : Go.Sort.Holds (Value.int .i64) w (E.ρ (i, 0, 0)) 0 ys.toArray := by
  intro j hj
  have hj : j < ys.length := by simpa using hj
  refine ⟨?_, ?_⟩
  ·unfold World.cell?
   simp only [hw0, Nat.zero_add]
   rw [hcell j hj]
   simp [List.getD_eq_getElem?_getD, hj]
  ·unfold World.frozen?
   simp [hw0]
 have hcon := AnyG.slices_Sort_int L (E.ρ (i, 0, 0)) 0 (cap.getD (E.κ (i, 0, 0) - 0)) ys w hHolds hblk hlen
 rw [hl] at hcon
 have hzl : zs.length = ys.length := by rw [← hl]; simp
 have hargs : ([SV.c (.sl (i, 0, 0) 1 0 ys.length cap)].map (SV.den E)).toArray = #[.slice (some ⟨E.ρ (i, 0, 0), 0, none⟩) ys.length (cap.getD (E.κ (i, 0, 0) - 0))] := by
  simp [SV.den, SC.den, hν]
 rw [hargs]
 refine hcon.mono ?_
 rintro e w' ⟨rfl, m, os, rfl⟩
 refine ⟨_, rfl, E, hs.one, fun E2 h2 hk _ => ⟨rfl, ?_⟩⟩
 obtain ⟨k1, k2, k3, k4⟩ := hk (i, 0, 0) (by simp)
 refine Fits.G (B := C.B) (W := C.W) (E := E2) (S := S) (w := w) (fits_blk (g := E.ρ (i, 0, 0)) (ob := .cells cells ty (0, 0)) (o := .cells (Go.Sort.putCells (Value.int .i64) 0 zs.toArray cells) ty (0, 0)) hown (fun H2 hH2 => ?_) ?_ ⟨rfl, rfl, rfl⟩ ?_ ?_)
 ·have hd2 := hH2.den _ _ hat
  simp only [Blk.den] at hd2
  rcases hd2 with ⟨_, _, h0, _⟩ | ⟨_, _, _, cells2, hHx2, _, _⟩
  ·omega
  ·obtain ⟨hw2, _⟩ := hH2.sub _ _ hat (E2.ρ (i, 0, 0)) (.cells cells2 ty (0, 0)) (by rw [hHx2]; simp [sing])
   rw [k1, hw0] at hw2
   cases hw2
   rw [hHx2, k1]
 ·simp only [Blk.den]
  refine Or.inr ⟨by rw [k3]; exact hν, by rw [k2]; exact hn, by rw [k2]; exact hκ, _, by rw [k1], ?_, fun e he => ⟨rfl, ?_⟩⟩
  ·rw [k2]
   simpa [Go.Sort.putCells] using hcs
  ·intro j u hj
   simp only [ats, eI, List.map_cons, List.map_nil] at hj
   match j, hj with
   | 0, hj =>
    simp only [List.getElem?_cons_zero, Option.some.injEq] at hj
    subst hj
    refine ⟨?_, rfl⟩
    have he2 : e < zs.length := by omega
    simp only [Go.Sort.putCells, Nat.mul_one, Nat.add_zero, Array.getElem?_mapIdx, hcell e he, Option.map_some, Nat.zero_le, true_and, Nat.zero_add, List.size_toArray, if_pos he2, Nat.sub_zero, SC.den]
    simp [List.getD_eq_getElem?_getD, he2]
   | j + 1, hj => simp at hj
 ·show _ ≤ ((w.heap.modify _ _) ++ os).size
  simp
 ·intro n hn
  show ((w.heap.modify _ _) ++ os)[n]? = _
  rw [Array.getElem?_append_left (by simpa using hn), Array.getElem?_modify]
  by_cases e : n = E.ρ (i, 0, 0)
  ·subst e
   simp [hw0, Go.Sort.onCells]
  ·rw [if_neg (Ne.symm e), if_neg e]
end Ytpjdcbofngcdbaa.Z
end Go.Proofs
