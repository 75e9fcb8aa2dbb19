
/- A twin of calls: in memory of its own, with a mark behind it. No statement of the program. -/
import Derived.Test.YtkjeedlkkpgopaaWB
namespace Go.Proofs.Ytkjeedlkkpgopaa.Z
open Go Go.RowKit
set_option linter.unusedSimpArgs false
set_option linter.unusedVariables false

def ir14 : IR := (.seq (.ops [⟨(some 2), (.mv (.k (.c (.v (.slice none 0 0))))), none⟩]) (.kill [1, 2, 3, 4, 5, 6, 7, 8, 9, 10, 11] (.seq (.ops [⟨(some 4), (.mkSl 53 0 9 [] []), none⟩, ⟨(some 5), (.mv (.t 0)), none⟩, ⟨(some 6), (.app 53 9 72 [(.v (.int .i64 0)), (.v (.int .i64 0)), (.v (.int .i64 0)), (.v (.int .i64 0)), (.v (.int .i64 0)), (.v (.int .i64 0)), (.v (.int .i64 0)), (.v (.int .i64 0)), (.v (.int .i64 0))] (.t 4) (.t 5)), none⟩, ⟨(some 3), (.mv (.t 6)), none⟩]) (.kill [4, 5, 6] (.seq (.ops [⟨(some 7), (.mv (.t 3)), none⟩, ⟨(some 8), (.build [(.v (.int .i64 0)), (.v (.int .i64 0)), (.v (.int .i64 0)), (.v (.int .i64 0)), (.v (.int .i64 0)), (.v (.int .i64 0)), (.v (.int .i64 0)), (.v (.int .i64 0)), (.v (.int .i64 0))] [(0, (1, (.k (.c (.v (.int .i64 (-77)))))))]), none⟩, ⟨(some 9), (.mkSl 53 1 9 [(.v (.int .i64 0)), (.v (.int .i64 0)), (.v (.int .i64 0)), (.v (.int .i64 0)), (.v (.int .i64 0)), (.v (.int .i64 0)), (.v (.int .i64 0)), (.v (.int .i64 0)), (.v (.int .i64 0))] [(0, (9, (.t 8)))]), none⟩, ⟨(some 10), (.app 53 9 72 [(.v (.int .i64 0)), (.v (.int .i64 0)), (.v (.int .i64 0)), (.v (.int .i64 0)), (.v (.int .i64 0)), (.v (.int .i64 0)), (.v (.int .i64 0)), (.v (.int .i64 0)), (.v (.int .i64 0))] (.t 7) (.t 9)), none⟩, ⟨(some 11), (.mv (.t 0)), none⟩, ⟨(some 12), (.len (.t 11)), none⟩, ⟨(some 13), (.slc 9 (.t 10) none (some (.t 12)) none), none⟩, ⟨(some 2), (.mv (.t 13)), none⟩]) (.kill [0, 3, 7, 8, 9, 10, 11, 12, 13] .ret))))))
def rs14 : List RS := [(.t 2)]
def nt14 : Nat := 14

theorem fit_app (n : Nat) (h : n ≤ 1954687338268) : (n + n / 4 + 192) * 72 ≤ 281474976710656 := by
  have h4 : n / 4 * 4 ≤ n := Nat.div_mul_le_self _ _
  generalize n / 4 = q at *
  omega
def mark : Cl := ⟨-77, 0, 0, 0, 0, 0, 0, 0, 0⟩
set_option maxRecDepth 100000 in
set_option maxHeartbeats 400000 in
theorem twin_calls (w : World) (v : Value) (xs : List Cl) (h : Arr w Cl.enc 9 v xs) (hn : (xs.length + 1) * 72 ≤ 140737488355328) : Calls Try.prog 14 #[v] w (RetN w 1 (lsT 9 xs.length) (lsO 53 9 Cl.enc (xs ++ [mark]) cl0)) := by
  refine calls_sym (c := ir14) (C := mkC Try.prog [] w rs14 (RetN w 1 (lsT 9 xs.length) (lsO 53 9 Cl.enc (xs ++ [mark]) cl0))) 1000 [.c (.xv (0, 0, 0))] 
    (E1 v) [] [(0, .one (arrOf Cl.enc 9 xs cl0))] [] 1 nt14 _ (mkTab_ok _ _) Try.func14 rfl (by kernel_rfl) (by kernel_rfl) rfl rfl rfl (E1_one (arr_one h))
    (fun E' hE' => ?_) (of_decide_eq_true rfl) (fun E' hE' => inOk_arrs fun w' hw' x A hA => ?_) ?_
  · have e0 := (hE' (0, 0, 0) (by decide)).2.2.2
    simp [SV.den, SC.den, e0, E1]
  · have e0 := (hE' (0, 0, 0) (by decide)).2.2.2
    rcases atN_one hA with ⟨rfl, rfl⟩ | hA
    · exact arr1 cl_ok e0 h hw'
    exact (atN_nil hA).elim
  simp only [ir14, nt14, rs14, ex_nil, ex_skip, ex_ops, ex_draw, ex_seq, ex_cond, ex_blk, ex_loop, ex_exit, ex_ret, ex_mark, ex_kill, ex_pop, ex_onil, ex_op, ex_opg, ↓condS, ↓exitS, ↓gateS, ↓runOp, thenS, stepOut, St.ev, look, setL, mergeL, dropL, memB, atN, pkN, setN, Fm.get, Fm.pk, Fm.set, St.app, St.putT, St.skipT, St.setB, St.kill, St.call, St.setA, St.resS, specS, specO, specC, chain, chainP, inCh, resV, rsvP, resT, slot1, slotL, pureSlots, St.evW, resA1, resAP, resA, gB, specD, specDO, recG, pure1, pureO, SV.cells, SC.one, allOne, fillP, put, take', drop', len', nth, binI, eqCells, SC.bool?, SC.nil?, neg?, evs, evC, popTo, resL, resP, resSV, oneSV, finS, retS, dr_nil, dr_cons, ↓gateD, ↓runD, thenD, recOf, skipR, wrOk, wrFree, wkImp, St.weak, thenW, recW, fimp_mpe, newOk, outOk, St.appN, St.hid, St.only, keepK, useO, idX, idC, tchs, keyss, Rec.tch, keysL, ltAll, enumT, slSrc, slB, slM, SV.int?, segs, keyOf, intsOf, Value.oneCell', ↓imp_ft, ↓imp_tf, ↓imp_tt, ↓imp_ff, ↓imp_fn, ↓imp_tn, ↓imp_fy, ↓imp_ty, ↓reduceIte, Nat.reduceLT, Nat.reduceLeDiff, Nat.reduceAdd, Nat.reduceSub, Nat.reduceMul, Nat.reduceEqDiff, reduceCtorEq, and_self, and_true, true_and, and_false, false_and, not_true_eq_false, not_false_eq_true, List.map_cons, List.map_nil, List.cons_append, List.nil_append, List.append_nil, Option.bind_some, Option.bind_none, Int.reduceToNat, Int.reduceEq, Int.reduceBEq, Int.reduceBNe, Int.reduceLT, Int.reduceLE, Int.reduceNeg, Bool.true_and, Bool.and_true, Bool.false_and, Bool.and_false, Bool.not_true, Bool.not_false, Bool.not_not, Bool.true_beq, Bool.false_beq, Bool.bne_true, Bool.bne_false, Bool.true_bne, Bool.false_bne, Option.map_some, Option.map_none, beq_self_eq_true, bne_self_eq_false, Bool.false_eq_true, Bool.true_eq_false, Nat.zero_add, Nat.add_zero, forall_const, implies_true, true_implies, false_implies, Int.cast_ofNat_Int, Int.natCast_nonneg, Int.ofNat_lt, Int.toNat_natCast, mkC_rs, decide_true, decide_false, List.length_cons, List.length_nil, Prod.mk.injEq, Nat.reduceEqDiff, Option.some.injEq, arrOf_len, arrOf_size, arrOf_at, wr_lit, wr_litu, Int.reduceAdd, Int.reduceSub, Int.reduceMul, Int.reduceGE, Int.reduceGT, endO, Nat.sub_zero, Cl.enc, iv, ex_back]
  have hm : xs.length ≤ maxLen ∧ xs.length + 1 ≤ maxLen := by simp only [maxLen]; omega
  have hq : (xs.length + xs.length / 4 + 192) * 72 ≤ 281474976710656 := fit_app _ (by clear hm; omega)
  have hq2 : (xs.length + 1 + (xs.length + 1) / 4 + 192) * 72 ≤ 281474976710656 := fit_app _ (by clear hm hq; omega)
  refine And.intro (by decide) (And.intro (And.intro hq hm.1) (And.intro (by decide) (And.intro (And.intro (Nat.le_refl _) (And.intro hq2 hm.2)) (And.intro (And.intro (by omega) (Or.inr trivial)) ?_))))
  refine retList 4 _ _ rfl (by simp) fun e he => ?_
  simp only [List.length_append, List.length_cons, List.length_nil] at he
  simp only [appAt, arrOf_ats, ats]
  by_cases h1 : e < xs.length
  · simp [h1, List.getD_eq_getElem?_getD, List.getElem?_append_left h1]
  · have : e = xs.length := by omega
    subst this
    simp [List.getD_eq_getElem?_getD, mark, Cl.enc, iv, take', drop']
end Go.Proofs.Ytkjeedlkkpgopaa.Z
