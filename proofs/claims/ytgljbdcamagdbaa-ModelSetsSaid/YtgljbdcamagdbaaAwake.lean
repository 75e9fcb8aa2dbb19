/- The calls awake and right of the laws of layer 11. No statement of the program. -/
import Derived.Test.YtgljbdcamagdbaaRul
import Derived.Test.YtgljbdcamagdbaaIrA
import Derived.Test.YtgljbdcamagdbaaPlain
namespace Go.Proofs.Ytgljbdcamagdbaa
open Go.RowKit
set_option linter.unusedSimpArgs false

def noArg : Env := ⟨fun _ => 0, fun _ => .bool true⟩

set_option maxRecDepth 100000 in
set_option maxHeartbeats 1000000 in
theorem awake_ok (w : World) : Calls Try.prog 26 #[] w (RetT true w) := by
  refine calls_sym (c := ir26) (C := mkC Try.prog w rs26 (RetT true w)) 400 [] noArg [] [] 0 nt26 #[] (mkTab_ok _) Try.func26 rfl (by kernel_rfl) (by kernel_rfl) rfl rfl rfl (fun _ => rfl) (fun _ _ => rfl) (by decide) (fun i A h => (by cases h)) (fun _ _ _ _ => ⟨fun i A h => (by cases h), fun φ h => (by cases h)⟩) ?_
  simp only [ir26, nt26, ex_nil, ex_skip, ex_ops, ex_draw, ex_seq, ex_cond, ex_blk, ex_loop, ex_exit, ex_ret, ex_mark, ex_pop, ex_onil, ex_op, ex_opg, ex_back, ↓condS, ↓exitS, ↓gateS, ↓runOp, thenS, stepOut, St.ev, look, St.app, St.putT, St.skipT, St.setB, pure1, SV.cells, SC.one, allOne, fillP, put, take', drop', len', nth, binI, eqCells, SC.bool?, neg?, evs, popTo, resL, resP, resSV, oneSV, finS, retS, enumT, Value.oneCell', ↓reduceIte, Nat.reduceLT, Nat.reduceLeDiff, Nat.reduceAdd, Nat.reduceMul, Nat.reduceEqDiff, reduceCtorEq, and_self, and_true, true_and, and_false, false_and, List.map_cons, List.map_nil, List.cons_append, List.nil_append, List.append_nil, Int.reduceToNat, Int.reduceEq, Int.reduceBEq, Int.reduceBNe, Int.reduceLT, Int.reduceLE, Bool.true_and, Bool.and_true, Bool.false_and, Bool.and_false, Bool.not_true, Bool.not_false, Bool.not_not, Bool.true_beq, Bool.false_beq, Bool.bne_true, Bool.bne_false, Bool.true_bne, Bool.false_bne, Option.map_some, Option.map_none, beq_self_eq_true, bne_self_eq_false, Bool.false_eq_true, Bool.true_eq_false, Nat.zero_add, Nat.add_zero, forall_const, implies_true, true_implies, false_implies, xs5, arrsC, arrI_len, arrI_size, arrI_at, arrP_len, arrP_size, arrP_at, Int.cast_ofNat_Int, Int.natCast_nonneg, Int.ofNat_lt, Int.toNat_natCast, mkC_rs,   List.length_cons, List.length_nil, List.getD_cons_zero, List.getD_cons_succ, List.getD_nil]
  refine do_rule (d := (⟨[], [6, 5], [], [], []⟩, 1, 0)) (m := ⟨[], [5], [], [], []⟩) rfl ⟨_, _, _, _, _, rfl, rd_nil, rd_ownI [5] rfl rfl rfl (by decide), rd_nil, rd_nil, rd_nil⟩ (by simp [MC.ok]) rfl (by decide) rfl ?_
  simp only [ex_nil, ex_skip, ex_ops, ex_draw, ex_seq, ex_cond, ex_blk, ex_loop, ex_exit, ex_ret, ex_mark, ex_pop, ex_onil, ex_op, ex_opg, ex_back, ↓condS, ↓exitS, ↓gateS, ↓runOp, thenS, stepOut, St.ev, look, St.app, St.putT, St.skipT, St.setB, pure1, SV.cells, SC.one, allOne, fillP, put, take', drop', len', nth, binI, eqCells, SC.bool?, neg?, evs, popTo, resL, resP, resSV, oneSV, finS, retS, enumT, Value.oneCell', ↓reduceIte, Nat.reduceLT, Nat.reduceLeDiff, Nat.reduceAdd, Nat.reduceMul, Nat.reduceEqDiff, reduceCtorEq, and_self, and_true, true_and, and_false, false_and, List.map_cons, List.map_nil, List.cons_append, List.nil_append, List.append_nil, Int.reduceToNat, Int.reduceEq, Int.reduceBEq, Int.reduceBNe, Int.reduceLT, Int.reduceLE, Bool.true_and, Bool.and_true, Bool.false_and, Bool.and_false, Bool.not_true, Bool.not_false, Bool.not_not, Bool.true_beq, Bool.false_beq, Bool.bne_true, Bool.bne_false, Bool.true_bne, Bool.false_bne, Option.map_some, Option.map_none, beq_self_eq_true, bne_self_eq_false, Bool.false_eq_true, Bool.true_eq_false, Nat.zero_add, Nat.add_zero, forall_const, implies_true, true_implies, false_implies, xs5, arrsC, arrI_len, arrI_size, arrI_at, arrP_len, arrP_size, arrP_at, Int.cast_ofNat_Int, Int.natCast_nonneg, Int.ofNat_lt, Int.toNat_natCast, mkC_rs,   List.length_cons, List.length_nil, List.getD_cons_zero, List.getD_cons_succ, List.getD_nil]
  refine do_rule (d := (⟨[], [5], [], [], []⟩, 2, 6)) (m := ⟨[], [6, 5], [], [], []⟩) rfl (contS_x rfl rfl rfl rfl rfl) (by simp [MC.ok]) rfl (by decide) rfl ?_
  simp only [rs26, ex_nil, ex_skip, ex_ops, ex_draw, ex_seq, ex_cond, ex_blk, ex_loop, ex_exit, ex_ret, ex_mark, ex_pop, ex_onil, ex_op, ex_opg, ex_back, ↓condS, ↓exitS, ↓gateS, ↓runOp, thenS, stepOut, St.ev, look, St.app, St.putT, St.skipT, St.setB, pure1, SV.cells, SC.one, allOne, fillP, put, take', drop', len', nth, binI, eqCells, SC.bool?, neg?, evs, popTo, resL, resP, resSV, oneSV, finS, retS, enumT, Value.oneCell', ↓reduceIte, Nat.reduceLT, Nat.reduceLeDiff, Nat.reduceAdd, Nat.reduceMul, Nat.reduceEqDiff, reduceCtorEq, and_self, and_true, true_and, and_false, false_and, List.map_cons, List.map_nil, List.cons_append, List.nil_append, List.append_nil, Int.reduceToNat, Int.reduceEq, Int.reduceBEq, Int.reduceBNe, Int.reduceLT, Int.reduceLE, Bool.true_and, Bool.and_true, Bool.false_and, Bool.and_false, Bool.not_true, Bool.not_false, Bool.not_not, Bool.true_beq, Bool.false_beq, Bool.bne_true, Bool.bne_false, Bool.true_bne, Bool.false_bne, Option.map_some, Option.map_none, beq_self_eq_true, bne_self_eq_false, Bool.false_eq_true, Bool.true_eq_false, Nat.zero_add, Nat.add_zero, forall_const, implies_true, true_implies, false_implies, xs5, arrsC, arrI_len, arrI_size, arrI_at, arrP_len, arrP_size, arrP_at, Int.cast_ofNat_Int, Int.natCast_nonneg, Int.ofNat_lt, Int.toNat_natCast, mkC_rs,   List.length_cons, List.length_nil, List.getD_cons_zero, List.getD_cons_succ, List.getD_nil]
  exact retT (fun _ => rfl)

/-- the contents, or empty ones, if they may not be -/
def rightM (m : MC) : MC := if mayB m then m else ⟨[], [], [], [], []⟩
theorem rightM_may (m : MC) : mayB (rightM m) = true := by
  unfold rightM
  split
  · assumption
  · rfl
theorem rightM_ok {k : Nat} {m : MC} (h : m.ok k) (hk : k ≤ 256) : (rightM m).ok k := by
  unfold rightM
  split
  · exact h
  · simp [MC.ok]; omega

set_option maxRecDepth 100000 in
set_option maxHeartbeats 1000000 in
theorem right_ok {v : Value} {m : MC} {w : World} (h : Cont w v m) (hok : m.ok 0) : Calls Try.prog 28 #[v] w (RetN w (rightM m)) := by
  obtain ⟨a, b, c, d, e, rfl, _⟩ := id h
  refine calls_sym (c := ir28) (C := mkC Try.prog w rs28 (RetN w (rightM m))) 400 [.agg (xs5 0)] ⟨fun _ => 0, five a b c d e⟩ (arrsC false 0 m) [] 5 nt28 #[.agg #[a, b, c, d, e]] (mkTab_ok _) Try.func28 rfl (by kernel_rfl) (by kernel_rfl) rfl rfl rfl (cont_one5 h) (fun E' hE => by rw [List.map_cons, List.map_nil, five_den E' hE]) (by decide) enter_old (enter_c h) ?_
  simp only [ir28, nt28, ex_nil, ex_skip, ex_ops, ex_draw, ex_seq, ex_cond, ex_blk, ex_loop, ex_exit, ex_ret, ex_mark, ex_pop, ex_onil, ex_op, ex_opg, ex_back, ↓condS, ↓exitS, ↓gateS, ↓runOp, thenS, stepOut, St.ev, look, St.app, St.putT, St.skipT, St.setB, pure1, SV.cells, SC.one, allOne, fillP, put, take', drop', len', nth, binI, eqCells, SC.bool?, neg?, evs, popTo, resL, resP, resSV, oneSV, finS, retS, enumT, Value.oneCell', ↓reduceIte, Nat.reduceLT, Nat.reduceLeDiff, Nat.reduceAdd, Nat.reduceMul, Nat.reduceEqDiff, reduceCtorEq, and_self, and_true, true_and, and_false, false_and, List.map_cons, List.map_nil, List.cons_append, List.nil_append, List.append_nil, Int.reduceToNat, Int.reduceEq, Int.reduceBEq, Int.reduceBNe, Int.reduceLT, Int.reduceLE, Bool.true_and, Bool.and_true, Bool.false_and, Bool.and_false, Bool.not_true, Bool.not_false, Bool.not_not, Bool.true_beq, Bool.false_beq, Bool.bne_true, Bool.bne_false, Bool.true_bne, Bool.false_bne, Option.map_some, Option.map_none, beq_self_eq_true, bne_self_eq_false, Bool.false_eq_true, Bool.true_eq_false, Nat.zero_add, Nat.add_zero, forall_const, implies_true, true_implies, false_implies, xs5, arrsC, arrI_len, arrI_size, arrI_at, arrP_len, arrP_size, arrP_at, Int.cast_ofNat_Int, Int.natCast_nonneg, Int.ofNat_lt, Int.toNat_natCast, mkC_rs,   List.length_cons, List.length_nil, List.getD_cons_zero, List.getD_cons_succ, List.getD_nil]
  refine rmay_rule (m := m) rfl (contS_x rfl rfl rfl rfl rfl) ?_
  simp only [rs28, ex_nil, ex_skip, ex_ops, ex_draw, ex_seq, ex_cond, ex_blk, ex_loop, ex_exit, ex_ret, ex_mark, ex_pop, ex_onil, ex_op, ex_opg, ex_back, ↓condS, ↓exitS, ↓gateS, ↓runOp, thenS, stepOut, St.ev, look, St.app, St.putT, St.skipT, St.setB, pure1, SV.cells, SC.one, allOne, fillP, put, take', drop', len', nth, binI, eqCells, SC.bool?, neg?, evs, popTo, resL, resP, resSV, oneSV, finS, retS, enumT, Value.oneCell', ↓reduceIte, Nat.reduceLT, Nat.reduceLeDiff, Nat.reduceAdd, Nat.reduceMul, Nat.reduceEqDiff, reduceCtorEq, and_self, and_true, true_and, and_false, false_and, List.map_cons, List.map_nil, List.cons_append, List.nil_append, List.append_nil, Int.reduceToNat, Int.reduceEq, Int.reduceBEq, Int.reduceBNe, Int.reduceLT, Int.reduceLE, Bool.true_and, Bool.and_true, Bool.false_and, Bool.and_false, Bool.not_true, Bool.not_false, Bool.not_not, Bool.true_beq, Bool.false_beq, Bool.bne_true, Bool.bne_false, Bool.true_bne, Bool.false_bne, Option.map_some, Option.map_none, beq_self_eq_true, bne_self_eq_false, Bool.false_eq_true, Bool.true_eq_false, Nat.zero_add, Nat.add_zero, forall_const, implies_true, true_implies, false_implies, xs5, arrsC, arrI_len, arrI_size, arrI_at, arrP_len, arrP_size, arrP_at, Int.cast_ofNat_Int, Int.natCast_nonneg, Int.ofNat_lt, Int.toNat_natCast, mkC_rs,   List.length_cons, List.length_nil, List.getD_cons_zero, List.getD_cons_succ, List.getD_nil]
  refine ⟨fun hm => ?_, fun hm => ?_⟩
  · have e1 : rightM m = ⟨[], [], [], [], []⟩ := by simp only [Bool.not_eq_true'] at hm; simp [rightM, hm]
    rw [e1]
    exact retN_z
  · have hm' : mayB m = true := by simpa using hm
    refine rcopy_rule (m := m) rfl (contS_x rfl rfl rfl rfl rfl) hok ?_
    simp only [rs28, ex_nil, ex_skip, ex_ops, ex_draw, ex_seq, ex_cond, ex_blk, ex_loop, ex_exit, ex_ret, ex_mark, ex_pop, ex_onil, ex_op, ex_opg, ex_back, ↓condS, ↓exitS, ↓gateS, ↓runOp, thenS, stepOut, St.ev, look, St.app, St.putT, St.skipT, St.setB, pure1, SV.cells, SC.one, allOne, fillP, put, take', drop', len', nth, binI, eqCells, SC.bool?, neg?, evs, popTo, resL, resP, resSV, oneSV, finS, retS, enumT, Value.oneCell', ↓reduceIte, Nat.reduceLT, Nat.reduceLeDiff, Nat.reduceAdd, Nat.reduceMul, Nat.reduceEqDiff, reduceCtorEq, and_self, and_true, true_and, and_false, false_and, List.map_cons, List.map_nil, List.cons_append, List.nil_append, List.append_nil, Int.reduceToNat, Int.reduceEq, Int.reduceBEq, Int.reduceBNe, Int.reduceLT, Int.reduceLE, Bool.true_and, Bool.and_true, Bool.false_and, Bool.and_false, Bool.not_true, Bool.not_false, Bool.not_not, Bool.true_beq, Bool.false_beq, Bool.bne_true, Bool.bne_false, Bool.true_bne, Bool.false_bne, Option.map_some, Option.map_none, beq_self_eq_true, bne_self_eq_false, Bool.false_eq_true, Bool.true_eq_false, Nat.zero_add, Nat.add_zero, forall_const, implies_true, true_implies, false_implies, xs5, arrsC, arrI_len, arrI_size, arrI_at, arrP_len, arrP_size, arrP_at, Int.cast_ofNat_Int, Int.natCast_nonneg, Int.ofNat_lt, Int.toNat_natCast, mkC_rs,   List.length_cons, List.length_nil, List.getD_cons_zero, List.getD_cons_succ, List.getD_nil]
    have e1 : rightM m = m := by simp [rightM, hm']
    rw [e1]
    exact retN_x rfl rfl rfl rfl rfl

section
variable {C : Ctx} {S : St} {dst : Option Nat} {K : St → Prop}
theorem awake_rule (hP : C.P = Try.prog) (hk : K ⟨S.nt, S.putT dst (.c (.v (.bool true))), S.own, S.arrs, S.facts, S.nid⟩) : CallVC C 26 [] dst S K :=
  call_val (.c (.v (.bool true))) (.bool true) (fun _ => rfl) (fun E a w _ => by rw [hP]; exact awake_ok w) hk
theorem right_rule {l : List SC} {m : MC} (hP : C.P = Try.prog) (h : ContS C S l m) (hok : m.ok 0)
    (hk : K ⟨S.nt, S.putT dst (.agg (xs5 S.nid)), S.own, arrsC true S.nid (rightM m) ++ S.arrs, S.facts, S.nid + 5⟩) : CallVC C 28 [.agg l] dst S K :=
  new_rule (rightM m) (fun E a w hs => by rw [hP]; exact right_ok (h.cont hs) hok) hk
end
end Go.Proofs.Ytgljbdcamagdbaa
