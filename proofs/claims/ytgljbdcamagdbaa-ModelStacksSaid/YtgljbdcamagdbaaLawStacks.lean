/- The statement ModelStacksSaid: what is pushed comes back the other way round. (The walk; its law for small input.) -/
import Derived.Test.YtgljbdcamagdbaaPick
import Derived.Test.YtgljbdcamagdbaaSymL
namespace Go.Proofs.Ytgljbdcamagdbaa
open Go.RowKit
set_option linter.unusedSimpArgs false

def six (a b c d e f : Value) (i : Nat) : Value := match i with | 0 => a | 1 => b | 2 => c | 3 => d | 4 => e | _ => f
theorem six_one {w : World} {a b c d e f : Value} {m : MC} {xs : List Int} (h : Cont w (.agg #[a, b, c, d, e]) m) (hv : Arr w eI 1 f xs) : ∀ i, (six a b c d e f i).oneCell' = true := by
  intro i
  unfold six
  split
  · exact cont_one5 h 0
  · exact cont_one5 h 1
  · exact cont_one5 h 2
  · exact cont_one5 h 3
  · exact cont_one5 h 4
  · exact arr_one' hv
theorem six_den {a b c d e f : Value} (E' : Env) (hE : ∀ i, i < 6 → E'.χ i = (⟨fun _ => 0, six a b c d e f⟩ : Env).χ i) : [SV.agg (xs5 0), .c (.xv 5)].map (SV.den E') = [.agg #[a, b, c, d, e], f] := by
  have e0 := hE 0 (by omega)
  have e1 := hE 1 (by omega)
  have e2 := hE 2 (by omega)
  have e3 := hE 3 (by omega)
  have e4 := hE 4 (by omega)
  have e5 := hE 5 (by omega)
  simp only [six] at e0 e1 e2 e3 e4 e5
  simp only [SV.den, List.map_cons, List.map_nil, xs5, SC.den, e0, e1, e2, e3, e4, e5]
theorem enter_six {w : World} {a b c d e f : Value} {m : MC} {xs : List Int} (h : Cont w (.agg #[a, b, c, d, e]) m) (hv : Arr w eI 1 f xs) (E' : Env) (hE : ∀ i, i < 6 → E'.χ i = (⟨fun _ => 0, six a b c d e f⟩ : Env).χ i) (w' : World) (hw : ∀ n, n < w.heap.size → w'.heap[n]? = w.heap[n]?) :
    (∀ i A, look ((5, arrI false xs) :: arrsC false 0 m) i = some A → ArrAt E' w' i A) ∧ ∀ φ ∈ ([] : List (Env → World → Prop)), φ E' w' := by
  have hk : ∀ p u, w.cell? p = some u → w'.cell? p = some u := by
    intro p u hu
    have hlt := World.block_lt_of_cell? w p hu
    have := hw p.block hlt
    unfold World.cell? at hu ⊢
    rw [this]
    exact hu
  obtain ⟨_, _, _, _, _, hv', g0, g1, g2, g3, g4⟩ := h
  cases hv'
  have e0 := hE 0 (by omega)
  have e1 := hE 1 (by omega)
  have e2 := hE 2 (by omega)
  have e3 := hE 3 (by omega)
  have e4 := hE 4 (by omega)
  have e5 := hE 5 (by omega)
  simp only [six] at e0 e1 e2 e3 e4 e5
  refine ⟨fun i A hA => ?_, fun φ hφ => (by cases hφ)⟩
  simp only [look_cons] at hA
  split at hA
  · next e => subst e; cases hA; exact arrAtI (by rw [e5]; exact hv.keep hk)
  · exact look_arrsC (by rw [e0]; exact g0.keep hk) (by rw [e1]; exact g1.keep hk) (by rw [e2]; exact g2.keep hk) (by rw [e3]; exact g3.keep hk) (by rw [e4]; exact g4.keep hk) i A hA
theorem six_old {m : MC} {xs : List Int} : ∀ i A, look ((5, arrI false xs) :: arrsC false 0 m) i = some A → A.fr = false := by
  intro i A h
  simp only [look_cons] at h
  split at h
  · cases h; rfl
  · exact enter_old i A h

theorem wrapZ {n : Int} (h : -4611686018427387904 ≤ n) (h' : n < 4611686018427387904) : IntKind.wrap .i64 n = n := by
  simp [IntKind.wrap, IntKind.bits, IntKind.signed]
  split <;> omega

/-- the stack with the first so many pushed -/
def stkM (M : MC) (vals : List Int) (i : Nat) : MC := { M with stack := (vals.take i).reverse ++ M.stack }
theorem stkM_0 (M : MC) (vals : List Int) : stkM M vals 0 = M := rfl
theorem take_getD {vals : List Int} {i : Nat} (h : i < vals.length) : vals.take (i + 1) = vals.take i ++ [vals.getD i 0] := by
  rw [List.take_add_one, List.getD_eq_getElem?_getD, List.getElem?_eq_getElem h]; rfl
theorem stk_push {M : MC} {vals : List Int} {i : Nat} (h : i < vals.length) : doM (stkM M vals i) 30 (vals.getD i 0) 0 = (stkM M vals (i + 1), 1, 0) := by
  have : (vals.take (i + 1)).reverse = vals.getD i 0 :: (vals.take i).reverse := by rw [take_getD h, List.reverse_append]; rfl
  simp [doM, objOf, doStack, stkM, this]
theorem stk_pop {M : MC} {vals : List Int} {i : Nat} (h : i < vals.length) : doM (stkM M vals (i + 1)) 31 0 0 = (stkM M vals i, 2, vals.getD i 0) := by
  have : (vals.take (i + 1)).reverse = vals.getD i 0 :: (vals.take i).reverse := by rw [take_getD h, List.reverse_append]; rfl
  simp [doM, objOf, doStack, stkM, this]
theorem stk_may {M : MC} {vals : List Int} {i : Nat} (h : mayB M = true) : mayB (stkM M vals i) = true := h
theorem stk_ok {M : MC} {vals : List Int} {i k : Nat} (h : M.ok k) (hb : (M.stack.length + vals.length + k) * 8 ≤ 281474976710648) : (stkM M vals i).ok k := by
  obtain ⟨h1, h2, h3, h4, h5⟩ := h
  refine ⟨h1, ?_, h3, h4, h5⟩
  simp only [stkM, List.length_append, List.length_reverse, List.length_take]
  omega

def stk1 (vals : List Int) (M : MC) (i : Nat) : St := ⟨71, [(1, .c (.xv 5)), (2, .c (.ptr 6 0)), (4, .c (.v (.bool false))), (5, .c (.ptr 12 0)), (18, .c (.xv 5)), (19, .c (.v (.int .i64 vals.length))), (20, .c (.v (.int .i64 i)))], [(12, [.xv 13, .xv 14, .xv 15, .xv 16, .xv 17], 29), (6, [.xv 7, .xv 8, .xv 9, .xv 10, .xv 11], 29)],
  [(5, arrI false vals), (7, arrI true M.cell), (8, arrI true M.stack), (9, arrI true M.queue), (10, arrI true M.set), (11, arrP true M.table), (13, arrI true (stkM M vals i).cell), (14, arrI true (stkM M vals i).stack), (15, arrI true (stkM M vals i).queue), (16, arrI true (stkM M vals i).set), (17, arrP true (stkM M vals i).table)], [], 18⟩
def stk2 (vals : List Int) (M : MC) (j : Nat) : St := ⟨71, [(1, .c (.xv 5)), (2, .c (.ptr 6 0)), (4, .c (.v (.bool false))), (5, .c (.ptr 12 0)), (11, .c (.v (.int .i64 ((j : Int) - 1))))], [(12, [.xv 13, .xv 14, .xv 15, .xv 16, .xv 17], 29), (6, [.xv 7, .xv 8, .xv 9, .xv 10, .xv 11], 29)],
  [(5, arrI false vals), (7, arrI true M.cell), (8, arrI true M.stack), (9, arrI true M.queue), (10, arrI true M.set), (11, arrP true M.table), (13, arrI true (stkM M vals j).cell), (14, arrI true (stkM M vals j).stack), (15, arrI true (stkM M vals j).queue), (16, arrI true (stkM M vals j).set), (17, arrP true (stkM M vals j).table)], [], 18⟩
def sg1 (i : Nat) : Nat := bif Nat.blt i 13 then i else i - 6
def sg2 (i : Nat) : Nat := bif Nat.blt i 13 then i else i + 5

theorem right_big {m : MC} {n k : Nat} (h : (m.stack.length + n + k) * 8 ≤ 281474976710648) : ((rightM m).stack.length + n + k) * 8 ≤ 281474976710648 := by
  have e : (rightM m).stack.length ≤ m.stack.length := by
    unfold rightM
    split
    · exact Nat.le_refl _
    · exact Nat.zero_le _
  generalize (rightM m).stack.length = x at e ⊢
  omega
theorem blt18 : Nat.blt 5 18 = true ∧ Nat.blt 6 18 = true ∧ Nat.blt 7 18 = true ∧ Nat.blt 8 18 = true ∧ Nat.blt 9 18 = true ∧ Nat.blt 10 18 = true ∧ Nat.blt 11 18 = true ∧ Nat.blt 12 18 = true ∧ Nat.blt 13 18 = true ∧ Nat.blt 14 18 = true ∧ Nat.blt 15 18 = true ∧ Nat.blt 16 18 = true ∧ Nat.blt 17 18 = true := by decide
theorem sg_a : sg1 5 = 5 ∧ sg1 6 = 6 ∧ sg1 7 = 7 ∧ sg1 8 = 8 ∧ sg1 9 = 9 ∧ sg1 10 = 10 ∧ sg1 11 = 11 ∧ sg1 12 = 12 ∧ sg1 13 = 7 ∧ sg1 14 = 8 ∧ sg1 15 = 9 ∧ sg1 16 = 10 ∧ sg1 17 = 11 := by decide
theorem sg_b : sg2 5 = 5 ∧ sg2 6 = 6 ∧ sg2 7 = 7 ∧ sg2 8 = 8 ∧ sg2 9 = 9 ∧ sg2 10 = 10 ∧ sg2 11 = 11 ∧ sg2 12 = 12 ∧ sg2 13 = 18 ∧ sg2 14 = 19 ∧ sg2 15 = 20 ∧ sg2 16 = 21 ∧ sg2 17 = 22 := by decide

set_option maxRecDepth 100000 in
set_option maxHeartbeats 400000 in
theorem lawStacks {m : MC} {w : World} {vals : List Int} {a b c d e f : Value} (h : Cont w (.agg #[a, b, c, d, e]) m) (hv : Arr w eI 1 f vals) (hok : m.ok 256) (hbig : (m.stack.length + vals.length + 1) * 8 ≤ 281474976710648) :
    Calls Try.prog 8 #[.agg #[a, b, c, d, e], f] w (RetT true w) := by
  refine calls_sym (c := ir8) (C := mkC Try.prog w rs8 (RetT true w)) 1000 [.agg (xs5 0), .c (.xv 5)] ⟨fun _ => 0, six a b c d e f⟩ ((5, arrI false vals) :: arrsC false 0 m) [] 6 nt8 #[.agg #[a, b, c, d, e], f] (mkTab_ok _) Try.func8 rfl (by kernel_rfl) (by kernel_rfl) rfl rfl rfl (six_one h hv)
    (fun E' hE => by rw [six_den E' hE]) (of_decide_eq_true rfl) six_old (enter_six h hv) ?_
  simp only [ir8, nt8, ↓imp_ft, ↓imp_tf, ↓imp_tt, ↓imp_ff, ↓imp_fn, ↓imp_tn, ↓imp_fy, ↓imp_ty, decide_true, decide_false, ex_nil, ex_skip, ex_ops, ex_draw, ex_seq, ex_cond, ex_blk, ex_loop, ex_exit, ex_ret, ex_mark, ex_pop, ex_onil, ex_op, ex_opg, ex_back, ↓condS, ↓exitS, ↓gateS, ↓runOp, thenS, stepOut, St.ev, look, St.app, St.putT, St.skipT, St.setB, pure1, SV.cells, SC.one, allOne, fillP, put, take', drop', len', nth, binI, eqCells, SC.bool?, neg?, evs, popTo, resL, resP, resSV, oneSV, finS, retS, dr_nil, dr_cons, ↓gateD, ↓runD, thenD, recOf, skipR, wrOk, wrFree, St.appN, ownR, St.hid, hideL, memB, tchs, keyss, Rec.tch, keysA, keysO, ltAll, enumT, Value.oneCell', ↓reduceIte, Nat.reduceLT, Nat.reduceLeDiff, Nat.reduceAdd, Nat.reduceMul, Nat.reduceEqDiff, reduceCtorEq, and_self, and_true, true_and, and_false, false_and, List.map_cons, List.map_nil, List.cons_append, List.nil_append, List.append_nil, Int.reduceToNat, Int.reduceEq, Int.reduceBEq, Int.reduceBNe, Int.reduceLT, Int.reduceLE, Bool.true_and, Bool.and_true, Bool.false_and, Bool.and_false, Bool.not_true, Bool.not_false, Bool.not_not, Bool.true_beq, Bool.false_beq, Bool.bne_true, Bool.bne_false, Bool.true_bne, Bool.false_bne, Option.map_some, Option.map_none, beq_self_eq_true, bne_self_eq_false, Bool.false_eq_true, Bool.true_eq_false, Nat.zero_add, Nat.add_zero, forall_const, implies_true, true_implies, false_implies, xs5, arrsC, arrI_len, arrI_size, arrI_at, arrP_len, arrP_size, arrP_at, Int.cast_ofNat_Int, Int.natCast_nonneg, Int.ofNat_lt, Int.toNat_natCast, mkC_rs,   List.length_cons, List.length_nil, List.getD_cons_zero, List.getD_cons_succ, List.getD_nil]
  refine right_rule (m := m) rfl (contS_x rfl rfl rfl rfl rfl) (hok.le (by omega)) ?_
  have hM := rightM_may m
  have hokM := rightM_ok hok (Nat.le_refl _)
  have hbigM := right_big hbig
  generalize rightM m = M at hM hokM hbigM ⊢
  simp only [↓imp_ft, ↓imp_tf, ↓imp_tt, ↓imp_ff, ↓imp_fn, ↓imp_tn, ↓imp_fy, ↓imp_ty, decide_true, decide_false, ex_nil, ex_skip, ex_ops, ex_draw, ex_seq, ex_cond, ex_blk, ex_loop, ex_exit, ex_ret, ex_mark, ex_pop, ex_onil, ex_op, ex_opg, ex_back, ↓condS, ↓exitS, ↓gateS, ↓runOp, thenS, stepOut, St.ev, look, St.app, St.putT, St.skipT, St.setB, pure1, SV.cells, SC.one, allOne, fillP, put, take', drop', len', nth, binI, eqCells, SC.bool?, neg?, evs, popTo, resL, resP, resSV, oneSV, finS, retS, dr_nil, dr_cons, ↓gateD, ↓runD, thenD, recOf, skipR, wrOk, wrFree, St.appN, ownR, St.hid, hideL, memB, tchs, keyss, Rec.tch, keysA, keysO, ltAll, enumT, Value.oneCell', ↓reduceIte, Nat.reduceLT, Nat.reduceLeDiff, Nat.reduceAdd, Nat.reduceMul, Nat.reduceEqDiff, reduceCtorEq, and_self, and_true, true_and, and_false, false_and, List.map_cons, List.map_nil, List.cons_append, List.nil_append, List.append_nil, Int.reduceToNat, Int.reduceEq, Int.reduceBEq, Int.reduceBNe, Int.reduceLT, Int.reduceLE, Bool.true_and, Bool.and_true, Bool.false_and, Bool.and_false, Bool.not_true, Bool.not_false, Bool.not_not, Bool.true_beq, Bool.false_beq, Bool.bne_true, Bool.bne_false, Bool.true_bne, Bool.false_bne, Option.map_some, Option.map_none, beq_self_eq_true, bne_self_eq_false, Bool.false_eq_true, Bool.true_eq_false, Nat.zero_add, Nat.add_zero, forall_const, implies_true, true_implies, false_implies, xs5, arrsC, arrI_len, arrI_size, arrI_at, arrP_len, arrP_size, arrP_at, Int.cast_ofNat_Int, Int.natCast_nonneg, Int.ofNat_lt, Int.toNat_natCast, mkC_rs,   List.length_cons, List.length_nil, List.getD_cons_zero, List.getD_cons_succ, List.getD_nil]
  refine ⟨{ i : Nat // i ≤ vals.length }, fun i => stk1 vals M i.1, fun i => vals.length - i.1, ⟨0, Nat.zero_le _⟩, ?_, ?_⟩
  · refine le_ren sg1 ⟨rfl, rfl, ?_, ?_, ?_, rfl⟩
    all_goals
      simp only [stk1, AllL, SV.lt, SC.lt, SV.ren, SC.ren, List.all_cons, List.all_nil, List.map_cons, List.map_nil, stkM_0, sg_a, sg_b, blt18, ↓imp_ft, ↓imp_tf, ↓imp_tt, ↓imp_ff, ↓imp_fn, ↓imp_tn, ↓imp_fy, ↓imp_ty, decide_true, decide_false, ex_nil, ex_skip, ex_ops, ex_draw, ex_seq, ex_cond, ex_blk, ex_loop, ex_exit, ex_ret, ex_mark, ex_pop, ex_onil, ex_op, ex_opg, ex_back, ↓condS, ↓exitS, ↓gateS, ↓runOp, thenS, stepOut, St.ev, look, St.app, St.putT, St.skipT, St.setB, pure1, SV.cells, SC.one, allOne, fillP, put, take', drop', len', nth, binI, eqCells, SC.bool?, neg?, evs, popTo, resL, resP, resSV, oneSV, finS, retS, dr_nil, dr_cons, ↓gateD, ↓runD, thenD, recOf, skipR, wrOk, wrFree, St.appN, ownR, St.hid, hideL, memB, tchs, keyss, Rec.tch, keysA, keysO, ltAll, enumT, Value.oneCell', ↓reduceIte, Nat.reduceLT, Nat.reduceLeDiff, Nat.reduceAdd, Nat.reduceMul, Nat.reduceEqDiff, reduceCtorEq, and_self, and_true, true_and, and_false, false_and, List.map_cons, List.map_nil, List.cons_append, List.nil_append, List.append_nil, Int.reduceToNat, Int.reduceEq, Int.reduceBEq, Int.reduceBNe, Int.reduceLT, Int.reduceLE, Bool.true_and, Bool.and_true, Bool.false_and, Bool.and_false, Bool.not_true, Bool.not_false, Bool.not_not, Bool.true_beq, Bool.false_beq, Bool.bne_true, Bool.bne_false, Bool.true_bne, Bool.false_bne, Option.map_some, Option.map_none, beq_self_eq_true, bne_self_eq_false, Bool.false_eq_true, Bool.true_eq_false, Nat.zero_add, Nat.add_zero, forall_const, implies_true, true_implies, false_implies, xs5, arrsC, arrI_len, arrI_size, arrI_at, arrP_len, arrP_size, arrP_at, Int.cast_ofNat_Int, Int.natCast_nonneg, Int.ofNat_lt, Int.toNat_natCast, mkC_rs,   List.length_cons, List.length_nil, List.getD_cons_zero, List.getD_cons_succ, List.getD_nil]
  rintro ⟨i, hi⟩
  simp only [stk1, ↓imp_ft, ↓imp_tf, ↓imp_tt, ↓imp_ff, ↓imp_fn, ↓imp_tn, ↓imp_fy, ↓imp_ty, decide_true, decide_false, ex_nil, ex_skip, ex_ops, ex_draw, ex_seq, ex_cond, ex_blk, ex_loop, ex_exit, ex_ret, ex_mark, ex_pop, ex_onil, ex_op, ex_opg, ex_back, ↓condS, ↓exitS, ↓gateS, ↓runOp, thenS, stepOut, St.ev, look, St.app, St.putT, St.skipT, St.setB, pure1, SV.cells, SC.one, allOne, fillP, put, take', drop', len', nth, binI, eqCells, SC.bool?, neg?, evs, popTo, resL, resP, resSV, oneSV, finS, retS, dr_nil, dr_cons, ↓gateD, ↓runD, thenD, recOf, skipR, wrOk, wrFree, St.appN, ownR, St.hid, hideL, memB, tchs, keyss, Rec.tch, keysA, keysO, ltAll, enumT, Value.oneCell', ↓reduceIte, Nat.reduceLT, Nat.reduceLeDiff, Nat.reduceAdd, Nat.reduceMul, Nat.reduceEqDiff, reduceCtorEq, and_self, and_true, true_and, and_false, false_and, List.map_cons, List.map_nil, List.cons_append, List.nil_append, List.append_nil, Int.reduceToNat, Int.reduceEq, Int.reduceBEq, Int.reduceBNe, Int.reduceLT, Int.reduceLE, Bool.true_and, Bool.and_true, Bool.false_and, Bool.and_false, Bool.not_true, Bool.not_false, Bool.not_not, Bool.true_beq, Bool.false_beq, Bool.bne_true, Bool.bne_false, Bool.true_bne, Bool.false_bne, Option.map_some, Option.map_none, beq_self_eq_true, bne_self_eq_false, Bool.false_eq_true, Bool.true_eq_false, Nat.zero_add, Nat.add_zero, forall_const, implies_true, true_implies, false_implies, xs5, arrsC, arrI_len, arrI_size, arrI_at, arrP_len, arrP_size, arrP_at, Int.cast_ofNat_Int, Int.natCast_nonneg, Int.ofNat_lt, Int.toNat_natCast, mkC_rs,   List.length_cons, List.length_nil, List.getD_cons_zero, List.getD_cons_succ, List.getD_nil]
  refine ⟨fun hlt => ?_, fun hge => ?_⟩
  · have hlt := of_decide_eq_true hlt
    refine ⟨hlt, hlt, ?_⟩
    refine do_rule (d := (stkM M vals (i + 1), 1, 0)) (m := stkM M vals i) rfl (contS_x rfl rfl rfl rfl rfl) (stk_ok (hokM.le (by omega)) hbigM) (stk_may hM) (by decide) (stk_push hlt) ?_
    have hw : IntKind.wrap .i64 ((i : Int) + 1) = ((i + 1 : Nat) : Int) := by rw [wrapZ (by omega) (by omega)]; omega
    simp only [hw, ↓imp_ft, ↓imp_tf, ↓imp_tt, ↓imp_ff, ↓imp_fn, ↓imp_tn, ↓imp_fy, ↓imp_ty, decide_true, decide_false, ex_nil, ex_skip, ex_ops, ex_draw, ex_seq, ex_cond, ex_blk, ex_loop, ex_exit, ex_ret, ex_mark, ex_pop, ex_onil, ex_op, ex_opg, ex_back, ↓condS, ↓exitS, ↓gateS, ↓runOp, thenS, stepOut, St.ev, look, St.app, St.putT, St.skipT, St.setB, pure1, SV.cells, SC.one, allOne, fillP, put, take', drop', len', nth, binI, eqCells, SC.bool?, neg?, evs, popTo, resL, resP, resSV, oneSV, finS, retS, dr_nil, dr_cons, ↓gateD, ↓runD, thenD, recOf, skipR, wrOk, wrFree, St.appN, ownR, St.hid, hideL, memB, tchs, keyss, Rec.tch, keysA, keysO, ltAll, enumT, Value.oneCell', ↓reduceIte, Nat.reduceLT, Nat.reduceLeDiff, Nat.reduceAdd, Nat.reduceMul, Nat.reduceEqDiff, reduceCtorEq, and_self, and_true, true_and, and_false, false_and, List.map_cons, List.map_nil, List.cons_append, List.nil_append, List.append_nil, Int.reduceToNat, Int.reduceEq, Int.reduceBEq, Int.reduceBNe, Int.reduceLT, Int.reduceLE, Bool.true_and, Bool.and_true, Bool.false_and, Bool.and_false, Bool.not_true, Bool.not_false, Bool.not_not, Bool.true_beq, Bool.false_beq, Bool.bne_true, Bool.bne_false, Bool.true_bne, Bool.false_bne, Option.map_some, Option.map_none, beq_self_eq_true, bne_self_eq_false, Bool.false_eq_true, Bool.true_eq_false, Nat.zero_add, Nat.add_zero, forall_const, implies_true, true_implies, false_implies, xs5, arrsC, arrI_len, arrI_size, arrI_at, arrP_len, arrP_size, arrP_at, Int.cast_ofNat_Int, Int.natCast_nonneg, Int.ofNat_lt, Int.toNat_natCast, mkC_rs,   List.length_cons, List.length_nil, List.getD_cons_zero, List.getD_cons_succ, List.getD_nil]
    refine ⟨⟨i + 1, hlt⟩, by show vals.length - (i + 1) < vals.length - i; omega, le_ren sg2 ⟨rfl, rfl, ?_, ?_, ?_, rfl⟩⟩
    all_goals
      simp only [stk1, AllL, SV.lt, SC.lt, SV.ren, SC.ren, List.all_cons, List.all_nil, List.map_cons, List.map_nil, sg_b, blt18, ↓imp_ft, ↓imp_tf, ↓imp_tt, ↓imp_ff, ↓imp_fn, ↓imp_tn, ↓imp_fy, ↓imp_ty, decide_true, decide_false, ex_nil, ex_skip, ex_ops, ex_draw, ex_seq, ex_cond, ex_blk, ex_loop, ex_exit, ex_ret, ex_mark, ex_pop, ex_onil, ex_op, ex_opg, ex_back, ↓condS, ↓exitS, ↓gateS, ↓runOp, thenS, stepOut, St.ev, look, St.app, St.putT, St.skipT, St.setB, pure1, SV.cells, SC.one, allOne, fillP, put, take', drop', len', nth, binI, eqCells, SC.bool?, neg?, evs, popTo, resL, resP, resSV, oneSV, finS, retS, dr_nil, dr_cons, ↓gateD, ↓runD, thenD, recOf, skipR, wrOk, wrFree, St.appN, ownR, St.hid, hideL, memB, tchs, keyss, Rec.tch, keysA, keysO, ltAll, enumT, Value.oneCell', ↓reduceIte, Nat.reduceLT, Nat.reduceLeDiff, Nat.reduceAdd, Nat.reduceMul, Nat.reduceEqDiff, reduceCtorEq, and_self, and_true, true_and, and_false, false_and, List.map_cons, List.map_nil, List.cons_append, List.nil_append, List.append_nil, Int.reduceToNat, Int.reduceEq, Int.reduceBEq, Int.reduceBNe, Int.reduceLT, Int.reduceLE, Bool.true_and, Bool.and_true, Bool.false_and, Bool.and_false, Bool.not_true, Bool.not_false, Bool.not_not, Bool.true_beq, Bool.false_beq, Bool.bne_true, Bool.bne_false, Bool.true_bne, Bool.false_bne, Option.map_some, Option.map_none, beq_self_eq_true, bne_self_eq_false, Bool.false_eq_true, Bool.true_eq_false, Nat.zero_add, Nat.add_zero, forall_const, implies_true, true_implies, false_implies, xs5, arrsC, arrI_len, arrI_size, arrI_at, arrP_len, arrP_size, arrP_at, Int.cast_ofNat_Int, Int.natCast_nonneg, Int.ofNat_lt, Int.toNat_natCast, mkC_rs,   List.length_cons, List.length_nil, List.getD_cons_zero, List.getD_cons_succ, List.getD_nil]
  · have hge := of_decide_eq_false hge
    have hi2 : i = vals.length := by omega
    have hw : IntKind.wrap .i64 ((vals.length : Int) - 1) = (vals.length : Int) - 1 := wrapZ (by omega) (by omega)
    simp only [hw, hi2]
    refine ⟨{ j : Nat // j ≤ vals.length }, fun j => stk2 vals M j.1, fun j => j.1, ⟨vals.length, Nat.le_refl _⟩, ?_, ?_⟩
    · refine le_ren id ⟨rfl, rfl, ?_, ?_, ?_, rfl⟩
      all_goals
        simp only [stk2, AllL, SV.lt, SC.lt, SV.ren, SC.ren, List.all_cons, List.all_nil, List.map_cons, List.map_nil, id_eq, blt18, ↓imp_ft, ↓imp_tf, ↓imp_tt, ↓imp_ff, ↓imp_fn, ↓imp_tn, ↓imp_fy, ↓imp_ty, decide_true, decide_false, ex_nil, ex_skip, ex_ops, ex_draw, ex_seq, ex_cond, ex_blk, ex_loop, ex_exit, ex_ret, ex_mark, ex_pop, ex_onil, ex_op, ex_opg, ex_back, ↓condS, ↓exitS, ↓gateS, ↓runOp, thenS, stepOut, St.ev, look, St.app, St.putT, St.skipT, St.setB, pure1, SV.cells, SC.one, allOne, fillP, put, take', drop', len', nth, binI, eqCells, SC.bool?, neg?, evs, popTo, resL, resP, resSV, oneSV, finS, retS, dr_nil, dr_cons, ↓gateD, ↓runD, thenD, recOf, skipR, wrOk, wrFree, St.appN, ownR, St.hid, hideL, memB, tchs, keyss, Rec.tch, keysA, keysO, ltAll, enumT, Value.oneCell', ↓reduceIte, Nat.reduceLT, Nat.reduceLeDiff, Nat.reduceAdd, Nat.reduceMul, Nat.reduceEqDiff, reduceCtorEq, and_self, and_true, true_and, and_false, false_and, List.map_cons, List.map_nil, List.cons_append, List.nil_append, List.append_nil, Int.reduceToNat, Int.reduceEq, Int.reduceBEq, Int.reduceBNe, Int.reduceLT, Int.reduceLE, Bool.true_and, Bool.and_true, Bool.false_and, Bool.and_false, Bool.not_true, Bool.not_false, Bool.not_not, Bool.true_beq, Bool.false_beq, Bool.bne_true, Bool.bne_false, Bool.true_bne, Bool.false_bne, Option.map_some, Option.map_none, beq_self_eq_true, bne_self_eq_false, Bool.false_eq_true, Bool.true_eq_false, Nat.zero_add, Nat.add_zero, forall_const, implies_true, true_implies, false_implies, xs5, arrsC, arrI_len, arrI_size, arrI_at, arrP_len, arrP_size, arrP_at, Int.cast_ofNat_Int, Int.natCast_nonneg, Int.ofNat_lt, Int.toNat_natCast, mkC_rs,   List.length_cons, List.length_nil, List.getD_cons_zero, List.getD_cons_succ, List.getD_nil]
    rintro ⟨j, hj⟩
    cases j with
    | zero =>
      have hq : ((0 : Int) - 1 ≥ 0) = False := eq_false (by omega)
      simp only [stk2, hq, stkM_0, ↓imp_ft, ↓imp_tf, ↓imp_tt, ↓imp_ff, ↓imp_fn, ↓imp_tn, ↓imp_fy, ↓imp_ty, decide_true, decide_false, ex_nil, ex_skip, ex_ops, ex_draw, ex_seq, ex_cond, ex_blk, ex_loop, ex_exit, ex_ret, ex_mark, ex_pop, ex_onil, ex_op, ex_opg, ex_back, ↓condS, ↓exitS, ↓gateS, ↓runOp, thenS, stepOut, St.ev, look, St.app, St.putT, St.skipT, St.setB, pure1, SV.cells, SC.one, allOne, fillP, put, take', drop', len', nth, binI, eqCells, SC.bool?, neg?, evs, popTo, resL, resP, resSV, oneSV, finS, retS, dr_nil, dr_cons, ↓gateD, ↓runD, thenD, recOf, skipR, wrOk, wrFree, St.appN, ownR, St.hid, hideL, memB, tchs, keyss, Rec.tch, keysA, keysO, ltAll, enumT, Value.oneCell', ↓reduceIte, Nat.reduceLT, Nat.reduceLeDiff, Nat.reduceAdd, Nat.reduceMul, Nat.reduceEqDiff, reduceCtorEq, and_self, and_true, true_and, and_false, false_and, List.map_cons, List.map_nil, List.cons_append, List.nil_append, List.append_nil, Int.reduceToNat, Int.reduceEq, Int.reduceBEq, Int.reduceBNe, Int.reduceLT, Int.reduceLE, Bool.true_and, Bool.and_true, Bool.false_and, Bool.and_false, Bool.not_true, Bool.not_false, Bool.not_not, Bool.true_beq, Bool.false_beq, Bool.bne_true, Bool.bne_false, Bool.true_bne, Bool.false_bne, Option.map_some, Option.map_none, beq_self_eq_true, bne_self_eq_false, Bool.false_eq_true, Bool.true_eq_false, Nat.zero_add, Nat.add_zero, forall_const, implies_true, true_implies, false_implies, xs5, arrsC, arrI_len, arrI_size, arrI_at, arrP_len, arrP_size, arrP_at, Int.cast_ofNat_Int, Int.natCast_nonneg, Int.ofNat_lt, Int.toNat_natCast, mkC_rs,   List.length_cons, List.length_nil, List.getD_cons_zero, List.getD_cons_succ, List.getD_nil]
      refine same_rule (m := M) (m' := M) rfl (contS_x rfl rfl rfl rfl rfl) (contS_x rfl rfl rfl rfl rfl) ?_
      simp only [↓imp_ft, ↓imp_tf, ↓imp_tt, ↓imp_ff, ↓imp_fn, ↓imp_tn, ↓imp_fy, ↓imp_ty, decide_true, decide_false, ex_nil, ex_skip, ex_ops, ex_draw, ex_seq, ex_cond, ex_blk, ex_loop, ex_exit, ex_ret, ex_mark, ex_pop, ex_onil, ex_op, ex_opg, ex_back, ↓condS, ↓exitS, ↓gateS, ↓runOp, thenS, stepOut, St.ev, look, St.app, St.putT, St.skipT, St.setB, pure1, SV.cells, SC.one, allOne, fillP, put, take', drop', len', nth, binI, eqCells, SC.bool?, neg?, evs, popTo, resL, resP, resSV, oneSV, finS, retS, dr_nil, dr_cons, ↓gateD, ↓runD, thenD, recOf, skipR, wrOk, wrFree, St.appN, ownR, St.hid, hideL, memB, tchs, keyss, Rec.tch, keysA, keysO, ltAll, enumT, Value.oneCell', ↓reduceIte, Nat.reduceLT, Nat.reduceLeDiff, Nat.reduceAdd, Nat.reduceMul, Nat.reduceEqDiff, reduceCtorEq, and_self, and_true, true_and, and_false, false_and, List.map_cons, List.map_nil, List.cons_append, List.nil_append, List.append_nil, Int.reduceToNat, Int.reduceEq, Int.reduceBEq, Int.reduceBNe, Int.reduceLT, Int.reduceLE, Bool.true_and, Bool.and_true, Bool.false_and, Bool.and_false, Bool.not_true, Bool.not_false, Bool.not_not, Bool.true_beq, Bool.false_beq, Bool.bne_true, Bool.bne_false, Bool.true_bne, Bool.false_bne, Option.map_some, Option.map_none, beq_self_eq_true, bne_self_eq_false, Bool.false_eq_true, Bool.true_eq_false, Nat.zero_add, Nat.add_zero, forall_const, implies_true, true_implies, false_implies, xs5, arrsC, arrI_len, arrI_size, arrI_at, arrP_len, arrP_size, arrP_at, Int.cast_ofNat_Int, Int.natCast_nonneg, Int.ofNat_lt, Int.toNat_natCast, mkC_rs,   List.length_cons, List.length_nil, List.getD_cons_zero, List.getD_cons_succ, List.getD_nil]
      refine awake_rule rfl ?_
      simp only [rs8, ↓imp_ft, ↓imp_tf, ↓imp_tt, ↓imp_ff, ↓imp_fn, ↓imp_tn, ↓imp_fy, ↓imp_ty, decide_true, decide_false, ex_nil, ex_skip, ex_ops, ex_draw, ex_seq, ex_cond, ex_blk, ex_loop, ex_exit, ex_ret, ex_mark, ex_pop, ex_onil, ex_op, ex_opg, ex_back, ↓condS, ↓exitS, ↓gateS, ↓runOp, thenS, stepOut, St.ev, look, St.app, St.putT, St.skipT, St.setB, pure1, SV.cells, SC.one, allOne, fillP, put, take', drop', len', nth, binI, eqCells, SC.bool?, neg?, evs, popTo, resL, resP, resSV, oneSV, finS, retS, dr_nil, dr_cons, ↓gateD, ↓runD, thenD, recOf, skipR, wrOk, wrFree, St.appN, ownR, St.hid, hideL, memB, tchs, keyss, Rec.tch, keysA, keysO, ltAll, enumT, Value.oneCell', ↓reduceIte, Nat.reduceLT, Nat.reduceLeDiff, Nat.reduceAdd, Nat.reduceMul, Nat.reduceEqDiff, reduceCtorEq, and_self, and_true, true_and, and_false, false_and, List.map_cons, List.map_nil, List.cons_append, List.nil_append, List.append_nil, Int.reduceToNat, Int.reduceEq, Int.reduceBEq, Int.reduceBNe, Int.reduceLT, Int.reduceLE, Bool.true_and, Bool.and_true, Bool.false_and, Bool.and_false, Bool.not_true, Bool.not_false, Bool.not_not, Bool.true_beq, Bool.false_beq, Bool.bne_true, Bool.bne_false, Bool.true_bne, Bool.false_bne, Option.map_some, Option.map_none, beq_self_eq_true, bne_self_eq_false, Bool.false_eq_true, Bool.true_eq_false, Nat.zero_add, Nat.add_zero, forall_const, implies_true, true_implies, false_implies, xs5, arrsC, arrI_len, arrI_size, arrI_at, arrP_len, arrP_size, arrP_at, Int.cast_ofNat_Int, Int.natCast_nonneg, Int.ofNat_lt, Int.toNat_natCast, mkC_rs,   List.length_cons, List.length_nil, List.getD_cons_zero, List.getD_cons_succ, List.getD_nil]
      exact retT (fun _ => rfl)
    | succ k =>
      have hz : ((k + 1 : Nat) : Int) - 1 = (k : Int) := by omega
      have hz2 : ((k : Int) ≥ 0) = True := eq_true (by omega)
      simp only [stk2, hz, hz2, ↓imp_ft, ↓imp_tf, ↓imp_tt, ↓imp_ff, ↓imp_fn, ↓imp_tn, ↓imp_fy, ↓imp_ty, decide_true, decide_false, ex_nil, ex_skip, ex_ops, ex_draw, ex_seq, ex_cond, ex_blk, ex_loop, ex_exit, ex_ret, ex_mark, ex_pop, ex_onil, ex_op, ex_opg, ex_back, ↓condS, ↓exitS, ↓gateS, ↓runOp, thenS, stepOut, St.ev, look, St.app, St.putT, St.skipT, St.setB, pure1, SV.cells, SC.one, allOne, fillP, put, take', drop', len', nth, binI, eqCells, SC.bool?, neg?, evs, popTo, resL, resP, resSV, oneSV, finS, retS, dr_nil, dr_cons, ↓gateD, ↓runD, thenD, recOf, skipR, wrOk, wrFree, St.appN, ownR, St.hid, hideL, memB, tchs, keyss, Rec.tch, keysA, keysO, ltAll, enumT, Value.oneCell', ↓reduceIte, Nat.reduceLT, Nat.reduceLeDiff, Nat.reduceAdd, Nat.reduceMul, Nat.reduceEqDiff, reduceCtorEq, and_self, and_true, true_and, and_false, false_and, List.map_cons, List.map_nil, List.cons_append, List.nil_append, List.append_nil, Int.reduceToNat, Int.reduceEq, Int.reduceBEq, Int.reduceBNe, Int.reduceLT, Int.reduceLE, Bool.true_and, Bool.and_true, Bool.false_and, Bool.and_false, Bool.not_true, Bool.not_false, Bool.not_not, Bool.true_beq, Bool.false_beq, Bool.bne_true, Bool.bne_false, Bool.true_bne, Bool.false_bne, Option.map_some, Option.map_none, beq_self_eq_true, bne_self_eq_false, Bool.false_eq_true, Bool.true_eq_false, Nat.zero_add, Nat.add_zero, forall_const, implies_true, true_implies, false_implies, xs5, arrsC, arrI_len, arrI_size, arrI_at, arrP_len, arrP_size, arrP_at, Int.cast_ofNat_Int, Int.natCast_nonneg, Int.ofNat_lt, Int.toNat_natCast, mkC_rs,   List.length_cons, List.length_nil, List.getD_cons_zero, List.getD_cons_succ, List.getD_nil]
      refine do_rule (d := (stkM M vals k, 2, vals.getD k 0)) (m := stkM M vals (k + 1)) rfl (contS_x rfl rfl rfl rfl rfl) (stk_ok (hokM.le (by omega)) hbigM) (stk_may hM) (by decide) (stk_pop hj) ?_
      simp only [↓imp_ft, ↓imp_tf, ↓imp_tt, ↓imp_ff, ↓imp_fn, ↓imp_tn, ↓imp_fy, ↓imp_ty, decide_true, decide_false, ex_nil, ex_skip, ex_ops, ex_draw, ex_seq, ex_cond, ex_blk, ex_loop, ex_exit, ex_ret, ex_mark, ex_pop, ex_onil, ex_op, ex_opg, ex_back, ↓condS, ↓exitS, ↓gateS, ↓runOp, thenS, stepOut, St.ev, look, St.app, St.putT, St.skipT, St.setB, pure1, SV.cells, SC.one, allOne, fillP, put, take', drop', len', nth, binI, eqCells, SC.bool?, neg?, evs, popTo, resL, resP, resSV, oneSV, finS, retS, dr_nil, dr_cons, ↓gateD, ↓runD, thenD, recOf, skipR, wrOk, wrFree, St.appN, ownR, St.hid, hideL, memB, tchs, keyss, Rec.tch, keysA, keysO, ltAll, enumT, Value.oneCell', ↓reduceIte, Nat.reduceLT, Nat.reduceLeDiff, Nat.reduceAdd, Nat.reduceMul, Nat.reduceEqDiff, reduceCtorEq, and_self, and_true, true_and, and_false, false_and, List.map_cons, List.map_nil, List.cons_append, List.nil_append, List.append_nil, Int.reduceToNat, Int.reduceEq, Int.reduceBEq, Int.reduceBNe, Int.reduceLT, Int.reduceLE, Bool.true_and, Bool.and_true, Bool.false_and, Bool.and_false, Bool.not_true, Bool.not_false, Bool.not_not, Bool.true_beq, Bool.false_beq, Bool.bne_true, Bool.bne_false, Bool.true_bne, Bool.false_bne, Option.map_some, Option.map_none, beq_self_eq_true, bne_self_eq_false, Bool.false_eq_true, Bool.true_eq_false, Nat.zero_add, Nat.add_zero, forall_const, implies_true, true_implies, false_implies, xs5, arrsC, arrI_len, arrI_size, arrI_at, arrP_len, arrP_size, arrP_at, Int.cast_ofNat_Int, Int.natCast_nonneg, Int.ofNat_lt, Int.toNat_natCast, mkC_rs,   List.length_cons, List.length_nil, List.getD_cons_zero, List.getD_cons_succ, List.getD_nil]
      refine draw_at (by kernel_rfl) rfl rfl ?_
      have hw3 : IntKind.wrap .i64 ((k : Int) - 1) = (k : Int) - 1 := wrapZ (by omega) (by omega)
      simp only [hw3, ↓imp_ft, ↓imp_tf, ↓imp_tt, ↓imp_ff, ↓imp_fn, ↓imp_tn, ↓imp_fy, ↓imp_ty, decide_true, decide_false, ex_nil, ex_skip, ex_ops, ex_draw, ex_seq, ex_cond, ex_blk, ex_loop, ex_exit, ex_ret, ex_mark, ex_pop, ex_onil, ex_op, ex_opg, ex_back, ↓condS, ↓exitS, ↓gateS, ↓runOp, thenS, stepOut, St.ev, look, St.app, St.putT, St.skipT, St.setB, pure1, SV.cells, SC.one, allOne, fillP, put, take', drop', len', nth, binI, eqCells, SC.bool?, neg?, evs, popTo, resL, resP, resSV, oneSV, finS, retS, dr_nil, dr_cons, ↓gateD, ↓runD, thenD, recOf, skipR, wrOk, wrFree, St.appN, ownR, St.hid, hideL, memB, tchs, keyss, Rec.tch, keysA, keysO, ltAll, enumT, Value.oneCell', ↓reduceIte, Nat.reduceLT, Nat.reduceLeDiff, Nat.reduceAdd, Nat.reduceMul, Nat.reduceEqDiff, reduceCtorEq, and_self, and_true, true_and, and_false, false_and, List.map_cons, List.map_nil, List.cons_append, List.nil_append, List.append_nil, Int.reduceToNat, Int.reduceEq, Int.reduceBEq, Int.reduceBNe, Int.reduceLT, Int.reduceLE, Bool.true_and, Bool.and_true, Bool.false_and, Bool.and_false, Bool.not_true, Bool.not_false, Bool.not_not, Bool.true_beq, Bool.false_beq, Bool.bne_true, Bool.bne_false, Bool.true_bne, Bool.false_bne, Option.map_some, Option.map_none, beq_self_eq_true, bne_self_eq_false, Bool.false_eq_true, Bool.true_eq_false, Nat.zero_add, Nat.add_zero, forall_const, implies_true, true_implies, false_implies, xs5, arrsC, arrI_len, arrI_size, arrI_at, arrP_len, arrP_size, arrP_at, Int.cast_ofNat_Int, Int.natCast_nonneg, Int.ofNat_lt, Int.toNat_natCast, mkC_rs,   List.length_cons, List.length_nil, List.getD_cons_zero, List.getD_cons_succ, List.getD_nil]
      refine ⟨hj, hj, ?_⟩
      refine ⟨⟨k, Nat.le_of_lt hj⟩, Nat.lt_succ_self k, le_ren sg2 ⟨rfl, rfl, ?_, ?_, ?_, rfl⟩⟩
      all_goals
        simp only [stk2, AllL, SV.lt, SC.lt, SV.ren, SC.ren, List.all_cons, List.all_nil, List.map_cons, List.map_nil, sg_b, blt18, ↓imp_ft, ↓imp_tf, ↓imp_tt, ↓imp_ff, ↓imp_fn, ↓imp_tn, ↓imp_fy, ↓imp_ty, decide_true, decide_false, ex_nil, ex_skip, ex_ops, ex_draw, ex_seq, ex_cond, ex_blk, ex_loop, ex_exit, ex_ret, ex_mark, ex_pop, ex_onil, ex_op, ex_opg, ex_back, ↓condS, ↓exitS, ↓gateS, ↓runOp, thenS, stepOut, St.ev, look, St.app, St.putT, St.skipT, St.setB, pure1, SV.cells, SC.one, allOne, fillP, put, take', drop', len', nth, binI, eqCells, SC.bool?, neg?, evs, popTo, resL, resP, resSV, oneSV, finS, retS, dr_nil, dr_cons, ↓gateD, ↓runD, thenD, recOf, skipR, wrOk, wrFree, St.appN, ownR, St.hid, hideL, memB, tchs, keyss, Rec.tch, keysA, keysO, ltAll, enumT, Value.oneCell', ↓reduceIte, Nat.reduceLT, Nat.reduceLeDiff, Nat.reduceAdd, Nat.reduceMul, Nat.reduceEqDiff, reduceCtorEq, and_self, and_true, true_and, and_false, false_and, List.map_cons, List.map_nil, List.cons_append, List.nil_append, List.append_nil, Int.reduceToNat, Int.reduceEq, Int.reduceBEq, Int.reduceBNe, Int.reduceLT, Int.reduceLE, Bool.true_and, Bool.and_true, Bool.false_and, Bool.and_false, Bool.not_true, Bool.not_false, Bool.not_not, Bool.true_beq, Bool.false_beq, Bool.bne_true, Bool.bne_false, Bool.true_bne, Bool.false_bne, Option.map_some, Option.map_none, beq_self_eq_true, bne_self_eq_false, Bool.false_eq_true, Bool.true_eq_false, Nat.zero_add, Nat.add_zero, forall_const, implies_true, true_implies, false_implies, xs5, arrsC, arrI_len, arrI_size, arrI_at, arrP_len, arrP_size, arrP_at, Int.cast_ofNat_Int, Int.natCast_nonneg, Int.ofNat_lt, Int.toNat_natCast, mkC_rs,   List.length_cons, List.length_nil, List.getD_cons_zero, List.getD_cons_succ, List.getD_nil]

open Go.ChangeShapes Go.WideShapes Go.ChangeAt
section
variable {H : Type} {enc : TypeId × Value → H} {w : World}
theorem leavesI : leavesIn Try.prog 9 26 = some [26] := by kernel_rfl
theorem reach_len {α : Type} {x : List α} {s : Nat} {ws : List Nat} (hr : ∀ k ∈ ws, k ≤ reachBytes) (h : x = [] ∨ ∃ k ∈ ws, x.length * s ≤ k) : x.length * s ≤ 140737488351232 := by
  rcases h with rfl | ⟨k, hk, h⟩
  · simp
  · have := hr k hk
    unfold reachBytes at this
    omega
set_option maxRecDepth 100000 in
theorem open_ints {base : Nat} {v : Value} {d : DataW H} {p : List MemPlace} (hv : Value.okWide Try.prog w .any base 26 v) (h : DataW.Trod enc Try.prog w 0 (fun _ => true) true 26 v d p) :
    ∃ xs, Arr w eI 1 v xs ∧ ((∀ k ∈ d.weights Try.prog 26, k ≤ reachBytes) → xs.length * 8 ≤ 140737488351232) := by
  obtain ⟨ba, len, cap, rfl⟩ := okWide_slice Try.underlying26 hv
  obtain ⟨fuel, hf⟩ := h
  obtain ⟨xs, h1, _, h2⟩ := leaf_ints (leaf_of 9 _ _ leavesI fuel _ _ hf 0 26 (.slice ba len cap) rfl rfl)
  exact ⟨xs, h1, fun hr => reach_len hr h2⟩
set_option maxRecDepth 100000 in
theorem open_cont_stk {base : Nat} {v : Value} {d : DataW H} {p : List MemPlace} (hv : Value.okWide Try.prog w .any base 29 v) (h : DataW.Trod enc Try.prog w 0 (fun _ => true) true 29 v d p) :
    ∃ m, Cont w v m ∧ ((∀ k ∈ d.weights Try.prog 29, k ≤ reachBytes) → m.ok 256 ∧ m.stack.length * 8 ≤ 140737488351232) := by
  obtain ⟨cs, rfl, hsz⟩ := okWide_struct Try.underlying29 hv
  obtain ⟨l⟩ := cs
  obtain ⟨fuel, hf⟩ := h
  match l, hsz.trans cellsC with
  | [c0, c1, c2, c3, c4], _ =>
    have L := leaf_of 9 _ _ leavesC fuel _ _ hf
    obtain ⟨x0, a0, _, w0⟩ := leaf_ints (L 0 26 c0 rfl rfl)
    obtain ⟨x1, a1, _, w1⟩ := leaf_ints (L 1 26 c1 rfl rfl)
    obtain ⟨x2, a2, _, w2⟩ := leaf_ints (L 2 26 c2 rfl rfl)
    obtain ⟨x3, a3, _, w3⟩ := leaf_ints (L 3 26 c3 rfl rfl)
    obtain ⟨x4, a4, _, w4⟩ := leaf_pairs (L 4 27 c4 rfl rfl)
    refine ⟨⟨x0, x1, x2, x3, x4⟩, ⟨_, _, _, _, _, rfl, a0, a1, a2, a3, a4⟩, fun hr => ?_⟩
    have e0 := reach_len hr w0
    have e1 := reach_len hr w1
    have e2 := reach_len hr w2
    have e3 := reach_len hr w3
    have e4 := reach_len hr w4
    simp only [MC.ok]
    omega
end
-- the row
namespace modelStacks
open Go.ChangeShapes Go.WideShapes Go.ChangeAt
set_option maxRecDepth 100000 in
theorem lifted (os : Os) (started : os.Started) (H : Type) (enc : TypeId × Value → H) :
    ReturnsInHanded {} Try.checked os 8 .any (Rows.modelStacksSpec.pre6 enc Try.prog Try.f8 Rows.modelStacksRow.domain false) (Rows.modelStacksSpec.post enc Try.prog Try.f8 false true false false) := by
  refine returnsInHanded_of_change_sized (C := Try.checked) own started (by kernel_rfl) Try.func8
    (ChangeSpec.witness6 (enc := enc) (C := Try.checked) false ⟨#[], #[.agg #[.slice none 0 0, .slice none 0 0, .slice none 0 0, .slice none 0 0, .slice none 0 0], .slice none 0 0], []⟩ 8 (by kernel_rfl) (by kernel_rfl) (by kernel_rfl) (by kernel_rfl)) ?_
  intro W base args ds gs before hval0 hW hcnd hws _
  have hval : ∀ (j : Nat) t v, Try.f8.params[j]? = some t → args[j]? = some v → Value.okWide Try.prog W .any base t v := hval0
  have hW' := hW
  obtain ⟨p, q, hA0, hV, rfl, hfz, hnd⟩ := hW
  have hA : DataW.TrodAll enc Try.prog W 0 (fun _ => true) true Try.f8.params.toList args.toList ds p := hA0
  rw [Try.params8] at hA hval
  obtain ⟨v0, vs0, d0, ds0, p0, q0, hargs, rfl, rfl, h0, r0⟩ := trodAll_cons hA
  obtain ⟨v1, vs1, d1, ds1, p1, q1, rfl, rfl, rfl, h1, r1⟩ := trodAll_cons r0
  obtain ⟨rfl, rfl, rfl⟩ := trodAll_nil r1
  obtain rfl : args = #[v0, v1] := by cases args; simp_all
  obtain ⟨rfl, _⟩ := trodVars_none hV
  obtain ⟨m0, c0, s0⟩ := open_cont_stk (hval 0 29 v0 rfl rfl) h0
  obtain ⟨xs1, r1a, z1⟩ := open_ints (hval 1 26 v1 rfl rfl) h1
  have hreach : ∀ (i : Nat) (t : TypeId) (d : DataW H), (Try.f8.params.toList ++ Rows.modelStacksSpec.plain.varTypes Try.prog)[i]? = some t → ([d0, d1] ++ ([] : List (DataW H)))[i]? = some d → ∀ k ∈ d.weights Try.prog t, k ≤ reachBytes :=
    fun i t d ht hd k hk => of_decide_eq_true (List.all_eq_true.1 hws k (weightsEach_mem ht hd k hk))
  obtain ⟨ca, cb, cc, cd, ce, rfl, _⟩ := id c0
  have k0 := s0 (hreach 0 _ _ rfl rfl)
  have k1 := z1 (hreach 1 _ _ rfl rfl)
  have walk : Calls Try.prog 8 #[.agg #[ca, cb, cc, cd, ce], v1] W fun e W' => e = .returned (.bool true) ∧ Below W.heap.size W W' := lawStacks c0 r1a k0.1 (by have := k0.2; omega)
  refine walk.mono fun e W' ⟨he, hb⟩ => ?_
  exact ⟨_, he, post_of_below (s := Rows.modelStacksSpec) laidOut rfl (by intro t ht; rw [Try.params8] at ht; simp at ht; rcases ht with rfl | rfl <;> exact ⟨by kernel_rfl, of_decide_eq_true (by kernel_rfl)⟩) rfl Try.underlying4 hW' rfl hb⟩

theorem proved : Rows.ModelStacksSaid :=
  OpenClaim.holds_of_wide 8 Try.f8 rfl rfl rfl rfl rfl rfl rfl ⟨rfl, rfl, rfl, rfl, rfl⟩ rfl rfl rfl rfl rfl (by kernel_rfl) Try.func8 (by kernel_rfl)
    (of_decide_eq_true (by kernel_rfl)) (by unfold Func.isWrapper; first | (rw [if_pos (by decide +kernel)]; kernel_rfl) | (rw [if_neg (by decide +kernel)]; exact ⟨rfl, rfl⟩))
    (fun os started H enc _ => lifted os started H enc)
end modelStacks
end Go.Proofs.Ytgljbdcamagdbaa
