/- WitnessLongerSaid: what its proof is made of. No condition. -/
import Derived.Test.YtkjeedlkkpgopaaPkWitnessLongerAQ
set_option linter.unusedSimpArgs false
set_option linter.unusedVariables false
namespace Go.Proofs.Ytkjeedlkkpgopaa.Z
open Go Go.RowKit
def ir30 : IR := (.seq (.ops [⟨(some 0), (.mv (.k (.c (.v (.bool false))))), none⟩]) (.kill [0, 1, 2, 3, 4, 5, 6, 7, 8, 9, 10, 11] (.seq (.ops [⟨(some 6), (.build [(.v (.int .i64 0)), (.v (.int .i64 0))] [(0, (1, (.k (.c (.v (.int .i64 1))))))]), none⟩, ⟨(some 7), (.build [(.v (.int .i64 0)), (.v (.int .i64 0)), (.v (.int .i64 0)), (.v (.int .i64 0)), (.v (.int .i64 0)), (.v (.int .i64 0)), (.v (.int .i64 0)), (.v (.int .i64 0)), (.v (.int .i64 0))] [(0, (1, (.k (.c (.v (.int .i64 0)))))), (1, (1, (.k (.c (.v (.int .i64 30)))))), (2, (1, (.k (.c (.v (.int .i64 1)))))), (4, (1, (.k (.c (.v (.int .i64 0)))))), (5, (1, (.k (.c (.v (.int .i64 9)))))), (6, (1, (.k (.c (.v (.int .i64 8)))))), (7, (2, (.t 6)))]), none⟩, ⟨(some 8), (.build [(.v (.int .i64 0)), (.v (.int .i64 0))] [(0, (1, (.k (.c (.v (.int .i64 3))))))]), none⟩, ⟨(some 9), (.build [(.v (.int .i64 0)), (.v (.int .i64 0)), (.v (.int .i64 0)), (.v (.int .i64 0)), (.v (.int .i64 0)), (.v (.int .i64 0)), (.v (.int .i64 0)), (.v (.int .i64 0)), (.v (.int .i64 0))] [(0, (1, (.k (.c (.v (.int .i64 1)))))), (1, (1, (.k (.c (.v (.int .i64 31)))))), (4, (1, (.k (.c (.v (.int .i64 1)))))), (5, (1, (.k (.c (.v (.int .i64 3)))))), (6, (1, (.k (.c (.v (.int .i64 2)))))), (7, (2, (.t 8)))]), none⟩, ⟨(some 10), (.build [(.v (.int .i64 0)), (.v (.int .i64 0))] [(0, (1, (.k (.c (.v (.int .i64 2)))))), (1, (1, (.k (.c (.v (.int .i64 1))))))]), none⟩, ⟨(some 11), (.build [(.v (.int .i64 0)), (.v (.int .i64 0)), (.v (.int .i64 0)), (.v (.int .i64 0)), (.v (.int .i64 0)), (.v (.int .i64 0)), (.v (.int .i64 0)), (.v (.int .i64 0)), (.v (.int .i64 0))] [(0, (1, (.k (.c (.v (.int .i64 1)))))), (1, (1, (.k (.c (.v (.int .i64 31)))))), (4, (1, (.k (.c (.v (.int .i64 10)))))), (5, (1, (.k (.c (.v (.int .i64 14)))))), (6, (1, (.k (.c (.v (.int .i64 12)))))), (7, (2, (.t 10)))]), none⟩, ⟨(some 12), (.mkSl 53 3 9 [(.v (.int .i64 0)), (.v (.int .i64 0)), (.v (.int .i64 0)), (.v (.int .i64 0)), (.v (.int .i64 0)), (.v (.int .i64 0)), (.v (.int .i64 0)), (.v (.int .i64 0)), (.v (.int .i64 0)), (.v (.int .i64 0)), (.v (.int .i64 0)), (.v (.int .i64 0)), (.v (.int .i64 0)), (.v (.int .i64 0)), (.v (.int .i64 0)), (.v (.int .i64 0)), (.v (.int .i64 0)), (.v (.int .i64 0)), (.v (.int .i64 0)), (.v (.int .i64 0)), (.v (.int .i64 0)), (.v (.int .i64 0)), (.v (.int .i64 0)), (.v (.int .i64 0)), (.v (.int .i64 0)), (.v (.int .i64 0)), (.v (.int .i64 0))] [(0, (9, (.t 7))), (9, (9, (.t 9))), (18, (9, (.t 11)))]), none⟩, ⟨(some 1), (.mv (.t 12)), none⟩]) (.kill [6, 7, 8, 9, 10, 11, 12] (.seq (.ops [⟨(some 14), (.mv (.t 1)), none⟩, ⟨(some 15), (.call 26 [(.t 14)]), none⟩, ⟨(some 13), (.mv (.t 15)), none⟩, ⟨(some 16), (.ext 0 (.t 13)), none⟩, ⟨(some 17), (.ext 1 (.t 13)), none⟩, ⟨(some 2), (.mv (.t 16)), none⟩, ⟨(some 3), (.mv (.t 17)), none⟩]) (.kill [13, 14, 15, 16, 17] (.seq (.ops [⟨(some 19), (.mv (.t 1)), none⟩, ⟨(some 20), (.call 28 [(.t 19)]), none⟩, ⟨(some 18), (.mv (.t 20)), none⟩, ⟨(some 21), (.ext 0 (.t 18)), none⟩, ⟨(some 22), (.ext 1 (.t 18)), none⟩, ⟨(some 4), (.mv (.t 21)), none⟩, ⟨(some 5), (.mv (.t 22)), none⟩]) (.kill [18, 19, 20, 21, 22] (.seq (.ops [⟨(some 23), (.mv (.t 3)), none⟩, ⟨(some 24), (.call 21 [(.t 23)]), none⟩, ⟨(some 25), (.bin .eql (.t 24) (.k (.c (.v (.int .i64 0))))), none⟩, ⟨(some 26), (.mv (.t 25)), none⟩, ⟨(some 27), (.mv (.t 5)), (some (26, true))⟩, ⟨(some 28), (.call 21 [(.t 27)]), (some (26, true))⟩, ⟨(some 29), (.bin .eql (.t 28) (.k (.c (.v (.int .i64 0))))), (some (26, true))⟩, ⟨(some 30), (.pick (.t 26) (.t 29) (.k (.c (.v (.bool false))))), none⟩, ⟨(some 31), (.mv (.t 30)), none⟩, ⟨(some 32), (.mv (.t 4)), (some (31, true))⟩, ⟨(some 33), (.bin .eql (.t 32) (.k (.c (.v (.int .i64 1))))), (some (31, true))⟩, ⟨(some 34), (.pick (.t 31) (.t 33) (.k (.c (.v (.bool false))))), none⟩, ⟨(some 35), (.mv (.t 34)), none⟩, ⟨(some 36), (.mv (.t 2)), (some (35, true))⟩, ⟨(some 37), (.mkSl 3 3 1 [(.v (.int .i64 0)), (.v (.int .i64 0)), (.v (.int .i64 0))] [(0, (1, (.k (.c (.v (.int .i64 1)))))), (1, (1, (.k (.c (.v (.int .i64 0)))))), (2, (1, (.k (.c (.v (.int .i64 2))))))]), (some (35, true))⟩, ⟨(some 38), (.call 23 [(.t 36), (.t 37)]), (some (35, true))⟩, ⟨(some 39), (.pick (.t 35) (.t 38) (.k (.c (.v (.bool false))))), none⟩, ⟨(some 40), (.mv (.t 39)), none⟩, ⟨(some 41), (.mv (.t 1)), (some (40, true))⟩, ⟨(some 42), (.mkSl 3 3 1 [(.v (.int .i64 0)), (.v (.int .i64 0)), (.v (.int .i64 0))] [(0, (1, (.k (.c (.v (.int .i64 0)))))), (1, (1, (.k (.c (.v (.int .i64 1)))))), (2, (1, (.k (.c (.v (.int .i64 2))))))]), (some (40, true))⟩, ⟨(some 43), (.call 35 [(.t 41), (.t 42)]), (some (40, true))⟩, ⟨(some 44), (.call 21 [(.t 43)]), (some (40, true))⟩, ⟨(some 45), (.bin .eql (.t 44) (.k (.c (.v (.int .i64 123))))), (some (40, true))⟩, ⟨(some 46), (.pick (.t 40) (.t 45) (.k (.c (.v (.bool false))))), none⟩, ⟨(some 47), (.mv (.t 46)), none⟩, ⟨(some 48), (.mv (.t 1)), (some (47, true))⟩, ⟨(some 49), (.mv (.t 2)), (some (47, true))⟩, ⟨(some 50), (.call 35 [(.t 48), (.t 49)]), (some (47, true))⟩, ⟨(some 51), (.call 21 [(.t 50)]), (some (47, true))⟩, ⟨(some 52), (.bin .eql (.t 51) (.k (.c (.v (.int .i64 0))))), (some (47, true))⟩, ⟨(some 53), (.pick (.t 47) (.t 52) (.k (.c (.v (.bool false))))), none⟩, ⟨(some 0), (.mv (.t 53)), none⟩]) (.kill [1, 2, 3, 4, 5, 23, 24, 25, 26, 27, 28, 29, 30, 31, 32, 33, 34, 35, 36, 37, 38, 39, 40, 41, 42, 43, 44, 45, 46, 47, 48, 49, 50, 51, 52, 53] .ret))))))))))
def rs30 : List RS := [(.t 0)]
def nt30 : Nat := 54
set_option maxRecDepth 100000 in
set_option maxHeartbeats 400000 in
theorem awake_calls (w : World) : Calls Try.prog 30 #[] w (RetV w (.bool true)) := by
 refine enter0 (A := []) (c := ir30) (rs := rs30) (nt := nt30) [] _ Try.func30 rfl (by kernel_rfl) (by kernel_rfl) rfl (fun E' => rfl) (of_decide_eq_true rfl) ?_
 simp (maxSteps := 2000000) only [ir30, nt30, rs30, go_sem, ↓condS, ↓exitS, ↓gateS, ↓runOp, ↓gateD, ↓runD, ↓imp_ft, ↓imp_tf, ↓imp_tt, ↓imp_ff, ↓imp_fn, ↓imp_tn, ↓imp_fy, ↓imp_ty, ↓reduceIte, Nat.reduceLT, Nat.reduceLeDiff, Nat.reduceAdd, Nat.reduceSub, Nat.reduceMul, Nat.reduceEqDiff, reduceCtorEq, Int.reduceToNat, Int.reduceEq, Int.reduceBEq, Int.reduceBNe, Int.reduceLT, Int.reduceLE, Int.reduceNeg, Int.reduceAdd, Int.reduceSub, Int.reduceMul, Int.reduceGE, Int.reduceGT, Cl.enc, iv, endO]
 have hL : ∀ {C : Ctx} {E : Env} {S : St} {a : Act} {w' : World}, Sat C.B C.W C.w0 E S a w' → look S.own 0 = some (.one (.ar 3 9 (segs 9 (Cl.sc ⟨0, 30, 1, 0, 0, 9, 8, 1, 0⟩ ++ Cl.sc ⟨1, 31, 0, 0, 1, 3, 2, 3, 0⟩ ++ Cl.sc ⟨1, 31, 0, 0, 10, 14, 12, 2, 1⟩)) 53)) → Arr w' Cl.enc 9 ((SC.sl (0, 0, 0) 9 0 3 none).den E) L3 := fun hs h0 =>
  arr_own (d := cl0) hs 0 3 3 _ h0 rfl (Nat.le_refl _) (l3_lt rfl rfl rfl)
 obtain ⟨f1, f2, f3⟩ := l3_find
 refine And.intro (by decide) ?_
 refine callN 1 (leT 1 (findL L3).length (findE L3)) (lsO 3 1 eI (findL L3) 0) (fun E a w' hs => find_calls w' _ L3 (by decide) (hL hs rfl)) ?_
 rw [f1, f2]
 simp (maxSteps := 2000000) only [go_sem, ↓condS, ↓exitS, ↓gateS, ↓runOp, ↓gateD, ↓runD, ↓imp_ft, ↓imp_tf, ↓imp_tt, ↓imp_ff, ↓imp_fn, ↓imp_tn, ↓imp_fy, ↓imp_ty, ↓reduceIte, Nat.reduceLT, Nat.reduceLeDiff, Nat.reduceAdd, Nat.reduceSub, Nat.reduceMul, Nat.reduceEqDiff, reduceCtorEq, Int.reduceToNat, Int.reduceEq, Int.reduceBEq, Int.reduceBNe, Int.reduceLT, Int.reduceLE, Int.reduceNeg, Int.reduceAdd, Int.reduceSub, Int.reduceMul, Int.reduceGE, Int.reduceGT, Cl.enc, iv, endO, leT, lsO]
 refine callV (.tup [(false, [.v (.int .i64 1)]), (false, [.v (.int .i64 0)])]) (.tuple #[.int .i64 1, .int .i64 0]) (fun E => rfl) (fun E a w' hs => by
  have := countW_calls w' _ L3 (by decide) (hL hs rfl)
  rw [f3, l3_ns] at this
  exact this) ?_
 simp (maxSteps := 2000000) only [go_sem, ↓condS, ↓exitS, ↓gateS, ↓runOp, ↓gateD, ↓runD, ↓imp_ft, ↓imp_tf, ↓imp_tt, ↓imp_ff, ↓imp_fn, ↓imp_tn, ↓imp_fy, ↓imp_ty, ↓reduceIte, Nat.reduceLT, Nat.reduceLeDiff, Nat.reduceAdd, Nat.reduceSub, Nat.reduceMul, Nat.reduceEqDiff, reduceCtorEq, Int.reduceToNat, Int.reduceEq, Int.reduceBEq, Int.reduceBNe, Int.reduceLT, Int.reduceLE, Int.reduceNeg, Int.reduceAdd, Int.reduceSub, Int.reduceMul, Int.reduceGE, Int.reduceGT, Cl.enc, iv, endO]
 refine callV (.c (.v (.int .i64 0))) _ (fun E => rfl) (fun E a w' hs => num_calls w' _) ?_
 simp (maxSteps := 2000000) only [go_sem, ↓condS, ↓exitS, ↓gateS, ↓runOp, ↓gateD, ↓runD, ↓imp_ft, ↓imp_tf, ↓imp_tt, ↓imp_ff, ↓imp_fn, ↓imp_tn, ↓imp_fy, ↓imp_ty, ↓reduceIte, Nat.reduceLT, Nat.reduceLeDiff, Nat.reduceAdd, Nat.reduceSub, Nat.reduceMul, Nat.reduceEqDiff, reduceCtorEq, Int.reduceToNat, Int.reduceEq, Int.reduceBEq, Int.reduceBNe, Int.reduceLT, Int.reduceLE, Int.reduceNeg, Int.reduceAdd, Int.reduceSub, Int.reduceMul, Int.reduceGE, Int.reduceGT, Cl.enc, iv, endO]
 refine guardW (.c (.v (.int .i64 0))) _ (fun E => rfl) (fun E a w' hs => num_calls w' _) ?_
 simp (maxSteps := 2000000) only [go_sem, ↓condS, ↓exitS, ↓gateS, ↓runOp, ↓gateD, ↓runD, ↓imp_ft, ↓imp_tf, ↓imp_tt, ↓imp_ff, ↓imp_fn, ↓imp_tn, ↓imp_fy, ↓imp_ty, ↓reduceIte, Nat.reduceLT, Nat.reduceLeDiff, Nat.reduceAdd, Nat.reduceSub, Nat.reduceMul, Nat.reduceEqDiff, reduceCtorEq, Int.reduceToNat, Int.reduceEq, Int.reduceBEq, Int.reduceBNe, Int.reduceLT, Int.reduceLE, Int.reduceNeg, Int.reduceAdd, Int.reduceSub, Int.reduceMul, Int.reduceGE, Int.reduceGT, Cl.enc, iv, endO]
 simp (maxSteps := 2000000) only [forkS, go_sem, ↓condS, ↓exitS, ↓gateS, ↓runOp, ↓gateD, ↓runD, ↓imp_ft, ↓imp_tf, ↓imp_tt, ↓imp_ff, ↓imp_fn, ↓imp_tn, ↓imp_fy, ↓imp_ty, ↓reduceIte, Nat.reduceLT, Nat.reduceLeDiff, Nat.reduceAdd, Nat.reduceSub, Nat.reduceMul, Nat.reduceEqDiff, reduceCtorEq, Int.reduceToNat, Int.reduceEq, Int.reduceBEq, Int.reduceBNe, Int.reduceLT, Int.reduceLE, Int.reduceNeg, Int.reduceAdd, Int.reduceSub, Int.reduceMul, Int.reduceGE, Int.reduceGT, Cl.enc, iv, endO]
 refine And.intro (by decide) ?_
 refine callV (.c (.v (.bool true))) (.bool true) (fun E => rfl) (fun E a w' hs => same_calls w' _ _ [1, 0, 2] [1, 0, 2] (own_at (d := 0) hs 1 3 rfl rfl) (arr_own (d := 0) hs 2 3 3 _ rfl rfl (Nat.le_refl _) (l3_lt rfl rfl rfl))) ?_
 simp (maxSteps := 2000000) only [forkS, go_sem, ↓condS, ↓exitS, ↓gateS, ↓runOp, ↓gateD, ↓runD, ↓imp_ft, ↓imp_tf, ↓imp_tt, ↓imp_ff, ↓imp_fn, ↓imp_tn, ↓imp_fy, ↓imp_ty, ↓reduceIte, Nat.reduceLT, Nat.reduceLeDiff, Nat.reduceAdd, Nat.reduceSub, Nat.reduceMul, Nat.reduceEqDiff, reduceCtorEq, Int.reduceToNat, Int.reduceEq, Int.reduceBEq, Int.reduceBNe, Int.reduceLT, Int.reduceLE, Int.reduceNeg, Int.reduceAdd, Int.reduceSub, Int.reduceMul, Int.reduceGE, Int.reduceGT, Cl.enc, iv, endO]
 refine And.intro (by decide) ?_
 refine callV (.c (.v (.int .i64 123))) (.int .i64 123) (fun E => rfl) (fun E a w' hs => by
  have := check_calls w' _ _ L3 [0, 1, 2] (by decide) (hL hs rfl) (arr_own (d := 0) hs 3 3 3 _ rfl rfl (Nat.le_refl _) (l3_lt rfl rfl rfl))
  rw [l3_no] at this
  exact this) ?_
 simp (maxSteps := 2000000) only [forkS, go_sem, ↓condS, ↓exitS, ↓gateS, ↓runOp, ↓gateD, ↓runD, ↓imp_ft, ↓imp_tf, ↓imp_tt, ↓imp_ff, ↓imp_fn, ↓imp_tn, ↓imp_fy, ↓imp_ty, ↓reduceIte, Nat.reduceLT, Nat.reduceLeDiff, Nat.reduceAdd, Nat.reduceSub, Nat.reduceMul, Nat.reduceEqDiff, reduceCtorEq, Int.reduceToNat, Int.reduceEq, Int.reduceBEq, Int.reduceBNe, Int.reduceLT, Int.reduceLE, Int.reduceNeg, Int.reduceAdd, Int.reduceSub, Int.reduceMul, Int.reduceGE, Int.reduceGT, Cl.enc, iv, endO]
 refine callV (.c (.v (.int .i64 123))) _ (fun E => rfl) (fun E a w' hs => num_calls w' _) ?_
 simp (maxSteps := 2000000) only [forkS, go_sem, ↓condS, ↓exitS, ↓gateS, ↓runOp, ↓gateD, ↓runD, ↓imp_ft, ↓imp_tf, ↓imp_tt, ↓imp_ff, ↓imp_fn, ↓imp_tn, ↓imp_fy, ↓imp_ty, ↓reduceIte, Nat.reduceLT, Nat.reduceLeDiff, Nat.reduceAdd, Nat.reduceSub, Nat.reduceMul, Nat.reduceEqDiff, reduceCtorEq, Int.reduceToNat, Int.reduceEq, Int.reduceBEq, Int.reduceBNe, Int.reduceLT, Int.reduceLE, Int.reduceNeg, Int.reduceAdd, Int.reduceSub, Int.reduceMul, Int.reduceGE, Int.reduceGT, Cl.enc, iv, endO]
 refine guardW (.c (.v (.int .i64 0))) (.int .i64 0) (fun E => rfl) (fun E a w' hs => by
  have := check_calls w' _ _ L3 [1, 0, 2] (by decide) (hL hs rfl) (own_at (d := 0) hs 1 3 rfl rfl)
  rw [l3_chk] at this
  exact this) ?_
 simp (maxSteps := 2000000) only [forkS, go_sem, ↓condS, ↓exitS, ↓gateS, ↓runOp, ↓gateD, ↓runD, ↓imp_ft, ↓imp_tf, ↓imp_tt, ↓imp_ff, ↓imp_fn, ↓imp_tn, ↓imp_fy, ↓imp_ty, ↓reduceIte, Nat.reduceLT, Nat.reduceLeDiff, Nat.reduceAdd, Nat.reduceSub, Nat.reduceMul, Nat.reduceEqDiff, reduceCtorEq, Int.reduceToNat, Int.reduceEq, Int.reduceBEq, Int.reduceBNe, Int.reduceLT, Int.reduceLE, Int.reduceNeg, Int.reduceAdd, Int.reduceSub, Int.reduceMul, Int.reduceGE, Int.reduceGT, Cl.enc, iv, endO]
 refine guardW (.c (.v (.int .i64 0))) _ (fun E => rfl) (fun E a w' hs => num_calls w' _) ?_
 simp (maxSteps := 2000000) only [forkS, go_sem, ↓condS, ↓exitS, ↓gateS, ↓runOp, ↓gateD, ↓runD, ↓imp_ft, ↓imp_tf, ↓imp_tt, ↓imp_ff, ↓imp_fn, ↓imp_tn, ↓imp_fy, ↓imp_ty, ↓reduceIte, Nat.reduceLT, Nat.reduceLeDiff, Nat.reduceAdd, Nat.reduceSub, Nat.reduceMul, Nat.reduceEqDiff, reduceCtorEq, Int.reduceToNat, Int.reduceEq, Int.reduceBEq, Int.reduceBNe, Int.reduceLT, Int.reduceLE, Int.reduceNeg, Int.reduceAdd, Int.reduceSub, Int.reduceMul, Int.reduceGE, Int.reduceGT, Cl.enc, iv, endO]
 exact retV fun E => by simp [SV.den, SC.den]
end Go.Proofs.Ytkjeedlkkpgopaa.Z
namespace Go.Proofs.Ytkjeedlkkpgopaa.Z
open Go Go.RowKit
def lonC (c : Cl) (b e : Int) : Cl := ⟨c.thread, c.op, c.arg, c.data, if b < c.beg then b else c.beg, if c.fin = -1 then c.fin else if c.fin < e then e else c.fin, c.point, c.kind, c.val⟩
def lonL (xs : List Cl) (i : Nat) (b e : Int) : List Cl := xs.set i (lonC (xs.getD i cl0) b e)
theorem lon_len (xs : List Cl) (i : Nat) (b e : Int) : (lonL xs i b e).length = xs.length := by simp [lonL]
theorem lon_at (xs : List Cl) (i : Nat) (b e : Int) (k : Nat) : (lonL xs i b e).getD k cl0 = if k = i ∧ i < xs.length then lonC (xs.getD i cl0) b e else xs.getD k cl0 := by
 unfold lonL
 rw [List.getD_eq_getElem?_getD, List.getD_eq_getElem?_getD, List.getElem?_set]
 by_cases h : i = k
 ·subst h
  rw [if_pos rfl]
  by_cases hk : i < xs.length
  ·rw [if_pos hk, if_pos ⟨rfl, hk⟩]; rfl
  ·rw [if_neg hk, if_neg (fun h => hk h.2), List.getD_eq_getElem?_getD, List.getElem?_eq_none (by omega)]
 ·rw [if_neg h, if_neg (fun hk => h hk.1.symm), List.getD_eq_getElem?_getD]
theorem lon_keep (xs : List Cl) (i : Nat) (b e : Int) (k : Nat) : cntB ((lonL xs i b e).getD k cl0) = cntB (xs.getD k cl0) ∧ ∀ m, allowM m ((lonL xs i b e).getD k cl0) = allowM m (xs.getD k cl0) := by
 rw [lon_at]
 split
 ·next h => rw [h.1]; exact ⟨rfl, fun m => rfl⟩
 ·exact ⟨rfl, fun m => rfl⟩
theorem lon_fin {xs : List Cl} (hs : ∀ k, k < xs.length → shapedB (xs.getD k cl0) = true) (i : Nat) (b e : Int) (k : Nat) : ((lonL xs i b e).getD k cl0).fin ≠ -1 ↔ (xs.getD k cl0).fin ≠ -1 := by
 rw [lon_at]
 split
 ·next h =>
  have := hs i h.2
  simp only [shapedB, decide_eq_true_eq] at this
  rw [h.1]
  simp only [lonC]
  split
  ·exact Iff.rfl
  ·next h2 =>
   have h3 := this.1.2.2.2 h2
   have h0 := this.1.2.2.1
   constructor
   ·intro _; exact h2
   ·intro _; split <;> omega
 ·exact Iff.rfl
theorem lon_ah {xs : List Cl} (hs : ∀ k, k < xs.length → shapedB (xs.getD k cl0) = true) (i : Nat) (b e : Int) (j k : Nat) (h : aheadB ((lonL xs i b e).getD j cl0) ((lonL xs i b e).getD k cl0) = true) : aheadB (xs.getD j cl0) (xs.getD k cl0) = true := by
 have h1 := lon_fin hs i b e j
 have h2 : (xs.getD j cl0).fin ≤ ((lonL xs i b e).getD j cl0).fin := by
  rw [lon_at]; split
  ·next h => rw [h.1]; simp only [lonC]; split; omega; split <;> omega
  ·omega
 have h3 : ((lonL xs i b e).getD k cl0).beg ≤ (xs.getD k cl0).beg := by
  rw [lon_at]; split
  ·next h => rw [h.1]; simp only [lonC]; split <;> omega
  ·omega
 simp only [aheadB] at h ⊢
 split at h
 ·next hf =>
  have hf : ((lonL xs i b e).getD j cl0).fin ≠ -1 := by simpa using hf
  rw [if_pos (by simpa using h1.1 hf)]
  rw [decide_eq_true_eq] at h ⊢
  omega
 ·cases h
theorem lon_nm (xs : List Cl) (i : Nat) (b e : Int) : nmA (lonL xs i b e) = nmA xs := by
 unfold nmA cidx
 rw [lon_len]
 exact List.filter_congr fun k _ => (lon_keep xs i b e k).1
theorem may_shaped {xs : List Cl} (h : mayQ xs = true) : ∀ k, k < xs.length → shapedB (xs.getD k cl0) = true := (mayQ_iff.1 h).1.shaped
theorem lon_cy (xs : List Cl) (i : Nat) (b e : Int) (k : Nat) (hk : k < (nmA xs).length) : (cyA (lonL xs i b e)).getD k cl0 = (lonL xs i b e).getD ((nmA xs).getD k 0) cl0 := by
 rw [cyA_at _ (by rw [lon_nm]; exact hk), lon_nm]
theorem ns_may {xs : List Cl} (he : nsE xs = 0) : mayQ xs = true := by
 unfold nsE at he
 by_cases e : mayQ xs = true
 ·exact e
 ·rw [if_neg e] at he; cases he
theorem lon_ns {xs : List Cl} (he : nsE xs = 0) (i : Nat) (b e : Int) (hm : mayQ (lonL xs i b e) = true) : nsE (lonL xs i b e) = 0 := by
 have h8 := nsE_0 he
 rw [cyA_len] at h8
 unfold nsE
 rw [if_pos hm, if_pos]
 show (nmA (lonL xs i b e)).length ≤ 8
 rw [lon_nm]; exact h8
theorem lon_expl {xs : List Cl} (he : nsE xs = 0) (i : Nat) (b e : Int) {x : List Nat} (hx : (hY (cyA xs)).Expl (cY (cyA xs)) mc0 x) : (hY (cyA (lonL xs i b e))).Expl (cY (cyA (lonL xs i b e))) mc0 x := by
 have hs := may_shaped (ns_may he)
 have hc : cY (cyA (lonL xs i b e)) = cY (cyA xs) := by simp only [cY, cyA_len, lon_nm]
 have hn : ∀ k, ¬ k < (nmA xs).length → (cyA (lonL xs i b e)).getD k cl0 = cl0 ∧ (cyA xs).getD k cl0 = cl0 := fun k hk => by
  have h1 := cyA_len xs
  have h2 := cyA_len (lonL xs i b e)
  rw [lon_nm] at h2
  constructor
  ·rw [List.getD_eq_getElem?_getD, List.getElem?_eq_none (by omega)]; rfl
  ·rw [List.getD_eq_getElem?_getD, List.getElem?_eq_none (by omega)]; rfl
 rw [hc]
 refine expl_longer (fun k => ?_) (fun s k => ?_) (fun j hj k hk h => ?_) hx
 ·simp only [hY]
  by_cases hk : k < (nmA xs).length
  ·rw [lon_cy _ _ _ _ _ hk, cyA_at _ hk]
   have := lon_fin hs i b e ((nmA xs).getD k 0)
   by_cases hf : (xs.getD ((nmA xs).getD k 0) cl0).fin = -1
   ·have : ((lonL xs i b e).getD ((nmA xs).getD k 0) cl0).fin = -1 := Decidable.byContradiction fun h => this.1 h hf
    rw [hf, this]
   ·have hf2 := this.2 hf
    rw [show ∀ a b : Int, a ≠ -1 → b ≠ -1 → (a != -1) = (b != -1) from fun a b ha hb => by rw [bne_iff_ne.2 ha, bne_iff_ne.2 hb]]
    ·exact hf2
    ·exact hf
  ·rw [(hn k hk).1, (hn k hk).2]
 ·simp only [hY]
  by_cases hk : k < (nmA xs).length
  ·rw [lon_cy _ _ _ _ _ hk, cyA_at _ hk]
   exact (lon_keep xs i b e _).2 s
  ·rw [(hn k hk).1, (hn k hk).2]
 ·have hl := cyA_len xs
  have hj : j < (nmA xs).length := by rw [← hl]; simpa [cY] using hj
  have hk : k < (nmA xs).length := by rw [← hl]; simpa [cY] using hk
  simp only [hY] at h ⊢
  rw [lon_cy _ _ _ _ _ hj, lon_cy _ _ _ _ _ hk] at h
  rw [cyA_at _ hj, cyA_at _ hk]
  exact lon_ah hs i b e _ _ h
theorem lon_count {xs : List Cl} (he : nsE xs = 0) (i : Nat) (b e : Int) (hm : mayQ (lonL xs i b e) = true) : cntW xs ≤ cntW (lonL xs i b e) := by
 have hl := lon_ns he i b e hm
 unfold cntW
 rw [if_pos he, if_pos hl]
 have hnd : ∀ ys : List Cl, (allY ys).Nodup := fun ys => (srch_lex _ (List.pairwise_lt_range) _ _ _).imp fun h => h.2
 have := len_sub' (hnd xs) (c := allY (lonL xs i b e)) fun x hx => (all_expl (nsE_0 hl)).2 (lon_expl he i b e ((all_expl (nsE_0 he)).1 hx))
 omega
theorem lon_chk {xs : List Cl} (he : nsE xs = 0) (hf : findE xs = 0) (i : Nat) (b e : Int) (hm : mayQ (lonL xs i b e) = true) : chkE (lonL xs i b e) (findL xs) = 0 := by
 have h8 := nsE_0 he
 unfold findE at hf
 rw [if_pos he] at hf
 split at hf
 ·next h1 =>
  obtain ⟨x, hx⟩ := Option.isSome_iff_exists.1 h1
  have hE := (all_expl h8).1 (head_mem hx)
  have e1 : findL xs = nmL (lonL xs i b e) x := by unfold findL; rw [if_pos he, hx]; simp only [nmL, lon_nm]
  rw [e1]
  refine (chk_iff hm fun k hk => ?_).2 (lon_expl he i b e hE)
  have := hE.sub k hk
  rw [lon_nm, ← cyA_len]; simpa [cY] using this
 ·cases hf
end Go.Proofs.Ytkjeedlkkpgopaa.Z
namespace Go.Proofs.Ytkjeedlkkpgopaa.Z
open Go Go.RowKit
theorem set_ats {α : Type} {enc : α → List Value} {xs : List α} {d : α} {k : Nat} {c : α} (hk : k < xs.length) : setAt k (ats enc xs d) ((enc c).map .v) = ats enc (xs.set k c) d := by
 funext e
 simp only [setAt, ats]
 rw [List.getD_eq_getElem?_getD, List.getD_eq_getElem?_getD, List.getElem?_set]
 by_cases h : e = k
 ·subst h; rw [if_pos rfl, if_pos rfl, if_pos hk]; rfl
 ·rw [if_neg h, if_neg (fun q => h q.symm)]
theorem app0_ats {f g : Nat → List SC} : appAt 0 f g = g := by
 funext e; simp [appAt]
theorem set_set {k : Nat} {f : Nat → List SC} {u v : List SC} : setAt k (setAt k f u) v = setAt k f v := by
 funext e; simp only [setAt]; split <;> rfl
theorem set_cl {xs : List Cl} {k : Nat} (hk : k < xs.length) (c : Cl) : setAt k (ats Cl.enc xs cl0) [.v (.int .i64 c.thread), .v (.int .i64 c.op), .v (.int .i64 c.arg), .v (.int .i64 c.data), .v (.int .i64 c.beg), .v (.int .i64 c.fin), .v (.int .i64 c.point), .v (.int .i64 c.kind), .v (.int .i64 c.val)] = ats Cl.enc (xs.set k c) cl0 := set_ats hk
def ir10_64 : IR := (.cond (.t 64) (.seq (.ops [⟨(some 8), (.mv (.k (.c (.v (.bool true))))), none⟩]) (.kill [0, 9, 64] .ret)) .skip)
def ir10_50 : IR := (.cond (.t 50) (.ops [⟨(some 51), (.mv (.t 9)), none⟩, ⟨(some 52), (.mv (.t 1)), none⟩, ⟨(some 53), (.mv (.t 9)), none⟩, ⟨(some 54), (.mv (.t 1)), none⟩, ⟨(some 55), (.ia 9 (.t 53) (.t 54)), none⟩, ⟨(some 56), (.fa 5 (.t 55)), none⟩, ⟨(some 57), (.ld false 1 (.t 56)), none⟩, ⟨(some 58), (.mv (.t 3)), none⟩, ⟨(some 59), (.mm true (.t 57) (.t 58)), none⟩, ⟨(some 60), (.ia 9 (.t 51) (.t 52)), none⟩, ⟨(some 61), (.fa 5 (.t 60)), none⟩, ⟨none, (.st 1 (.t 61) (.t 59)), none⟩]) .skip)
def ir10_30 : IR := (.cond (.t 30) (.seq (.ops [⟨(some 8), (.mv (.k (.c (.v (.bool true))))), none⟩]) (.kill [0, 1, 2, 3, 30] .ret)) .skip)
def ir10 : IR := (.seq (.ops [⟨(some 8), (.mv (.k (.c (.v (.bool false))))), none⟩]) (.kill [4, 5, 6, 7, 8, 9, 10, 11] (.seq (.seq (.ops [⟨(some 16), (.call 30 []), none⟩, ⟨(some 17), (.un .not (.t 16)), none⟩]) (.kill [16] (.cond (.t 17) (.seq (.ops [⟨(some 8), (.mv (.k (.c (.v (.bool false))))), none⟩]) (.kill [0, 1, 2, 3, 17] .ret)) .skip))) (.kill [8, 17] (.seq (.seq (.ops [⟨(some 18), (.mv (.t 0)), none⟩, ⟨(some 19), (.call 31 [(.t 18)]), none⟩, ⟨(some 20), (.un .not (.t 19)), none⟩, ⟨(some 21), (.mv (.t 20)), none⟩, ⟨(some 22), (.mv (.t 1)), (some (21, false))⟩, ⟨(some 23), (.bin .lss (.t 22) (.k (.c (.v (.int .i64 0))))), (some (21, false))⟩, ⟨(some 24), (.pick (.t 21) (.k (.c (.v (.bool true)))) (.t 23)), none⟩, ⟨(some 25), (.mv (.t 24)), none⟩, ⟨(some 26), (.mv (.t 1)), (some (25, false))⟩, ⟨(some 27), (.mv (.t 0)), (some (25, false))⟩, ⟨(some 28), (.len (.t 27)), (some (25, false))⟩, ⟨(some 29), (.bin .geq (.t 26) (.t 28)), (some (25, false))⟩, ⟨(some 30), (.pick (.t 25) (.k (.c (.v (.bool true)))) (.t 29)), none⟩]) (.kill [18, 19, 20, 21, 22, 23, 24, 25, 26, 27, 28, 29] ir10_30)) (.kill [8, 30] (.seq (.ops [⟨(some 31), (.mkSl 53 0 9 [] []), none⟩, ⟨(some 32), (.mv (.t 0)), none⟩, ⟨(some 33), (.app 53 9 72 [(.v (.int .i64 0)), (.v (.int .i64 0)), (.v (.int .i64 0)), (.v (.int .i64 0)), (.v (.int .i64 0)), (.v (.int .i64 0)), (.v (.int .i64 0)), (.v (.int .i64 0)), (.v (.int .i64 0))] (.t 31) (.t 32)), none⟩, ⟨(some 9), (.mv (.t 33)), none⟩]) (.kill [31, 32, 33] (.seq (.ops [⟨(some 34), (.mv (.t 9)), none⟩, ⟨(some 35), (.mv (.t 1)), none⟩, ⟨(some 36), (.mv (.t 9)), none⟩, ⟨(some 37), (.mv (.t 1)), none⟩, ⟨(some 38), (.ia 9 (.t 36) (.t 37)), none⟩, ⟨(some 39), (.fa 4 (.t 38)), none⟩, ⟨(some 40), (.ld false 1 (.t 39)), none⟩, ⟨(some 41), (.mv (.t 2)), none⟩, ⟨(some 42), (.mm false (.t 40) (.t 41)), none⟩, ⟨(some 43), (.ia 9 (.t 34) (.t 35)), none⟩, ⟨(some 44), (.fa 4 (.t 43)), none⟩, ⟨none, (.st 1 (.t 44) (.t 42)), none⟩]) (.kill [2, 34, 35, 36, 37, 38, 39, 40, 41, 42, 43, 44] (.seq (.seq (.ops [⟨(some 45), (.mv (.t 9)), none⟩, ⟨(some 46), (.mv (.t 1)), none⟩, ⟨(some 47), (.ia 9 (.t 45) (.t 46)), none⟩, ⟨(some 48), (.fa 5 (.t 47)), none⟩, ⟨(some 49), (.ld false 1 (.t 48)), none⟩, ⟨(some 50), (.bin .neq (.t 49) (.k (.c (.v (.int .i64 (-1)))))), none⟩]) (.kill [45, 46, 47, 48, 49] ir10_50)) (.kill [1, 3, 50, 51, 52, 53, 54, 55, 56, 57, 58, 59, 60, 61] (.seq (.seq (.ops [⟨(some 62), (.mv (.t 9)), none⟩, ⟨(some 63), (.call 16 [(.t 62)]), none⟩, ⟨(some 64), (.un .not (.t 63)), none⟩]) (.kill [62, 63] ir10_64)) (.kill [8, 64] (.seq (.ops [⟨(some 66), (.mv (.t 0)), none⟩, ⟨(some 67), (.call 26 [(.t 66)]), none⟩, ⟨(some 65), (.mv (.t 67)), none⟩, ⟨(some 68), (.ext 0 (.t 65)), none⟩, ⟨(some 69), (.ext 1 (.t 65)), none⟩, ⟨(some 10), (.mv (.t 68)), none⟩, ⟨(some 11), (.mv (.t 69)), none⟩]) (.kill [65, 66, 67, 68, 69] (.seq (.ops [⟨(some 71), (.mv (.t 0)), none⟩, ⟨(some 72), (.call 28 [(.t 71)]), none⟩, ⟨(some 70), (.mv (.t 72)), none⟩, ⟨(some 73), (.ext 0 (.t 70)), none⟩, ⟨(some 74), (.ext 1 (.t 70)), none⟩, ⟨(some 12), (.mv (.t 73)), none⟩, ⟨(some 13), (.mv (.t 74)), none⟩]) (.kill [0, 70, 71, 72, 73, 74] (.seq (.ops [⟨(some 76), (.mv (.t 9)), none⟩, ⟨(some 77), (.call 28 [(.t 76)]), none⟩, ⟨(some 75), (.mv (.t 77)), none⟩, ⟨(some 78), (.ext 0 (.t 75)), none⟩, ⟨(some 79), (.ext 1 (.t 75)), none⟩, ⟨(some 14), (.mv (.t 78)), none⟩, ⟨(some 15), (.mv (.t 79)), none⟩]) (.kill [75, 76, 77, 78, 79] (.seq (.seq (.ops [⟨(some 80), (.mv (.t 13)), none⟩, ⟨(some 81), (.call 21 [(.t 80)]), none⟩, ⟨(some 82), (.bin .neq (.t 81) (.k (.c (.v (.int .i64 0))))), none⟩, ⟨(some 83), (.mv (.t 82)), none⟩, ⟨(some 84), (.mv (.t 15)), (some (83, false))⟩, ⟨(some 85), (.call 21 [(.t 84)]), (some (83, false))⟩, ⟨(some 86), (.bin .neq (.t 85) (.k (.c (.v (.int .i64 0))))), (some (83, false))⟩, ⟨(some 87), (.pick (.t 83) (.k (.c (.v (.bool true)))) (.t 86)), none⟩, ⟨(some 88), (.mv (.t 87)), none⟩, ⟨(some 89), (.mv (.t 14)), (some (88, false))⟩, ⟨(some 90), (.mv (.t 12)), (some (88, false))⟩, ⟨(some 91), (.bin .lss (.t 89) (.t 90)), (some (88, false))⟩, ⟨(some 92), (.pick (.t 88) (.k (.c (.v (.bool true)))) (.t 91)), none⟩]) (.kill [12, 13, 14, 15, 80, 81, 82, 83, 84, 85, 86, 87, 88, 89, 90, 91] (.cond (.t 92) (.seq (.ops [⟨(some 8), (.mv (.k (.c (.v (.bool false))))), none⟩]) (.kill [9, 10, 11, 92] .ret)) .skip))) (.kill [8, 92] (.seq (.ops [⟨(some 93), (.mv (.t 11)), none⟩, ⟨(some 94), (.call 21 [(.t 93)]), none⟩, ⟨(some 95), (.bin .neq (.t 94) (.k (.c (.v (.int .i64 0))))), none⟩, ⟨(some 96), (.mv (.t 95)), none⟩, ⟨(some 97), (.mv (.t 9)), (some (96, false))⟩, ⟨(some 98), (.mv (.t 10)), (some (96, false))⟩, ⟨(some 99), (.call 35 [(.t 97), (.t 98)]), (some (96, false))⟩, ⟨(some 100), (.call 21 [(.t 99)]), (some (96, false))⟩, ⟨(some 101), (.bin .eql (.t 100) (.k (.c (.v (.int .i64 0))))), (some (96, false))⟩, ⟨(some 102), (.pick (.t 96) (.k (.c (.v (.bool true)))) (.t 101)), none⟩, ⟨(some 8), (.mv (.t 102)), none⟩]) (.kill [9, 10, 11, 93, 94, 95, 96, 97, 98, 99, 100, 101, 102] .ret))))))))))))))))))))))))
def rs10 : List RS := [(.t 8)]
def nt10 : Nat := 103
set_option maxRecDepth 100000 in
set_option maxHeartbeats 400000 in
theorem longer_walk (w : World) (v : Value) (xs : List Cl) (i b e : Int) (hsz : (xs.length + 1) * 72 ≤ 140737488355328) (h : Arr w Cl.enc 9 v xs) : Calls Try.prog 10 #[v, .int .i64 i, .int .i64 b, .int .i64 e] w (RetV w (.bool true)) := by
 refine enter1 (A := []) (c := ir10) (rs := rs10) (nt := nt10) cl0 cl_ok h [.c (.xv (0, 0, 0)), iA i, iA b, iA e] _ Try.func10 rfl (by kernel_rfl) (by kernel_rfl) rfl (fun E' h0 => by simp [SV.den, SC.den, iA, h0]) (of_decide_eq_true rfl) ?_
 simp (maxSteps := 2000000) only [ir10, nt10, rs10, go_sem, ↓condS, ↓exitS, ↓gateS, ↓runOp, ↓gateD, ↓runD, ↓imp_ft, ↓imp_tf, ↓imp_tt, ↓imp_ff, ↓imp_fn, ↓imp_tn, ↓imp_fy, ↓imp_ty, ↓reduceIte, Nat.reduceLT, Nat.reduceLeDiff, Nat.reduceAdd, Nat.reduceSub, Nat.reduceMul, Nat.reduceEqDiff, reduceCtorEq, Int.reduceToNat, Int.reduceEq, Int.reduceBEq, Int.reduceBNe, Int.reduceLT, Int.reduceLE, Int.reduceNeg, Int.reduceAdd, Int.reduceSub, Int.reduceMul, Int.reduceGE, Int.reduceGT, Cl.enc, iv, endO, iA]
 refine callV (.c (.v (.bool true))) (.bool true) (fun E => rfl) (fun E a w' hs => awake_calls w') ?_
 simp (maxSteps := 2000000) only [go_sem, ↓condS, ↓exitS, ↓gateS, ↓runOp, ↓gateD, ↓runD, ↓imp_ft, ↓imp_tf, ↓imp_tt, ↓imp_ff, ↓imp_fn, ↓imp_tn, ↓imp_fy, ↓imp_ty, ↓reduceIte, Nat.reduceLT, Nat.reduceLeDiff, Nat.reduceAdd, Nat.reduceSub, Nat.reduceMul, Nat.reduceEqDiff, reduceCtorEq, Int.reduceToNat, Int.reduceEq, Int.reduceBEq, Int.reduceBNe, Int.reduceLT, Int.reduceLE, Int.reduceNeg, Int.reduceAdd, Int.reduceSub, Int.reduceMul, Int.reduceGE, Int.reduceGT, Cl.enc, iv, endO]
 by_cases he : nsE xs = 0
 ·refine callV (.c (.v (.bool true))) (.bool true) (fun E => rfl) (fun E a w' hs => by
   have := searched_calls w' _ xs (by omega) (arr_at (d := cl0) hs 0 rfl)
   rw [decide_eq_true he] at this
   exact this) ?_
  by_cases h0 : i < 0
  ·have d0 : decide (i < 0) = true := decide_eq_true h0
   simp (maxSteps := 2000000) only [go_sem, ↓condS, ↓exitS, ↓gateS, ↓runOp, ↓gateD, ↓runD, ↓imp_ft, ↓imp_tf, ↓imp_tt, ↓imp_ff, ↓imp_fn, ↓imp_tn, ↓imp_fy, ↓imp_ty, ↓reduceIte, Nat.reduceLT, Nat.reduceLeDiff, Nat.reduceAdd, Nat.reduceSub, Nat.reduceMul, Nat.reduceEqDiff, reduceCtorEq, Int.reduceToNat, Int.reduceEq, Int.reduceBEq, Int.reduceBNe, Int.reduceLT, Int.reduceLE, Int.reduceNeg, Int.reduceAdd, Int.reduceSub, Int.reduceMul, Int.reduceGE, Int.reduceGT, Cl.enc, iv, endO, d0, ir10_30]
   exact retV fun E => by simp [SV.den, SC.den]
  have d0 : decide (i < 0) = false := decide_eq_false h0
  obtain ⟨k, rfl⟩ : ∃ k : Nat, i = k := ⟨i.toNat, by omega⟩
  by_cases h1 : k < xs.length
  ·have d1 : decide ((k : Int) ≥ (xs.length : Nat)) = false := decide_eq_false (by omega)
   simp (maxSteps := 2000000) only [go_sem, ↓condS, ↓exitS, ↓gateS, ↓runOp, ↓gateD, ↓runD, ↓imp_ft, ↓imp_tf, ↓imp_tt, ↓imp_ff, ↓imp_fn, ↓imp_tn, ↓imp_fy, ↓imp_ty, ↓reduceIte, Nat.reduceLT, Nat.reduceLeDiff, Nat.reduceAdd, Nat.reduceSub, Nat.reduceMul, Nat.reduceEqDiff, reduceCtorEq, Int.reduceToNat, Int.reduceEq, Int.reduceBEq, Int.reduceBNe, Int.reduceLT, Int.reduceLE, Int.reduceNeg, Int.reduceAdd, Int.reduceSub, Int.reduceMul, Int.reduceGE, Int.reduceGT, Cl.enc, iv, endO, d0, d1, ir10_30, appAt, Nat.not_lt_zero, if_false, Nat.sub_zero, arrOf_ats, ats, Cl.enc, iv, List.map_cons, List.map_nil, setAt]
   have hml : xs.length ≤ maxLen := by simp only [maxLen]; omega
   have h72 : (xs.length + xs.length / 4 + 192) * 72 ≤ 281474976710656 := fit_app _ (by omega)
   refine And.intro (by decide) (And.intro ⟨h72, hml⟩ (And.intro ⟨h1, Nat.le_refl _⟩ (And.intro h1 (And.intro ⟨h1, Nat.le_refl _⟩ (And.intro h1 (And.intro ⟨h1, Nat.le_refl _⟩ (And.intro h1 ?_)))))))
   clear hml h72
   rw [app0_ats]
   have hA : ∀ {C : Ctx} {E : Env} {S : St} {a : Act} {w' : World}, Sat C.B C.W C.w0 E S a w' → look S.own 2 = some (.one (.ar xs.length 9 (ats Cl.enc (lonL xs k b e) cl0) 53)) → Arr w' Cl.enc 9 ((SC.sl (2, 0, 0) 9 0 xs.length none).den E) (lonL xs k b e) := fun hs hl =>
    arr_own (d := cl0) hs 2 _ _ _ hl (lon_len xs k b e).symm (by rw [lon_len]; omega) (fun _ _ => rfl)
   by_cases hf : (xs.getD k cl0).fin = -1
   ·have d2 : ((xs.getD k cl0).fin != -1) = false := by rw [hf]; rfl
    rw [d2]
    simp (maxSteps := 2000000) only [go_sem, ↓condS, ↓exitS, ↓gateS, ↓runOp, ↓gateD, ↓runD, ↓imp_ft, ↓imp_tf, ↓imp_tt, ↓imp_ff, ↓imp_fn, ↓imp_tn, ↓imp_fy, ↓imp_ty, ↓reduceIte, Nat.reduceLT, Nat.reduceLeDiff, Nat.reduceAdd, Nat.reduceSub, Nat.reduceMul, Nat.reduceEqDiff, reduceCtorEq, Int.reduceToNat, Int.reduceEq, Int.reduceBEq, Int.reduceBNe, Int.reduceLT, Int.reduceLE, Int.reduceNeg, Int.reduceAdd, Int.reduceSub, Int.reduceMul, Int.reduceGE, Int.reduceGT, Cl.enc, iv, endO, ir10_50]
    rw [set_cl h1 ⟨(xs.getD k cl0).thread, (xs.getD k cl0).op, (xs.getD k cl0).arg, (xs.getD k cl0).data, if b < (xs.getD k cl0).beg then b else (xs.getD k cl0).beg, (xs.getD k cl0).fin, (xs.getD k cl0).point, (xs.getD k cl0).kind, (xs.getD k cl0).val⟩, show xs.set k ⟨(xs.getD k cl0).thread, (xs.getD k cl0).op, (xs.getD k cl0).arg, (xs.getD k cl0).data, if b < (xs.getD k cl0).beg then b else (xs.getD k cl0).beg, (xs.getD k cl0).fin, (xs.getD k cl0).point, (xs.getD k cl0).kind, (xs.getD k cl0).val⟩ = lonL xs k b e from by simp only [lonL, lonC, if_pos hf]]
    exact by
     refine callV (.c (.bo (mayQ (lonL xs k b e)))) _ (fun E => rfl) (fun E a w' hs => mayR w' _ _ (by rw [lon_len]; omega) (hA hs rfl)) ?_
     simp (maxSteps := 2000000) only [go_sem, ↓condS, ↓exitS, ↓gateS, ↓runOp, ↓gateD, ↓runD, ↓imp_ft, ↓imp_tf, ↓imp_tt, ↓imp_ff, ↓imp_fn, ↓imp_tn, ↓imp_fy, ↓imp_ty, ↓reduceIte, Nat.reduceLT, Nat.reduceLeDiff, Nat.reduceAdd, Nat.reduceSub, Nat.reduceMul, Nat.reduceEqDiff, reduceCtorEq, Int.reduceToNat, Int.reduceEq, Int.reduceBEq, Int.reduceBNe, Int.reduceLT, Int.reduceLE, Int.reduceNeg, Int.reduceAdd, Int.reduceSub, Int.reduceMul, Int.reduceGE, Int.reduceGT, Cl.enc, iv, endO]
     by_cases hm : mayQ (lonL xs k b e) = true
     ·simp only [hm, Bool.not_true]
      simp (maxSteps := 2000000) only [go_sem, ↓condS, ↓exitS, ↓gateS, ↓runOp, ↓gateD, ↓runD, ↓imp_ft, ↓imp_tf, ↓imp_tt, ↓imp_ff, ↓imp_fn, ↓imp_tn, ↓imp_fy, ↓imp_ty, ↓reduceIte, Nat.reduceLT, Nat.reduceLeDiff, Nat.reduceAdd, Nat.reduceSub, Nat.reduceMul, Nat.reduceEqDiff, reduceCtorEq, Int.reduceToNat, Int.reduceEq, Int.reduceBEq, Int.reduceBNe, Int.reduceLT, Int.reduceLE, Int.reduceNeg, Int.reduceAdd, Int.reduceSub, Int.reduceMul, Int.reduceGE, Int.reduceGT, Cl.enc, iv, endO, ir10_64]
      have hl := lon_ns he k b e hm
      have hcn := lon_count he k b e hm
      refine callN 1 (leT 1 (findL xs).length (findE xs)) (lsO 3 1 eI (findL xs) 0) (fun E a w' hs => find_calls w' _ xs (by omega) (arr_at (d := cl0) hs 0 rfl)) ?_
      simp (maxSteps := 2000000) only [go_sem, ↓condS, ↓exitS, ↓gateS, ↓runOp, ↓gateD, ↓runD, ↓imp_ft, ↓imp_tf, ↓imp_tt, ↓imp_ff, ↓imp_fn, ↓imp_tn, ↓imp_fy, ↓imp_ty, ↓reduceIte, Nat.reduceLT, Nat.reduceLeDiff, Nat.reduceAdd, Nat.reduceSub, Nat.reduceMul, Nat.reduceEqDiff, reduceCtorEq, Int.reduceToNat, Int.reduceEq, Int.reduceBEq, Int.reduceBNe, Int.reduceLT, Int.reduceLE, Int.reduceNeg, Int.reduceAdd, Int.reduceSub, Int.reduceMul, Int.reduceGE, Int.reduceGT, Cl.enc, iv, endO, leT, lsO]
      refine callV (.tup [(false, [.v (.int .i64 (cntW xs))]), (false, [.v (.int .i64 0)])]) (.tuple #[.int .i64 (cntW xs), .int .i64 0]) (fun E => rfl) (fun E a w' hs => by
       have := countW_calls w' _ xs (by omega) (arr_at (d := cl0) hs 0 rfl)
       rw [he] at this
       exact this) ?_
      simp (maxSteps := 2000000) only [go_sem, ↓condS, ↓exitS, ↓gateS, ↓runOp, ↓gateD, ↓runD, ↓imp_ft, ↓imp_tf, ↓imp_tt, ↓imp_ff, ↓imp_fn, ↓imp_tn, ↓imp_fy, ↓imp_ty, ↓reduceIte, Nat.reduceLT, Nat.reduceLeDiff, Nat.reduceAdd, Nat.reduceSub, Nat.reduceMul, Nat.reduceEqDiff, reduceCtorEq, Int.reduceToNat, Int.reduceEq, Int.reduceBEq, Int.reduceBNe, Int.reduceLT, Int.reduceLE, Int.reduceNeg, Int.reduceAdd, Int.reduceSub, Int.reduceMul, Int.reduceGE, Int.reduceGT, Cl.enc, iv, endO]
      refine callV (.tup [(false, [.v (.int .i64 (cntW (lonL xs k b e)))]), (false, [.v (.int .i64 0)])]) (.tuple #[.int .i64 (cntW (lonL xs k b e)), .int .i64 0]) (fun E => rfl) (fun E a w' hs => by
       have := countW_calls w' _ (lonL xs k b e) (by rw [lon_len]; omega) (hA hs rfl)
       rw [hl] at this
       exact this) ?_
      simp (maxSteps := 2000000) only [go_sem, ↓condS, ↓exitS, ↓gateS, ↓runOp, ↓gateD, ↓runD, ↓imp_ft, ↓imp_tf, ↓imp_tt, ↓imp_ff, ↓imp_fn, ↓imp_tn, ↓imp_fy, ↓imp_ty, ↓reduceIte, Nat.reduceLT, Nat.reduceLeDiff, Nat.reduceAdd, Nat.reduceSub, Nat.reduceMul, Nat.reduceEqDiff, reduceCtorEq, Int.reduceToNat, Int.reduceEq, Int.reduceBEq, Int.reduceBNe, Int.reduceLT, Int.reduceLE, Int.reduceNeg, Int.reduceAdd, Int.reduceSub, Int.reduceMul, Int.reduceGE, Int.reduceGT, Cl.enc, iv, endO]
      refine callV (.c (.v (.int .i64 0))) _ (fun E => rfl) (fun E a w' hs => num_calls w' _) ?_
      simp (maxSteps := 2000000) only [go_sem, ↓condS, ↓exitS, ↓gateS, ↓runOp, ↓gateD, ↓runD, ↓imp_ft, ↓imp_tf, ↓imp_tt, ↓imp_ff, ↓imp_fn, ↓imp_tn, ↓imp_fy, ↓imp_ty, ↓reduceIte, Nat.reduceLT, Nat.reduceLeDiff, Nat.reduceAdd, Nat.reduceSub, Nat.reduceMul, Nat.reduceEqDiff, reduceCtorEq, Int.reduceToNat, Int.reduceEq, Int.reduceBEq, Int.reduceBNe, Int.reduceLT, Int.reduceLE, Int.reduceNeg, Int.reduceAdd, Int.reduceSub, Int.reduceMul, Int.reduceGE, Int.reduceGT, Cl.enc, iv, endO]
      refine guardW (.c (.v (.int .i64 0))) _ (fun E => rfl) (fun E a w' hs => num_calls w' _) ?_
      have d3 : decide (cntW (lonL xs k b e) < cntW xs) = false := decide_eq_false (by omega)
      simp (maxSteps := 2000000) only [go_sem, ↓condS, ↓exitS, ↓gateS, ↓runOp, ↓gateD, ↓runD, ↓imp_ft, ↓imp_tf, ↓imp_tt, ↓imp_ff, ↓imp_fn, ↓imp_tn, ↓imp_fy, ↓imp_ty, ↓reduceIte, Nat.reduceLT, Nat.reduceLeDiff, Nat.reduceAdd, Nat.reduceSub, Nat.reduceMul, Nat.reduceEqDiff, reduceCtorEq, Int.reduceToNat, Int.reduceEq, Int.reduceBEq, Int.reduceBNe, Int.reduceLT, Int.reduceLE, Int.reduceNeg, Int.reduceAdd, Int.reduceSub, Int.reduceMul, Int.reduceGE, Int.reduceGT, Cl.enc, iv, endO, d3]
      refine callV (.c (.v (.int .i64 (findE xs)))) _ (fun E => rfl) (fun E a w' hs => num_calls w' _) ?_
      simp (maxSteps := 2000000) only [go_sem, ↓condS, ↓exitS, ↓gateS, ↓runOp, ↓gateD, ↓runD, ↓imp_ft, ↓imp_tf, ↓imp_tt, ↓imp_ff, ↓imp_fn, ↓imp_tn, ↓imp_fy, ↓imp_ty, ↓reduceIte, Nat.reduceLT, Nat.reduceLeDiff, Nat.reduceAdd, Nat.reduceSub, Nat.reduceMul, Nat.reduceEqDiff, reduceCtorEq, Int.reduceToNat, Int.reduceEq, Int.reduceBEq, Int.reduceBNe, Int.reduceLT, Int.reduceLE, Int.reduceNeg, Int.reduceAdd, Int.reduceSub, Int.reduceMul, Int.reduceGE, Int.reduceGT, Cl.enc, iv, endO]
      refine guardW (.c (.v (.int .i64 (chkE (lonL xs k b e) (findL xs))))) _ (fun E => rfl) (fun E a w' hs => check_calls w' _ _ (lonL xs k b e) (findL xs) (by rw [lon_len]; omega) (hA hs rfl) (own_at (d := 0) hs 3 _ rfl rfl)) ?_
      simp (maxSteps := 2000000) only [go_sem, ↓condS, ↓exitS, ↓gateS, ↓runOp, ↓gateD, ↓runD, ↓imp_ft, ↓imp_tf, ↓imp_tt, ↓imp_ff, ↓imp_fn, ↓imp_tn, ↓imp_fy, ↓imp_ty, ↓reduceIte, Nat.reduceLT, Nat.reduceLeDiff, Nat.reduceAdd, Nat.reduceSub, Nat.reduceMul, Nat.reduceEqDiff, reduceCtorEq, Int.reduceToNat, Int.reduceEq, Int.reduceBEq, Int.reduceBNe, Int.reduceLT, Int.reduceLE, Int.reduceNeg, Int.reduceAdd, Int.reduceSub, Int.reduceMul, Int.reduceGE, Int.reduceGT, Cl.enc, iv, endO]
      refine guardW (.c (.v (.int .i64 (chkE (lonL xs k b e) (findL xs))))) _ (fun E => rfl) (fun E a w' hs => num_calls w' _) ?_
      simp (maxSteps := 2000000) only [go_sem, ↓condS, ↓exitS, ↓gateS, ↓runOp, ↓gateD, ↓runD, ↓imp_ft, ↓imp_tf, ↓imp_tt, ↓imp_ff, ↓imp_fn, ↓imp_tn, ↓imp_fy, ↓imp_ty, ↓reduceIte, Nat.reduceLT, Nat.reduceLeDiff, Nat.reduceAdd, Nat.reduceSub, Nat.reduceMul, Nat.reduceEqDiff, reduceCtorEq, Int.reduceToNat, Int.reduceEq, Int.reduceBEq, Int.reduceBNe, Int.reduceLT, Int.reduceLE, Int.reduceNeg, Int.reduceAdd, Int.reduceSub, Int.reduceMul, Int.reduceGE, Int.reduceGT, Cl.enc, iv, endO]
      exact retV fun E => by
       by_cases hq : findE xs = 0
       ·simp [SV.den, SC.den, hq, lon_chk he hq k b e hm]
       ·simp [SV.den, SC.den, hq]
     ·have hm : mayQ (lonL xs k b e) = false := by simpa using hm
      simp only [hm, Bool.not_false]
      simp (maxSteps := 2000000) only [go_sem, ↓condS, ↓exitS, ↓gateS, ↓runOp, ↓gateD, ↓runD, ↓imp_ft, ↓imp_tf, ↓imp_tt, ↓imp_ff, ↓imp_fn, ↓imp_tn, ↓imp_fy, ↓imp_ty, ↓reduceIte, Nat.reduceLT, Nat.reduceLeDiff, Nat.reduceAdd, Nat.reduceSub, Nat.reduceMul, Nat.reduceEqDiff, reduceCtorEq, Int.reduceToNat, Int.reduceEq, Int.reduceBEq, Int.reduceBNe, Int.reduceLT, Int.reduceLE, Int.reduceNeg, Int.reduceAdd, Int.reduceSub, Int.reduceMul, Int.reduceGE, Int.reduceGT, Cl.enc, iv, endO, ir10_64]
      exact retV fun E => by simp [SV.den, SC.den]
   ·have d2 : ((xs.getD k cl0).fin != -1) = true := by simpa using hf
    rw [d2]
    simp (maxSteps := 2000000) only [go_sem, ↓condS, ↓exitS, ↓gateS, ↓runOp, ↓gateD, ↓runD, ↓imp_ft, ↓imp_tf, ↓imp_tt, ↓imp_ff, ↓imp_fn, ↓imp_tn, ↓imp_fy, ↓imp_ty, ↓reduceIte, Nat.reduceLT, Nat.reduceLeDiff, Nat.reduceAdd, Nat.reduceSub, Nat.reduceMul, Nat.reduceEqDiff, reduceCtorEq, Int.reduceToNat, Int.reduceEq, Int.reduceBEq, Int.reduceBNe, Int.reduceLT, Int.reduceLE, Int.reduceNeg, Int.reduceAdd, Int.reduceSub, Int.reduceMul, Int.reduceGE, Int.reduceGT, Cl.enc, iv, endO, ir10_50, setAt]
    refine And.intro ⟨h1, Nat.le_refl _⟩ (And.intro h1 (And.intro ⟨h1, Nat.le_refl _⟩ (And.intro h1 ?_)))
    rw [set_set, set_cl h1 ⟨(xs.getD k cl0).thread, (xs.getD k cl0).op, (xs.getD k cl0).arg, (xs.getD k cl0).data, if b < (xs.getD k cl0).beg then b else (xs.getD k cl0).beg, if e > (xs.getD k cl0).fin then e else (xs.getD k cl0).fin, (xs.getD k cl0).point, (xs.getD k cl0).kind, (xs.getD k cl0).val⟩, show xs.set k ⟨(xs.getD k cl0).thread, (xs.getD k cl0).op, (xs.getD k cl0).arg, (xs.getD k cl0).data, if b < (xs.getD k cl0).beg then b else (xs.getD k cl0).beg, if e > (xs.getD k cl0).fin then e else (xs.getD k cl0).fin, (xs.getD k cl0).point, (xs.getD k cl0).kind, (xs.getD k cl0).val⟩ = lonL xs k b e from by simp only [lonL, lonC, if_neg hf]; try rfl]
    exact by
     refine callV (.c (.bo (mayQ (lonL xs k b e)))) _ (fun E => rfl) (fun E a w' hs => mayR w' _ _ (by rw [lon_len]; omega) (hA hs rfl)) ?_
     simp (maxSteps := 2000000) only [go_sem, ↓condS, ↓exitS, ↓gateS, ↓runOp, ↓gateD, ↓runD, ↓imp_ft, ↓imp_tf, ↓imp_tt, ↓imp_ff, ↓imp_fn, ↓imp_tn, ↓imp_fy, ↓imp_ty, ↓reduceIte, Nat.reduceLT, Nat.reduceLeDiff, Nat.reduceAdd, Nat.reduceSub, Nat.reduceMul, Nat.reduceEqDiff, reduceCtorEq, Int.reduceToNat, Int.reduceEq, Int.reduceBEq, Int.reduceBNe, Int.reduceLT, Int.reduceLE, Int.reduceNeg, Int.reduceAdd, Int.reduceSub, Int.reduceMul, Int.reduceGE, Int.reduceGT, Cl.enc, iv, endO]
     by_cases hm : mayQ (lonL xs k b e) = true
     ·simp only [hm, Bool.not_true]
      simp (maxSteps := 2000000) only [go_sem, ↓condS, ↓exitS, ↓gateS, ↓runOp, ↓gateD, ↓runD, ↓imp_ft, ↓imp_tf, ↓imp_tt, ↓imp_ff, ↓imp_fn, ↓imp_tn, ↓imp_fy, ↓imp_ty, ↓reduceIte, Nat.reduceLT, Nat.reduceLeDiff, Nat.reduceAdd, Nat.reduceSub, Nat.reduceMul, Nat.reduceEqDiff, reduceCtorEq, Int.reduceToNat, Int.reduceEq, Int.reduceBEq, Int.reduceBNe, Int.reduceLT, Int.reduceLE, Int.reduceNeg, Int.reduceAdd, Int.reduceSub, Int.reduceMul, Int.reduceGE, Int.reduceGT, Cl.enc, iv, endO, ir10_64]
      have hl := lon_ns he k b e hm
      have hcn := lon_count he k b e hm
      refine callN 1 (leT 1 (findL xs).length (findE xs)) (lsO 3 1 eI (findL xs) 0) (fun E a w' hs => find_calls w' _ xs (by omega) (arr_at (d := cl0) hs 0 rfl)) ?_
      simp (maxSteps := 2000000) only [go_sem, ↓condS, ↓exitS, ↓gateS, ↓runOp, ↓gateD, ↓runD, ↓imp_ft, ↓imp_tf, ↓imp_tt, ↓imp_ff, ↓imp_fn, ↓imp_tn, ↓imp_fy, ↓imp_ty, ↓reduceIte, Nat.reduceLT, Nat.reduceLeDiff, Nat.reduceAdd, Nat.reduceSub, Nat.reduceMul, Nat.reduceEqDiff, reduceCtorEq, Int.reduceToNat, Int.reduceEq, Int.reduceBEq, Int.reduceBNe, Int.reduceLT, Int.reduceLE, Int.reduceNeg, Int.reduceAdd, Int.reduceSub, Int.reduceMul, Int.reduceGE, Int.reduceGT, Cl.enc, iv, endO, leT, lsO]
      refine callV (.tup [(false, [.v (.int .i64 (cntW xs))]), (false, [.v (.int .i64 0)])]) (.tuple #[.int .i64 (cntW xs), .int .i64 0]) (fun E => rfl) (fun E a w' hs => by
       have := countW_calls w' _ xs (by omega) (arr_at (d := cl0) hs 0 rfl)
       rw [he] at this
       exact this) ?_
      simp (maxSteps := 2000000) only [go_sem, ↓condS, ↓exitS, ↓gateS, ↓runOp, ↓gateD, ↓runD, ↓imp_ft, ↓imp_tf, ↓imp_tt, ↓imp_ff, ↓imp_fn, ↓imp_tn, ↓imp_fy, ↓imp_ty, ↓reduceIte, Nat.reduceLT, Nat.reduceLeDiff, Nat.reduceAdd, Nat.reduceSub, Nat.reduceMul, Nat.reduceEqDiff, reduceCtorEq, Int.reduceToNat, Int.reduceEq, Int.reduceBEq, Int.reduceBNe, Int.reduceLT, Int.reduceLE, Int.reduceNeg, Int.reduceAdd, Int.reduceSub, Int.reduceMul, Int.reduceGE, Int.reduceGT, Cl.enc, iv, endO]
      refine callV (.tup [(false, [.v (.int .i64 (cntW (lonL xs k b e)))]), (false, [.v (.int .i64 0)])]) (.tuple #[.int .i64 (cntW (lonL xs k b e)), .int .i64 0]) (fun E => rfl) (fun E a w' hs => by
       have := countW_calls w' _ (lonL xs k b e) (by rw [lon_len]; omega) (hA hs rfl)
       rw [hl] at this
       exact this) ?_
      simp (maxSteps := 2000000) only [go_sem, ↓condS, ↓exitS, ↓gateS, ↓runOp, ↓gateD, ↓runD, ↓imp_ft, ↓imp_tf, ↓imp_tt, ↓imp_ff, ↓imp_fn, ↓imp_tn, ↓imp_fy, ↓imp_ty, ↓reduceIte, Nat.reduceLT, Nat.reduceLeDiff, Nat.reduceAdd, Nat.reduceSub, Nat.reduceMul, Nat.reduceEqDiff, reduceCtorEq, Int.reduceToNat, Int.reduceEq, Int.reduceBEq, Int.reduceBNe, Int.reduceLT, Int.reduceLE, Int.reduceNeg, Int.reduceAdd, Int.reduceSub, Int.reduceMul, Int.reduceGE, Int.reduceGT, Cl.enc, iv, endO]
      refine callV (.c (.v (.int .i64 0))) _ (fun E => rfl) (fun E a w' hs => num_calls w' _) ?_
      simp (maxSteps := 2000000) only [go_sem, ↓condS, ↓exitS, ↓gateS, ↓runOp, ↓gateD, ↓runD, ↓imp_ft, ↓imp_tf, ↓imp_tt, ↓imp_ff, ↓imp_fn, ↓imp_tn, ↓imp_fy, ↓imp_ty, ↓reduceIte, Nat.reduceLT, Nat.reduceLeDiff, Nat.reduceAdd, Nat.reduceSub, Nat.reduceMul, Nat.reduceEqDiff, reduceCtorEq, Int.reduceToNat, Int.reduceEq, Int.reduceBEq, Int.reduceBNe, Int.reduceLT, Int.reduceLE, Int.reduceNeg, Int.reduceAdd, Int.reduceSub, Int.reduceMul, Int.reduceGE, Int.reduceGT, Cl.enc, iv, endO]
      refine guardW (.c (.v (.int .i64 0))) _ (fun E => rfl) (fun E a w' hs => num_calls w' _) ?_
      have d3 : decide (cntW (lonL xs k b e) < cntW xs) = false := decide_eq_false (by omega)
      simp (maxSteps := 2000000) only [go_sem, ↓condS, ↓exitS, ↓gateS, ↓runOp, ↓gateD, ↓runD, ↓imp_ft, ↓imp_tf, ↓imp_tt, ↓imp_ff, ↓imp_fn, ↓imp_tn, ↓imp_fy, ↓imp_ty, ↓reduceIte, Nat.reduceLT, Nat.reduceLeDiff, Nat.reduceAdd, Nat.reduceSub, Nat.reduceMul, Nat.reduceEqDiff, reduceCtorEq, Int.reduceToNat, Int.reduceEq, Int.reduceBEq, Int.reduceBNe, Int.reduceLT, Int.reduceLE, Int.reduceNeg, Int.reduceAdd, Int.reduceSub, Int.reduceMul, Int.reduceGE, Int.reduceGT, Cl.enc, iv, endO, d3]
      refine callV (.c (.v (.int .i64 (findE xs)))) _ (fun E => rfl) (fun E a w' hs => num_calls w' _) ?_
      simp (maxSteps := 2000000) only [go_sem, ↓condS, ↓exitS, ↓gateS, ↓runOp, ↓gateD, ↓runD, ↓imp_ft, ↓imp_tf, ↓imp_tt, ↓imp_ff, ↓imp_fn, ↓imp_tn, ↓imp_fy, ↓imp_ty, ↓reduceIte, Nat.reduceLT, Nat.reduceLeDiff, Nat.reduceAdd, Nat.reduceSub, Nat.reduceMul, Nat.reduceEqDiff, reduceCtorEq, Int.reduceToNat, Int.reduceEq, Int.reduceBEq, Int.reduceBNe, Int.reduceLT, Int.reduceLE, Int.reduceNeg, Int.reduceAdd, Int.reduceSub, Int.reduceMul, Int.reduceGE, Int.reduceGT, Cl.enc, iv, endO]
      refine guardW (.c (.v (.int .i64 (chkE (lonL xs k b e) (findL xs))))) _ (fun E => rfl) (fun E a w' hs => check_calls w' _ _ (lonL xs k b e) (findL xs) (by rw [lon_len]; omega) (hA hs rfl) (own_at (d := 0) hs 3 _ rfl rfl)) ?_
      simp (maxSteps := 2000000) only [go_sem, ↓condS, ↓exitS, ↓gateS, ↓runOp, ↓gateD, ↓runD, ↓imp_ft, ↓imp_tf, ↓imp_tt, ↓imp_ff, ↓imp_fn, ↓imp_tn, ↓imp_fy, ↓imp_ty, ↓reduceIte, Nat.reduceLT, Nat.reduceLeDiff, Nat.reduceAdd, Nat.reduceSub, Nat.reduceMul, Nat.reduceEqDiff, reduceCtorEq, Int.reduceToNat, Int.reduceEq, Int.reduceBEq, Int.reduceBNe, Int.reduceLT, Int.reduceLE, Int.reduceNeg, Int.reduceAdd, Int.reduceSub, Int.reduceMul, Int.reduceGE, Int.reduceGT, Cl.enc, iv, endO]
      refine guardW (.c (.v (.int .i64 (chkE (lonL xs k b e) (findL xs))))) _ (fun E => rfl) (fun E a w' hs => num_calls w' _) ?_
      simp (maxSteps := 2000000) only [go_sem, ↓condS, ↓exitS, ↓gateS, ↓runOp, ↓gateD, ↓runD, ↓imp_ft, ↓imp_tf, ↓imp_tt, ↓imp_ff, ↓imp_fn, ↓imp_tn, ↓imp_fy, ↓imp_ty, ↓reduceIte, Nat.reduceLT, Nat.reduceLeDiff, Nat.reduceAdd, Nat.reduceSub, Nat.reduceMul, Nat.reduceEqDiff, reduceCtorEq, Int.reduceToNat, Int.reduceEq, Int.reduceBEq, Int.reduceBNe, Int.reduceLT, Int.reduceLE, Int.reduceNeg, Int.reduceAdd, Int.reduceSub, Int.reduceMul, Int.reduceGE, Int.reduceGT, Cl.enc, iv, endO]
      exact retV fun E => by
       by_cases hq : findE xs = 0
       ·simp [SV.den, SC.den, hq, lon_chk he hq k b e hm]
       ·simp [SV.den, SC.den, hq]
     ·have hm : mayQ (lonL xs k b e) = false := by simpa using hm
      simp only [hm, Bool.not_false]
      simp (maxSteps := 2000000) only [go_sem, ↓condS, ↓exitS, ↓gateS, ↓runOp, ↓gateD, ↓runD, ↓imp_ft, ↓imp_tf, ↓imp_tt, ↓imp_ff, ↓imp_fn, ↓imp_tn, ↓imp_fy, ↓imp_ty, ↓reduceIte, Nat.reduceLT, Nat.reduceLeDiff, Nat.reduceAdd, Nat.reduceSub, Nat.reduceMul, Nat.reduceEqDiff, reduceCtorEq, Int.reduceToNat, Int.reduceEq, Int.reduceBEq, Int.reduceBNe, Int.reduceLT, Int.reduceLE, Int.reduceNeg, Int.reduceAdd, Int.reduceSub, Int.reduceMul, Int.reduceGE, Int.reduceGT, Cl.enc, iv, endO, ir10_64]
      exact retV fun E => by simp [SV.den, SC.den]
  ·have d1 : decide ((k : Int) ≥ (xs.length : Nat)) = true := decide_eq_true (by omega)
   simp (maxSteps := 2000000) only [go_sem, ↓condS, ↓exitS, ↓gateS, ↓runOp, ↓gateD, ↓runD, ↓imp_ft, ↓imp_tf, ↓imp_tt, ↓imp_ff, ↓imp_fn, ↓imp_tn, ↓imp_fy, ↓imp_ty, ↓reduceIte, Nat.reduceLT, Nat.reduceLeDiff, Nat.reduceAdd, Nat.reduceSub, Nat.reduceMul, Nat.reduceEqDiff, reduceCtorEq, Int.reduceToNat, Int.reduceEq, Int.reduceBEq, Int.reduceBNe, Int.reduceLT, Int.reduceLE, Int.reduceNeg, Int.reduceAdd, Int.reduceSub, Int.reduceMul, Int.reduceGE, Int.reduceGT, Cl.enc, iv, endO, d0, d1, ir10_30]
   exact retV fun E => by simp [SV.den, SC.den]
 ·refine callV (.c (.v (.bool false))) (.bool false) (fun E => rfl) (fun E a w' hs => by
   have := searched_calls w' _ xs (by omega) (arr_at (d := cl0) hs 0 rfl)
   rw [decide_eq_false he] at this
   exact this) ?_
  simp (maxSteps := 2000000) only [go_sem, ↓condS, ↓exitS, ↓gateS, ↓runOp, ↓gateD, ↓runD, ↓imp_ft, ↓imp_tf, ↓imp_tt, ↓imp_ff, ↓imp_fn, ↓imp_tn, ↓imp_fy, ↓imp_ty, ↓reduceIte, Nat.reduceLT, Nat.reduceLeDiff, Nat.reduceAdd, Nat.reduceSub, Nat.reduceMul, Nat.reduceEqDiff, reduceCtorEq, Int.reduceToNat, Int.reduceEq, Int.reduceBEq, Int.reduceBNe, Int.reduceLT, Int.reduceLE, Int.reduceNeg, Int.reduceAdd, Int.reduceSub, Int.reduceMul, Int.reduceGE, Int.reduceGT, Cl.enc, iv, endO, ir10_30]
  exact retV fun E => by simp [SV.den, SC.den]
end Go.Proofs.Ytkjeedlkkpgopaa.Z
namespace Go.Proofs.Ytkjeedlkkpgopaa.Z
open Go Go.RowKit Go.ChangeShapes Go.WideShapes Go.ChangeAt
theorem own : ownKnob Try.prog.godebug = none := by kernel_rfl
theorem laidOut : laidOutB Try.prog = true := by kernel_rfl
theorem leavesCl : leavesIn Try.prog 9 53 = some [3, 48, 3, 3, 3, 3, 3, 49, 3] := by kernel_rfl
theorem cellsCl : Try.prog.cellsOf 53 = 9 := by kernel_rfl
theorem bytesCl : Try.prog.bytesOf 53 = 72 := by kernel_rfl
section
variable {H : Type} {enc : TypeId × Value → H} {w : World}
theorem leavesCs : leavesIn Try.prog 9 22 = some [22] := by kernel_rfl
theorem reach_len {α : Type} {x : List α} {s : Nat} {ws : List Nat} (hr : ∀ k ∈ ws, k ≤ reachBytes) (h : x = [] ∨ ∃ k ∈ ws, x.length * s ≤ k) : x.length * s ≤ 140737488351232 := by
 rcases h with rfl | ⟨k, hk, h⟩
 ·simp
 ·have := hr k hk
  unfold reachBytes at this
  omega
theorem lit_rng {n : Int} (h : (Lit.int .i64 n).wf = true) : -9223372036854775808 ≤ n ∧ n ≤ 9223372036854775807 := by
 simp [Lit.wf, IntKind.min, IntKind.max, IntKind.signed, IntKind.bits] at h
 omega
def ClR (c : Cl) : Prop := c.beg ≤ 9223372036854775807 ∧ c.fin ≤ 9223372036854775807 ∧ c.point ≤ 9223372036854775807
theorem leaf_calls {b : Nat} {ws : List Nat} {c : Value} (h : LeafAt enc Try.prog w 0 (fun _ => true) true b ws 22 c) :
  ∃ xs : List Cl, Arr w Cl.enc 9 c xs ∧ (∀ c ∈ xs, ClR c) ∧ xs.length + 1 ≤ b ∧ (xs = [] ∨ ∃ k ∈ ws, xs.length * 72 ≤ k) := by
 obtain ⟨xs, h1, h4, h2, h3⟩ := h.slice (α := Cl) Try.underlying22 (by decide) cellsCl Cl.enc ClR (fun m cs y hl ht => by
  match cs, hl with
  | [c0, c1, c2, c3, c4, c5, c6, c7, c8], _ =>
   have L := leaf_of 9 _ _ leavesCl m _ _ ht
   obtain ⟨x0, rfl, _⟩ := (L 0 _ c0 rfl rfl).int Try.underlying3
   obtain ⟨x1, rfl, _⟩ := (L 1 _ c1 rfl rfl).int Try.underlying48
   obtain ⟨x2, rfl, _⟩ := (L 2 _ c2 rfl rfl).int Try.underlying3
   obtain ⟨x3, rfl, _⟩ := (L 3 _ c3 rfl rfl).int Try.underlying3
   obtain ⟨x4, rfl, r4⟩ := (L 4 _ c4 rfl rfl).int Try.underlying3
   obtain ⟨x5, rfl, r5⟩ := (L 5 _ c5 rfl rfl).int Try.underlying3
   obtain ⟨x6, rfl, r6⟩ := (L 6 _ c6 rfl rfl).int Try.underlying3
   obtain ⟨x7, rfl, _⟩ := (L 7 _ c7 rfl rfl).int Try.underlying49
   obtain ⟨x8, rfl, _⟩ := (L 8 _ c8 rfl rfl).int Try.underlying3
   exact ⟨⟨x0, x1, x2, x3, x4, x5, x6, x7, x8⟩, rfl, (lit_rng r4).2, (lit_rng r5).2, (lit_rng r6).2⟩)
 rw [bytesCl] at h3
 exact ⟨xs, h1, h4, h2, h3⟩
set_option maxRecDepth 100000 in
theorem open_callsR {base : Nat} {v : Value} {d : DataW H} {p : List MemPlace} (hv : Value.okWide Try.prog w .any base 22 v) (h : DataW.Trod enc Try.prog w 0 (fun _ => true) true 22 v d p) :
  ∃ xs, Arr w Cl.enc 9 v xs ∧ (∀ c ∈ xs, ClR c) ∧ ((∀ k ∈ d.weights Try.prog 22, k ≤ reachBytes) → xs.length * 72 ≤ 140737488351232) := by
 obtain ⟨ba, len, cap, rfl⟩ := okWide_slice Try.underlying22 hv
 obtain ⟨fuel, hf⟩ := h
 obtain ⟨xs, h1, h4, _, h2⟩ := leaf_calls (leaf_of 9 _ _ leavesCs fuel _ _ hf 0 22 _ rfl rfl)
 exact ⟨xs, h1, h4, fun hr => reach_len hr h2⟩
end
end Go.Proofs.Ytkjeedlkkpgopaa.Z
