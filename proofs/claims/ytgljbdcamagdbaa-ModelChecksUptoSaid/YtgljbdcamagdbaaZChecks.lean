/- ModelChecks: the walk. No statement of the program. -/
import Derived.Test.YtgljbdcamagdbaaZRight
-- bundled -- short draws -- cl
namespace Go.Proofs.Ytgljbdcamagdbaa.Z
open Go Go.RowKit
set_option linter.unusedSimpArgs false
set_option linter.unusedVariables false
structure Mv where
  thread : Int
  op : Int
  arg : Int
  data : Int
def Mv.enc (c : Mv) : List Value := [iv c.thread, iv c.op, iv c.arg, iv c.data]
theorem mv_ok : EncT Mv.enc 4 := ⟨fun _ => rfl, fun x u hu => by simp [Mv.enc, iv] at hu; rcases hu with rfl | rfl | rfl | rfl <;> rfl⟩
def mv0 : Mv := ⟨0, 0, 0, 0⟩
theorem doM_kind (m : MC) (op arg data : Int) : (doM m op arg data).2.1 ≠ 0 ∧ (doM m op arg data).2.1 ≠ 4 := by
  unfold doM doCell doStack doQueue doSet doTable
  (repeat' split) <;> simp
theorem allow_self (m : MC) (t op arg data b f p : Int) : allowM m ⟨t, op, arg, data, b, f, p, (doM m op arg data).2.1, (doM m op arg data).2.2⟩ = ((doM m op arg data).1, true) := by
  obtain ⟨h1, h2⟩ := doM_kind m op arg data
  unfold allowM
  rw [if_neg h1, if_neg h2, if_pos ⟨rfl, rfl⟩]
theorem allow_other {m : MC} {t op arg data b f p k v : Int} (h0 : k ≠ 0) (h4 : k ≠ 4) (h : ¬ (k = (doM m op arg data).2.1 ∧ v = (doM m op arg data).2.2)) : allowM m ⟨t, op, arg, data, b, f, p, k, v⟩ = (mc0, false) := by
  unfold allowM
  rw [if_neg h0, if_neg h4, if_neg h]
theorem playM_snoc {c : Cl} {m2 : MC} : ∀ {cs : List Cl} {m m' : MC} {i : Nat}, playM m i cs = (m', -1) → allowM m' c = (m2, true) → playM m i (cs ++ [c]) = (m2, -1)
  | [], m, m', i, h, hc => by
    simp only [playM, Prod.mk.injEq, and_true] at h
    subst h
    simp [playM, hc]
  | x :: cs, m, m', i, h, hc => by
    simp only [playM, List.cons_append] at h ⊢
    split at h
    · next hx => rw [if_pos hx]; exact playM_snoc h hc
    · simp only [Prod.mk.injEq] at h
      omega
/-- moves made so far -/
structure Chk (m0 : MC) (n N : Nat) where
  k : Nat
  m : MC
  cs : List Cl
  hk : k ≤ n
  len : cs.length = k
  may : mayB m = true
  up : m.upto (N + k)
  ops : ∀ j, j < cs.length → objOf (cs.getD j cl0).op ≠ 0
  eq : playM m0 0 cs = (m, -1)
def ir15 : IR := (.seq (.ops [⟨(some 3), (.box 29 (.t 0)), none⟩, ⟨(some 5), (.box 42 (.t 2)), none⟩, ⟨(some 6), (.mv (.k (.c (.v (.bool false))))), none⟩]) (.kill [0, 2, 4, 6, 7, 8, 9, 10, 11] (.seq (.ops [⟨(some 22), (.ld true 5 (.t 3)), none⟩, ⟨(some 23), (.call 28 [(.t 22)]), none⟩, ⟨none, (.st 5 (.t 3) (.t 23)), none⟩]) (.kill [22, 23] (.seq (.ops [⟨(some 7), (.mv (.k (.c (.v (.slice none 0 0))))), none⟩]) (.seq (.ops [⟨(some 24), (.ld true 5 (.t 3)), none⟩, ⟨(some 8), (.new 29 [(.v (.slice none 0 0)), (.v (.slice none 0 0)), (.v (.slice none 0 0)), (.v (.slice none 0 0)), (.v (.slice none 0 0))]), none⟩, ⟨none, (.st 5 (.t 8) (.t 24)), none⟩]) (.kill [24] (.seq (.seq (.ops [⟨(some 25), (.mv (.t 1)), none⟩, ⟨(some 26), (.len (.t 25)), none⟩, ⟨(some 27), (.mv (.k (.c (.v (.int .i64 0))))), none⟩]) (.kill [1] (.blk 0 (.loop (.seq (.ops [⟨(some 28), (.bin .lss (.t 27) (.t 26)), none⟩]) (.kill [6, 10, 11, 12, 13, 14, 15, 16, 17, 18, 29, 30, 31, 32, 33, 34, 35, 36, 37, 38, 39, 40, 41, 42, 43, 44, 45, 46, 47, 48, 49, 50, 51, 52, 53, 54, 55, 56, 57, 58, 59, 60, 61, 62, 63, 64, 65, 66, 67, 68, 69, 70, 71, 72, 73, 74, 75, 76, 77, 78, 79, 80, 81, 82, 83, 84, 85, 86, 87, 88, 89, 90, 91, 92, 93, 94, 95, 96, 97, 98, 99, 100, 101, 102, 103, 104, 105, 106, 107] (.seq (.cond (.t 28) .skip (.exit 0)) (.kill [28] (.seq (.blk 1 (.seq (.ops [⟨(some 29), (.ia 4 (.t 25) (.t 27)), none⟩, ⟨(some 30), (.ld true 4 (.t 29)), none⟩, ⟨(some 10), (.new 62 [(.v (.int .i64 0)), (.v (.int .i64 0)), (.v (.int .i64 0)), (.v (.int .i64 0))]), none⟩, ⟨none, (.st 4 (.t 10) (.t 30)), none⟩]) (.kill [29, 30] (.seq (.ops [⟨(some 31), (.fa 1 (.t 10)), none⟩, ⟨(some 32), (.ld false 1 (.t 31)), none⟩, ⟨(some 33), (.call 31 [(.t 32)]), none⟩, ⟨(some 11), (.mv (.t 33)), none⟩]) (.kill [31, 32, 33] (.seq (.ops [⟨(some 35), (.ld true 5 (.t 8)), none⟩, ⟨(some 36), (.mv (.t 11)), none⟩, ⟨(some 37), (.fa 2 (.t 10)), none⟩, ⟨(some 38), (.ld false 1 (.t 37)), none⟩, ⟨(some 39), (.fa 3 (.t 10)), none⟩, ⟨(some 40), (.ld false 1 (.t 39)), none⟩, ⟨(some 41), (.call 25 [(.t 35), (.t 36), (.t 38), (.t 40)]), none⟩, ⟨(some 34), (.mv (.t 41)), none⟩, ⟨(some 42), (.ext 0 (.t 34)), none⟩, ⟨(some 43), (.ext 1 (.t 34)), none⟩, ⟨(some 44), (.ext 2 (.t 34)), none⟩, ⟨(some 12), (.new 29 [(.v (.slice none 0 0)), (.v (.slice none 0 0)), (.v (.slice none 0 0)), (.v (.slice none 0 0)), (.v (.slice none 0 0))]), none⟩, ⟨(some 13), (.new 42 [(.v (.int .i64 0)), (.v (.int .i64 0))]), none⟩, ⟨none, (.st 5 (.t 12) (.t 42)), none⟩, ⟨none, (.st 2 (.t 13) (.t 43)), none⟩, ⟨(some 14), (.mv (.t 44)), none⟩]) (.kill [34, 35, 36, 37, 38, 39, 40, 41, 42, 43, 44] (.seq (.seq (.ops [⟨(some 45), (.mv (.t 14)), none⟩, ⟨(some 46), (.bin .neq (.t 45) (.k (.c (.v (.int .i64 0))))), none⟩]) (.kill [14, 45] (.cond (.t 46) (.seq (.ops [⟨(some 6), (.mv (.k (.c (.v (.bool false))))), none⟩]) (.kill [3, 5, 7, 8, 10, 11, 12, 13, 25, 26, 27, 46] .ret)) .skip))) (.kill [6, 46] (.seq (.ops [⟨(some 47), (.mv (.t 11)), none⟩, ⟨(some 48), (.fa 2 (.t 10)), none⟩, ⟨(some 49), (.ld false 1 (.t 48)), none⟩, ⟨(some 50), (.fa 3 (.t 10)), none⟩, ⟨(some 51), (.ld false 1 (.t 50)), none⟩, ⟨(some 52), (.ld true 2 (.t 13)), none⟩, ⟨(some 53), (.build [(.v (.int .i64 0)), (.v (.int .i64 0)), (.v (.int .i64 0)), (.v (.int .i64 0)), (.v (.int .i64 0)), (.v (.int .i64 0)), (.v (.int .i64 0)), (.v (.int .i64 0)), (.v (.int .i64 0))] [(1, (1, (.t 47))), (2, (1, (.t 49))), (3, (1, (.t 51))), (7, (2, (.t 52)))]), none⟩, ⟨(some 15), (.new 55 [(.v (.int .i64 0)), (.v (.int .i64 0)), (.v (.int .i64 0)), (.v (.int .i64 0)), (.v (.int .i64 0)), (.v (.int .i64 0)), (.v (.int .i64 0)), (.v (.int .i64 0)), (.v (.int .i64 0))]), none⟩, ⟨none, (.st 9 (.t 15) (.t 53)), none⟩]) (.kill [10, 11, 47, 48, 49, 50, 51, 52, 53] (.seq (.ops [⟨(some 55), (.ld true 5 (.t 8)), none⟩, ⟨(some 56), (.ld true 9 (.t 15)), none⟩, ⟨(some 57), (.call 29 [(.t 55), (.t 56)]), none⟩, ⟨(some 54), (.mv (.t 57)), none⟩, ⟨(some 58), (.ext 0 (.t 54)), none⟩, ⟨(some 59), (.ext 1 (.t 54)), none⟩, ⟨(some 60), (.ext 2 (.t 54)), none⟩, ⟨(some 16), (.new 29 [(.v (.slice none 0 0)), (.v (.slice none 0 0)), (.v (.slice none 0 0)), (.v (.slice none 0 0)), (.v (.slice none 0 0))]), none⟩, ⟨none, (.st 5 (.t 16) (.t 58)), none⟩, ⟨(some 17), (.mv (.t 59)), none⟩, ⟨(some 18), (.mv (.t 60)), none⟩]) (.kill [54, 55, 56, 57, 58, 59, 60] (.seq (.seq (.ops [⟨(some 61), (.mv (.t 18)), none⟩, ⟨(some 62), (.bin .neq (.t 61) (.k (.c (.v (.int .i64 0))))), none⟩, ⟨(some 63), (.mv (.t 62)), none⟩, ⟨(some 64), (.mv (.t 17)), (some (63, false))⟩, ⟨(some 65), (.un .not (.t 64)), (some (63, false))⟩, ⟨(some 66), (.pick (.t 63) (.k (.c (.v (.bool true)))) (.t 65)), none⟩, ⟨(some 67), (.mv (.t 66)), none⟩, ⟨(some 68), (.ld true 5 (.t 16)), (some (67, false))⟩, ⟨(some 69), (.ld true 5 (.t 12)), (some (67, false))⟩, ⟨(some 70), (.call 19 [(.t 68), (.t 69)]), (some (67, false))⟩, ⟨(some 71), (.un .not (.t 70)), (some (67, false))⟩, ⟨(some 72), (.pick (.t 67) (.k (.c (.v (.bool true)))) (.t 71)), none⟩]) (.kill [16, 17, 18, 61, 62, 63, 64, 65, 66, 67, 68, 69, 70, 71] (.cond (.t 72) (.seq (.ops [⟨(some 6), (.mv (.k (.c (.v (.bool false))))), none⟩]) (.kill [3, 5, 7, 8, 12, 13, 15, 25, 26, 27, 72] .ret)) .skip))) (.kill [6, 72] (.seq (.seq (.ops [⟨(some 73), (.ld true 2 (.t 5)), none⟩, ⟨(some 74), (.ld true 2 (.t 13)), none⟩, ⟨(some 75), (.eqa true [true, true] (.t 73) (.t 74)), none⟩, ⟨(some 76), (.mv (.t 75)), none⟩, ⟨(some 77), (.fa 0 (.t 5)), (some (76, true))⟩, ⟨(some 78), (.ld false 1 (.t 77)), (some (76, true))⟩, ⟨(some 79), (.bin .neq (.t 78) (.k (.c (.v (.int .i64 0))))), (some (76, true))⟩, ⟨(some 80), (.pick (.t 76) (.t 79) (.k (.c (.v (.bool false))))), none⟩, ⟨(some 81), (.mv (.t 80)), none⟩, ⟨(some 82), (.fa 0 (.t 5)), (some (81, true))⟩, ⟨(some 83), (.ld false 1 (.t 82)), (some (81, true))⟩, ⟨(some 84), (.bin .neq (.t 83) (.k (.c (.v (.int .i64 4))))), (some (81, true))⟩, ⟨(some 85), (.pick (.t 81) (.t 84) (.k (.c (.v (.bool false))))), none⟩]) (.kill [73, 74, 75, 76, 77, 78, 79, 80, 81, 82, 83, 84] (.cond (.t 85) (.seq (.ops [⟨(some 86), (.ld true 2 (.t 5)), none⟩, ⟨(some 87), (.fa 7 (.t 15)), none⟩, ⟨none, (.st 2 (.t 87) (.t 86)), none⟩]) (.kill [85, 86, 87] (.seq (.ops [⟨(some 89), (.ld true 5 (.t 8)), none⟩, ⟨(some 90), (.ld true 9 (.t 15)), none⟩, ⟨(some 91), (.call 29 [(.t 89), (.t 90)]), none⟩, ⟨(some 88), (.mv (.t 91)), none⟩, ⟨(some 92), (.ext 0 (.t 88)), none⟩, ⟨(some 93), (.ext 1 (.t 88)), none⟩, ⟨(some 94), (.ext 2 (.t 88)), none⟩, ⟨(some 17), (.mv (.t 93)), none⟩, ⟨(some 18), (.mv (.t 94)), none⟩]) (.kill [88, 89, 90, 91, 92, 93, 94] (.seq (.seq (.ops [⟨(some 95), (.mv (.t 18)), none⟩, ⟨(some 96), (.bin .neq (.t 95) (.k (.c (.v (.int .i64 0))))), none⟩, ⟨(some 97), (.mv (.t 96)), none⟩, ⟨(some 98), (.mv (.t 17)), (some (97, false))⟩, ⟨(some 99), (.pick (.t 97) (.k (.c (.v (.bool true)))) (.t 98)), none⟩]) (.kill [17, 18, 95, 96, 97, 98] (.cond (.t 99) (.seq (.ops [⟨(some 6), (.mv (.k (.c (.v (.bool false))))), none⟩]) (.kill [3, 5, 7, 8, 12, 13, 15, 25, 26, 27, 99] .ret)) .skip))) (.kill [6, 99] (.ops [⟨(some 100), (.ld true 2 (.t 13)), none⟩, ⟨(some 101), (.fa 7 (.t 15)), none⟩, ⟨none, (.st 2 (.t 101) (.t 100)), none⟩]))))))) .skip))) (.kill [13, 85, 100, 101] (.seq (.ops [⟨(some 102), (.mv (.t 7)), none⟩, ⟨(some 103), (.ld true 9 (.t 15)), none⟩, ⟨(some 104), (.mkSl 55 1 9 [(.v (.int .i64 0)), (.v (.int .i64 0)), (.v (.int .i64 0)), (.v (.int .i64 0)), (.v (.int .i64 0)), (.v (.int .i64 0)), (.v (.int .i64 0)), (.v (.int .i64 0)), (.v (.int .i64 0))] [(0, (9, (.t 103)))]), none⟩, ⟨(some 105), (.app 55 9 72 [(.v (.int .i64 0)), (.v (.int .i64 0)), (.v (.int .i64 0)), (.v (.int .i64 0)), (.v (.int .i64 0)), (.v (.int .i64 0)), (.v (.int .i64 0)), (.v (.int .i64 0)), (.v (.int .i64 0))] (.t 102) (.t 104)), none⟩, ⟨(some 7), (.mv (.t 105)), none⟩]) (.kill [15, 102, 103, 104, 105] (.ops [⟨(some 106), (.ld true 5 (.t 12)), none⟩, ⟨none, (.st 5 (.t 8) (.t 106)), none⟩])))))))))))))))))))) (.kill [6, 10, 11, 12, 13, 14, 15, 16, 17, 18, 29, 30, 31, 32, 33, 34, 35, 36, 37, 38, 39, 40, 41, 42, 43, 44, 45, 46, 47, 48, 49, 50, 51, 52, 53, 54, 55, 56, 57, 58, 59, 60, 61, 62, 63, 64, 65, 66, 67, 68, 69, 70, 71, 72, 73, 74, 75, 76, 77, 78, 79, 80, 81, 82, 83, 84, 85, 86, 87, 88, 89, 90, 91, 92, 93, 94, 95, 96, 97, 98, 99, 100, 101, 102, 103, 104, 105, 106] (.ops [⟨(some 107), (.bin .add (.t 27) (.k (.c (.v (.int .i64 1))))), none⟩, ⟨(some 27), (.mv (.t 107)), none⟩]))))))))))) (.kill [5, 6, 10, 11, 12, 13, 14, 15, 16, 17, 18, 25, 26, 27, 28, 29, 30, 31, 32, 33, 34, 35, 36, 37, 38, 39, 40, 41, 42, 43, 44, 45, 46, 47, 48, 49, 50, 51, 52, 53, 54, 55, 56, 57, 58, 59, 60, 61, 62, 63, 64, 65, 66, 67, 68, 69, 70, 71, 72, 73, 74, 75, 76, 77, 78, 79, 80, 81, 82, 83, 84, 85, 86, 87, 88, 89, 90, 91, 92, 93, 94, 95, 96, 97, 98, 99, 100, 101, 102, 103, 104, 105, 106, 107] (.seq (.ops [⟨(some 109), (.ld true 5 (.t 3)), none⟩, ⟨(some 110), (.mv (.t 7)), none⟩, ⟨(some 111), (.call 32 [(.t 109), (.t 110)]), none⟩, ⟨(some 108), (.mv (.t 111)), none⟩, ⟨(some 112), (.ext 0 (.t 108)), none⟩, ⟨(some 113), (.ext 1 (.t 108)), none⟩, ⟨(some 114), (.ext 2 (.t 108)), none⟩, ⟨(some 19), (.new 29 [(.v (.slice none 0 0)), (.v (.slice none 0 0)), (.v (.slice none 0 0)), (.v (.slice none 0 0)), (.v (.slice none 0 0))]), none⟩, ⟨none, (.st 5 (.t 19) (.t 112)), none⟩, ⟨(some 20), (.mv (.t 113)), none⟩, ⟨(some 21), (.mv (.t 114)), none⟩]) (.kill [3, 7, 108, 109, 110, 111, 112, 113, 114] (.seq (.ops [⟨(some 115), (.mv (.t 21)), none⟩, ⟨(some 116), (.bin .eql (.t 115) (.k (.c (.v (.int .i64 0))))), none⟩, ⟨(some 117), (.mv (.t 116)), none⟩, ⟨(some 118), (.mv (.t 20)), (some (117, true))⟩, ⟨(some 119), (.bin .eql (.t 118) (.k (.c (.v (.int .i64 (-1)))))), (some (117, true))⟩, ⟨(some 120), (.pick (.t 117) (.t 119) (.k (.c (.v (.bool false))))), none⟩, ⟨(some 121), (.mv (.t 120)), none⟩, ⟨(some 122), (.ld true 5 (.t 19)), (some (121, true))⟩, ⟨(some 123), (.ld true 5 (.t 8)), (some (121, true))⟩, ⟨(some 124), (.call 19 [(.t 122), (.t 123)]), (some (121, true))⟩, ⟨(some 125), (.pick (.t 121) (.t 124) (.k (.c (.v (.bool false))))), none⟩, ⟨(some 126), (.mv (.t 125)), none⟩, ⟨(some 127), (.call 26 []), (some (126, true))⟩, ⟨(some 128), (.pick (.t 126) (.t 127) (.k (.c (.v (.bool false))))), none⟩, ⟨(some 6), (.mv (.t 128)), none⟩]) (.kill [8, 19, 20, 21, 115, 116, 117, 118, 119, 120, 121, 122, 123, 124, 125, 126, 127, 128] .ret)))))))))))))
def rs15 : List RS := [(.t 6)]
def nt15 : Nat := 129
set_option maxRecDepth 100000 in
set_option maxHeartbeats 400000 in
theorem checks_walk (w : World) (v v' : Value) (m : MC) (xs : List Mv) (wk wv : Int) (N : Nat) (hc : Cont w v m) (hu : m.upto N) (hN : N ≤ 10000000) (h' : Arr w Mv.enc 4 v' xs) (hx : xs.length ≤ N) : Calls Try.prog 15 #[v, v', .agg #[.int .i64 wk, .int .i64 wv]] w (RetV w (.bool true)) := by
  have hok : MC.okR m := hu.okR (by omega)
  refine enterCL (A := []) (c := ir15) (rs := rs15) (nt := nt15) hc mv0 mv_ok h' [.agg (mcS 0), .c (.xv (5, 0, 0)), .agg [.v (.int .i64 wk), .v (.int .i64 wv)]] _ Try.func15 rfl (by kernel_rfl) (by kernel_rfl) rfl (fun E' h0 h1 => by rw [List.map_cons, h0]; simp [SV.den, SC.den, h1]) (of_decide_eq_true rfl) ?_
  simp (config := { maxSteps := 2000000 }) only [ir15, nt15, rs15, go_sem, ↓condS, ↓exitS, ↓gateS, ↓runOp, ↓gateD, ↓runD, ↓imp_ft, ↓imp_tf, ↓imp_tt, ↓imp_ff, ↓imp_fn, ↓imp_tn, ↓imp_fy, ↓imp_ty, ↓reduceIte, Nat.reduceLT, Nat.reduceLeDiff, Nat.reduceAdd, Nat.reduceSub, Nat.reduceMul, Nat.reduceEqDiff, reduceCtorEq, Int.reduceToNat, Int.reduceEq, Int.reduceBEq, Int.reduceBNe, Int.reduceLT, Int.reduceLE, Int.reduceNeg, Int.reduceAdd, Int.reduceSub, Int.reduceMul, Int.reduceGE, Int.reduceGT, Cl.enc, iv, endO, mcS, mcA, List.cons_append, List.nil_append]
  refine callB 5 cT (mcR (rightZ m)) (fun E a w' hs => right_Z (cont_at hs 0 rfl rfl rfl rfl rfl) (hok.1.le (by decide))) ?_
  have hu0 := rightZ_upto hu
  have hm0 := rightZ_may m
  generalize rightZ m = m0 at hu0 hm0 ⊢
  simp (config := { maxSteps := 2000000 }) only [go_sem, ↓condS, ↓exitS, ↓gateS, ↓runOp, ↓gateD, ↓runD, ↓imp_ft, ↓imp_tf, ↓imp_tt, ↓imp_ff, ↓imp_fn, ↓imp_tn, ↓imp_fy, ↓imp_ty, ↓reduceIte, Nat.reduceLT, Nat.reduceLeDiff, Nat.reduceAdd, Nat.reduceSub, Nat.reduceMul, Nat.reduceEqDiff, reduceCtorEq, Int.reduceToNat, Int.reduceEq, Int.reduceBEq, Int.reduceBNe, Int.reduceLT, Int.reduceLE, Int.reduceNeg, Int.reduceAdd, Int.reduceSub, Int.reduceMul, Int.reduceGE, Int.reduceGT, Cl.enc, iv, endO, cT, mcS, mcR, mcA]
  refine loopI (ι := Chk m0 xs.length N) (fun g => ⟨129, [(3, .c (.ptr (6, 0, 0) 0)), (5, .c (.ptr (7, 0, 0) 0)), (7, .c (.sl (14, 0, 0) 9 0 g.cs.length none)), (8, .c (.ptr (13, 0, 0) 0)), (25, .c (.xv (5, 0, 0))), (26, .c (.v (.int .i64 xs.length))), (27, .c (.v (.int .i64 (g.k : Nat))))],
    [(6, .one (.bk (mcS 8) 29)), (7, .one (.bk [.v (.int .i64 wk), .v (.int .i64 wv)] 42)), (13, .one (.bk (mcS 0) 29)), (14, .one (.ar g.cs.length 9 (ats Cl.enc g.cs cl0) 55))], mcA 0 g.m ++ (5, .one (arrOf Mv.enc 4 xs mv0)) :: mcA 8 m0, [], 15⟩)
    (fun g => xs.length - g.k) ⟨0, m0, [], by omega, rfl, hm0, hu0, fun j hj => absurd hj (Nat.not_lt_zero j), rfl⟩ ?_ ?_
  · simp only [mcS, mcA, List.cons_append, List.nil_append]
    refine le_tr (le_nilown (tmps' := [(3, .c (.ptr (6, 0, 0) 0)), (5, .c (.ptr (7, 0, 0) 0)), (7, .c (.sl (14, 0, 0) 9 0 0 none)), (8, .c (.ptr (13, 0, 0) 0)), (25, .c (.xv (5, 0, 0))), (26, .c (.v (.int .i64 xs.length))), (27, .c (.v (.int .i64 0)))]) 9 55 (ats Cl.enc [] cl0) (by simp [TmpsNil, look]) rfl) ?_
    refine le_ren (fun i => if i < 5 then i + 8 else i) rfl rfl (by simp [TmpsLe, look, SV.ren, SC.ren, SC.renL, ren1L, ren1, idσ, SV.okN, SC.okN, SC.okL, ok1L]) ?_ (by simp [ArrsLe, ArrLeO, atN, look, Fm.get, idσ, arrLe_of, arrLe_0]) rfl
    simp [OwnLe, BlkLeO, atN, look, Fm.get, idσ, BlkLe, SC.renL, SC.ren, SC.okL, SC.okN]
  rintro ⟨k, m', cs, hk, hlen, may, up, ops, eq⟩
  simp (config := { maxSteps := 2000000 }) only [go_sem, ↓condS, ↓exitS, ↓gateS, ↓runOp, ↓gateD, ↓runD, ↓imp_ft, ↓imp_tf, ↓imp_tt, ↓imp_ff, ↓imp_fn, ↓imp_tn, ↓imp_fy, ↓imp_ty, ↓reduceIte, Nat.reduceLT, Nat.reduceLeDiff, Nat.reduceAdd, Nat.reduceSub, Nat.reduceMul, Nat.reduceEqDiff, reduceCtorEq, Int.reduceToNat, Int.reduceEq, Int.reduceBEq, Int.reduceBNe, Int.reduceLT, Int.reduceLE, Int.reduceNeg, Int.reduceAdd, Int.reduceSub, Int.reduceMul, Int.reduceGE, Int.reduceGT, Cl.enc, iv, endO, mcS, mcA, List.cons_append, List.nil_append]
  refine both (fun hlt => ?_) (fun hge => ?_)
  · rw [decide_eq_true_eq] at hlt
    have hlt : k < xs.length := by omega
    have hok' : MC.okR m' := up.okR (by omega)
    generalize hmv : xs.getD k mv0 = mv
    obtain ⟨mt, mo, ma, md⟩ := mv
    simp (config := { maxSteps := 2000000 }) only [go_sem, ↓condS, ↓exitS, ↓gateS, ↓runOp, ↓gateD, ↓runD, ↓imp_ft, ↓imp_tf, ↓imp_tt, ↓imp_ff, ↓imp_fn, ↓imp_tn, ↓imp_fy, ↓imp_ty, ↓reduceIte, Nat.reduceLT, Nat.reduceLeDiff, Nat.reduceAdd, Nat.reduceSub, Nat.reduceMul, Nat.reduceEqDiff, reduceCtorEq, Int.reduceToNat, Int.reduceEq, Int.reduceBEq, Int.reduceBNe, Int.reduceLT, Int.reduceLE, Int.reduceNeg, Int.reduceAdd, Int.reduceSub, Int.reduceMul, Int.reduceGE, Int.reduceGT, Cl.enc, iv, endO, Mv.enc, hmv]
    repeat (with_reducible refine And.intro (by first | (simp only [maxLen]; omega) | omega | decide | (simp; done) | (simp [maxLen]; omega)) ?_)
    refine callV (.c (.v (.int .i64 (pickZ mo)))) _ (fun E => rfl) (fun E a w' hs => pick_Z mo w') ?_
    have hop := pickZ_obj mo
    generalize pickZ mo = op at hop ⊢
    simp (config := { maxSteps := 2000000 }) only [go_sem, ↓condS, ↓exitS, ↓gateS, ↓runOp, ↓gateD, ↓runD, ↓imp_ft, ↓imp_tf, ↓imp_tt, ↓imp_ff, ↓imp_fn, ↓imp_tn, ↓imp_fy, ↓imp_ty, ↓reduceIte, Nat.reduceLT, Nat.reduceLeDiff, Nat.reduceAdd, Nat.reduceSub, Nat.reduceMul, Nat.reduceEqDiff, reduceCtorEq, Int.reduceToNat, Int.reduceEq, Int.reduceBEq, Int.reduceBNe, Int.reduceLT, Int.reduceLE, Int.reduceNeg, Int.reduceAdd, Int.reduceSub, Int.reduceMul, Int.reduceGE, Int.reduceGT, Cl.enc, iv, endO, Mv.enc, hmv]
    repeat (with_reducible refine And.intro (by first | (simp only [maxLen]; omega) | omega | decide | (simp; done) | (simp [maxLen]; omega)) ?_)
    refine callB 5 (d3T (doM m' op ma md) 0) (mcR (doM m' op ma md).1) (fun E a w' hs => do_Z op ma md (cont_at hs 0 rfl rfl rfl rfl rfl) hok'.1 may hop) ?_
    simp (config := { maxSteps := 2000000 }) only [go_sem, ↓condS, ↓exitS, ↓gateS, ↓runOp, ↓gateD, ↓runD, ↓imp_ft, ↓imp_tf, ↓imp_tt, ↓imp_ff, ↓imp_fn, ↓imp_tn, ↓imp_fy, ↓imp_ty, ↓reduceIte, Nat.reduceLT, Nat.reduceLeDiff, Nat.reduceAdd, Nat.reduceSub, Nat.reduceMul, Nat.reduceEqDiff, reduceCtorEq, Int.reduceToNat, Int.reduceEq, Int.reduceBEq, Int.reduceBNe, Int.reduceLT, Int.reduceLE, Int.reduceNeg, Int.reduceAdd, Int.reduceSub, Int.reduceMul, Int.reduceGE, Int.reduceGT, Cl.enc, iv, endO, d3T, mcS, mcR, mcA]
    have hal := allow_self m' 0 op ma md 0 0 0
    have hup := doM_upto (op := op) (arg := ma) (data := md) up
    have hmy := doM_may (op := op) (arg := ma) (data := md) may
    have hot : wk ≠ 0 → wk ≠ 4 → ¬ (wk = (doM m' op ma md).2.1 ∧ wv = (doM m' op ma md).2.2) → allowM m' ⟨0, op, ma, md, 0, 0, 0, wk, wv⟩ = (mc0, false) := fun h1 h2 h3 => allow_other h1 h2 h3
    generalize doM m' op ma md = d at hal hup hmy hot ⊢
    obtain ⟨m2, ak, av⟩ := d
    simp only at hal hup hmy hot
    refine callB 5 (alT (m2, true)) (mcR m2) (fun E a w' hs => by
      have := al_Z (w := w') ⟨0, op, ma, md, 0, 0, 0, ak, av⟩ (cont_at hs 0 rfl rfl rfl rfl rfl) hok' may hop
      rw [hal] at this
      exact this) ?_
    simp (config := { maxSteps := 2000000 }) only [go_sem, ↓condS, ↓exitS, ↓gateS, ↓runOp, ↓gateD, ↓runD, ↓imp_ft, ↓imp_tf, ↓imp_tt, ↓imp_ff, ↓imp_fn, ↓imp_tn, ↓imp_fy, ↓imp_ty, ↓reduceIte, Nat.reduceLT, Nat.reduceLeDiff, Nat.reduceAdd, Nat.reduceSub, Nat.reduceMul, Nat.reduceEqDiff, reduceCtorEq, Int.reduceToNat, Int.reduceEq, Int.reduceBEq, Int.reduceBNe, Int.reduceLT, Int.reduceLE, Int.reduceNeg, Int.reduceAdd, Int.reduceSub, Int.reduceMul, Int.reduceGE, Int.reduceGT, Cl.enc, iv, endO, alT, mcS, mcR, mcA, forkS]
    refine guardW (.c (.v (.bool true))) (.bool true) (fun E => rfl) (fun E a w' hs => ?_) ?_
    · have := same_Z (w := w') (cont_at hs 24 rfl rfl rfl rfl rfl) (cont_at hs 16 rfl rfl rfl rfl rfl) (m := m2) (m' := m2)
      rw [decide_eq_true rfl] at this
      exact this
    simp (config := { maxSteps := 2000000 }) only [go_sem, ↓condS, ↓exitS, ↓gateS, ↓runOp, ↓gateD, ↓runD, ↓imp_ft, ↓imp_tf, ↓imp_tt, ↓imp_ff, ↓imp_fn, ↓imp_tn, ↓imp_fy, ↓imp_ty, ↓reduceIte, Nat.reduceLT, Nat.reduceLeDiff, Nat.reduceAdd, Nat.reduceSub, Nat.reduceMul, Nat.reduceEqDiff, reduceCtorEq, Int.reduceToNat, Int.reduceEq, Int.reduceBEq, Int.reduceBNe, Int.reduceLT, Int.reduceLE, Int.reduceNeg, Int.reduceAdd, Int.reduceSub, Int.reduceMul, Int.reduceGE, Int.reduceGT, Cl.enc, iv, endO]
    have hops' : ∀ j, j < (cs ++ [(⟨0, op, ma, md, 0, 0, 0, ak, av⟩ : Cl)]).length → objOf ((cs ++ [(⟨0, op, ma, md, 0, 0, 0, ak, av⟩ : Cl)]).getD j cl0).op ≠ 0 := fun j hj => by
      by_cases e : j < cs.length
      · have := ops j e
        rwa [List.getD_eq_getElem?_getD, List.getElem?_append_left e, ← List.getD_eq_getElem?_getD]
      · have e2 : j = cs.length := by simp at hj; omega
        subst e2
        rw [List.getD_eq_getElem?_getD, List.getElem?_append_right (Nat.le_refl _), Nat.sub_self]
        exact hop
    refine both (fun hw => ?_) (fun hw => ?_)
    · simp only [b_decR, b_decL, bt_ite, bf_ite, bt_dec, bf_dec, bt_int, bf_int, bt_nint, bf_nint, bt_bool, bf_bool, bt_nbool, bf_nbool, bt_not, bf_not, bt_and, bf_and, bt_or, bf_or, Bool.false_eq_true, Bool.true_eq_false, Bool.not_eq_true, Bool.not_eq_false, reduceCtorEq, false_iff, true_iff, iff_false, iff_true, and_true, true_and, and_false, false_and, or_true, true_or, or_false, false_or, not_true_eq_false, not_false_eq_true, ne_eq] at hw
      refine callB 5 (alT (mc0, false)) (mcR mc0) (fun E a w' hs => by
        have := al_Z (w := w') ⟨0, op, ma, md, 0, 0, 0, wk, wv⟩ (cont_at hs 0 rfl rfl rfl rfl rfl) hok' may hop
        rw [hot (by omega) (by omega) (by omega)] at this
        exact this) ?_
      simp (config := { maxSteps := 2000000 }) only [go_sem, ↓condS, ↓exitS, ↓gateS, ↓runOp, ↓gateD, ↓runD, ↓imp_ft, ↓imp_tf, ↓imp_tt, ↓imp_ff, ↓imp_fn, ↓imp_tn, ↓imp_fy, ↓imp_ty, ↓reduceIte, Nat.reduceLT, Nat.reduceLeDiff, Nat.reduceAdd, Nat.reduceSub, Nat.reduceMul, Nat.reduceEqDiff, reduceCtorEq, Int.reduceToNat, Int.reduceEq, Int.reduceBEq, Int.reduceBNe, Int.reduceLT, Int.reduceLE, Int.reduceNeg, Int.reduceAdd, Int.reduceSub, Int.reduceMul, Int.reduceGE, Int.reduceGT, Cl.enc, iv, endO, alT, mcS, mcR, mcA, forkS]
      repeat (with_reducible refine And.intro (by first | (simp only [maxLen]; omega) | omega | decide | (simp; done) | (simp [maxLen]; omega)) ?_)
      rw [wr_succ (by omega)]
      refine backI ⟨k + 1, m2, cs ++ [⟨0, op, ma, md, 0, 0, 0, ak, av⟩], hlt, by simp [hlen], hmy, by rw [show N + (k + 1) = N + k + 1 by omega]; exact hup, hops', playM_snoc eq hal⟩ (by simp only; omega) ?_
      simp only [mcS, mcA, List.cons_append, List.nil_append]
      refine le_ren (fun i => if i < 5 then i + 16 else if i = 14 then 36 else i) rfl rfl (by simp [TmpsLe, look, SV.ren, SC.ren, SC.renL, ren1L, ren1, idσ, SV.okN, SC.okN, SC.okL, ok1L]) ⟨⟨of_decide_eq_true rfl, (by simp [BlkLeO, atN, look, Fm.get, idσ, BlkLe, SC.renL, SC.ren, SC.okL, SC.okN])⟩, ⟨of_decide_eq_true rfl, (by simp [BlkLeO, atN, look, Fm.get, idσ, BlkLe, SC.renL, SC.ren, SC.okL, SC.okN])⟩, ⟨of_decide_eq_true rfl, (by simp [BlkLeO, atN, look, Fm.get, idσ, BlkLe, SC.renL, SC.ren, SC.okL, SC.okN])⟩, ⟨of_decide_eq_true rfl, arLe_of (by simp) (ats_push rfl rfl (fun e he => rfl) rfl)⟩, trivial⟩ (by simp [ArrsLe, ArrLeO, atN, look, Fm.get, idσ, arrLe_of, arrLe_0]) rfl
      
    · repeat (with_reducible refine And.intro (by first | (simp only [maxLen]; omega) | omega | decide | (simp; done) | (simp [maxLen]; omega)) ?_)
      rw [wr_succ (by omega)]
      refine backI ⟨k + 1, m2, cs ++ [⟨0, op, ma, md, 0, 0, 0, ak, av⟩], hlt, by simp [hlen], hmy, by rw [show N + (k + 1) = N + k + 1 by omega]; exact hup, hops', playM_snoc eq hal⟩ (by simp only; omega) ?_
      simp only [mcS, mcA, List.cons_append, List.nil_append]
      refine le_ren (fun i => if i < 5 then i + 16 else if i = 14 then 31 else i) rfl rfl (by simp [TmpsLe, look, SV.ren, SC.ren, SC.renL, ren1L, ren1, idσ, SV.okN, SC.okN, SC.okL, ok1L]) ⟨⟨of_decide_eq_true rfl, (by simp [BlkLeO, atN, look, Fm.get, idσ, BlkLe, SC.renL, SC.ren, SC.okL, SC.okN])⟩, ⟨of_decide_eq_true rfl, (by simp [BlkLeO, atN, look, Fm.get, idσ, BlkLe, SC.renL, SC.ren, SC.okL, SC.okN])⟩, ⟨of_decide_eq_true rfl, (by simp [BlkLeO, atN, look, Fm.get, idσ, BlkLe, SC.renL, SC.ren, SC.okL, SC.okN])⟩, ⟨of_decide_eq_true rfl, arLe_of (by simp) (ats_push rfl rfl (fun e he => rfl) rfl)⟩, trivial⟩ (by simp [ArrsLe, ArrLeO, atN, look, Fm.get, idσ, arrLe_of, arrLe_0]) rfl
      
  have hpl : ∀ {E : Env} {S : St} {a : Act} {w' : World} {C : Ctx}, Sat C.B C.W C.w0 E S a w' → look S.arrs 8 = some (.one (arrOf eI 1 m0.cell 0)) → look S.arrs 9 = some (.one (arrOf eI 1 m0.stack 0)) → look S.arrs 10 = some (.one (arrOf eI 1 m0.queue 0)) → look S.arrs 11 = some (.one (arrOf eI 1 m0.set 0)) → look S.arrs 12 = some (.one (arrOf eP 2 m0.table (0, 0))) → look S.own 14 = some (.one (.ar cs.length 9 (ats Cl.enc cs cl0) 55)) →
      Calls Try.prog 32 #[.agg ((mcS 8).map (SC.den E)).toArray, (SC.sl (14, 0, 0) 9 0 cs.length none).den E] w' (RetB w' (fun _ => True) 5 (plT (m', -1)) (mcR m')) := fun {E S a w' C} hs h0 h1 h2 h3 h4 h5 => by
    have := play_Z (w := w') (N := N) (cont_at hs 8 h0 h1 h2 h3 h4) hu0 (by omega) hm0 (own_at (d := cl0) hs 14 cs.length h5 rfl) (by omega) ops
    rw [eq] at this
    exact this
  refine callB 5 (plT (m', -1)) (mcR m') (fun E a w' hs => hpl hs rfl rfl rfl rfl rfl rfl) ?_
  simp (config := { maxSteps := 2000000 }) only [go_sem, ↓condS, ↓exitS, ↓gateS, ↓runOp, ↓gateD, ↓runD, ↓imp_ft, ↓imp_tf, ↓imp_tt, ↓imp_ff, ↓imp_fn, ↓imp_tn, ↓imp_fy, ↓imp_ty, ↓reduceIte, Nat.reduceLT, Nat.reduceLeDiff, Nat.reduceAdd, Nat.reduceSub, Nat.reduceMul, Nat.reduceEqDiff, reduceCtorEq, Int.reduceToNat, Int.reduceEq, Int.reduceBEq, Int.reduceBNe, Int.reduceLT, Int.reduceLE, Int.reduceNeg, Int.reduceAdd, Int.reduceSub, Int.reduceMul, Int.reduceGE, Int.reduceGT, Cl.enc, iv, endO, plT, mcS, mcR, mcA, forkS]
  refine guardW (.c (.v (.bool true))) (.bool true) (fun E => rfl) (fun E a w' hs => ?_) ?_
  · have := same_Z (w := w') (cont_at hs 15 rfl rfl rfl rfl rfl) (cont_at hs 0 rfl rfl rfl rfl rfl) (m := m') (m' := m')
    rw [decide_eq_true rfl] at this
    exact this
  simp (config := { maxSteps := 2000000 }) only [go_sem, ↓condS, ↓exitS, ↓gateS, ↓runOp, ↓gateD, ↓runD, ↓imp_ft, ↓imp_tf, ↓imp_tt, ↓imp_ff, ↓imp_fn, ↓imp_tn, ↓imp_fy, ↓imp_ty, ↓reduceIte, Nat.reduceLT, Nat.reduceLeDiff, Nat.reduceAdd, Nat.reduceSub, Nat.reduceMul, Nat.reduceEqDiff, reduceCtorEq, Int.reduceToNat, Int.reduceEq, Int.reduceBEq, Int.reduceBNe, Int.reduceLT, Int.reduceLE, Int.reduceNeg, Int.reduceAdd, Int.reduceSub, Int.reduceMul, Int.reduceGE, Int.reduceGT, Cl.enc, iv, endO, forkS]
  refine guardW (.c (.v (.bool true))) (.bool true) (fun E => rfl) (fun E a w' hs => awake_Z w') ?_
  simp (config := { maxSteps := 2000000 }) only [go_sem, ↓condS, ↓exitS, ↓gateS, ↓runOp, ↓gateD, ↓runD, ↓imp_ft, ↓imp_tf, ↓imp_tt, ↓imp_ff, ↓imp_fn, ↓imp_tn, ↓imp_fy, ↓imp_ty, ↓reduceIte, Nat.reduceLT, Nat.reduceLeDiff, Nat.reduceAdd, Nat.reduceSub, Nat.reduceMul, Nat.reduceEqDiff, reduceCtorEq, Int.reduceToNat, Int.reduceEq, Int.reduceBEq, Int.reduceBNe, Int.reduceLT, Int.reduceLE, Int.reduceNeg, Int.reduceAdd, Int.reduceSub, Int.reduceMul, Int.reduceGE, Int.reduceGT, Cl.enc, iv, endO]
  exact retV fun E => by simp [SV.den, SC.den]
end Go.Proofs.Ytgljbdcamagdbaa.Z
