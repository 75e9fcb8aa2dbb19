/- WitnessChecksSaid: what its proof is made of. No condition. -/
import Derived.Test.YtkjeedlkkpgopaaPkWitnessChecksAM
set_option linter.unusedSimpArgs false
set_option linter.unusedVariables false
namespace Go.Proofs.Ytkjeedlkkpgopaa.Z
open Go Go.RowKit
def ir16 : IR := (.seq (.ops [⟨(some 2), (.mv (.k (.c (.v (.bool false))))), none⟩]) (.kill [1, 2, 3, 4, 5, 6, 7, 8, 9, 10, 11] (.seq (.ops [⟨(some 7), (.mks 3 1 8 [(.v (.int .i64 0))] (.k (.c (.v (.int .i64 16)))) (.k (.c (.v (.int .i64 16))))), none⟩, ⟨(some 3), (.mv (.t 7)), none⟩]) (.kill [7] (.seq (.seq (.ops [⟨(some 4), (.mv (.k (.c (.v (.int .i64 0))))), none⟩]) (.blk 0 (.loop (.seq (.seq (.ops [⟨(some 8), (.mv (.t 4)), none⟩, ⟨(some 9), (.mv (.t 0)), none⟩, ⟨(some 10), (.len (.t 9)), none⟩, ⟨(some 11), (.bin .lss (.t 8) (.t 10)), none⟩]) (.kill [2, 5, 6, 8, 9, 10, 12, 13, 14, 15, 16, 17, 18, 19, 20, 21, 22, 23, 24, 25, 26, 27, 28, 29, 30, 31, 32, 33, 34, 35, 36, 37, 38, 39, 40, 41, 42, 43, 44, 45, 46, 47, 48, 49, 50, 51, 52, 53, 54, 55, 56, 57, 58, 59, 60, 61, 62, 63, 64, 65, 66, 67, 68, 69, 70, 71, 72, 73] (.cond (.t 11) .skip (.exit 0)))) (.kill [11] (.seq (.blk 1 (.seq (.seq (.draw [(⟨(some 14), (.mv (.t 0)), none⟩, ([], [15])), (⟨(some 15), (.mv (.t 4)), none⟩, ([0], [14])), (⟨(some 16), (.ia 9 (.t 14) (.t 15)), none⟩, ([], [])), (⟨(some 17), (.ld true 9 (.t 16)), none⟩, ([], [])), (⟨(some 18), (.call 38 [(.t 17)]), none⟩, ([], [])), (⟨(some 19), (.un .not (.t 18)), none⟩, ([], [])), (⟨(some 20), (.mv (.t 19)), none⟩, ([], [])), (⟨(some 21), (.mv (.t 4)), (some (20, false))⟩, ([], [])), (⟨(some 22), (.bin .gtr (.t 21) (.k (.c (.v (.int .i64 0))))), (some (20, false))⟩, ([], [])), (⟨(some 23), (.mv (.t 22)), (some (20, false))⟩, ([], [])), (⟨(some 24), (.mv (.t 0)), (some (23, true))⟩, ([], [25, 29, 30, 31, 32, 33, 34])), (⟨(some 25), (.mv (.t 4)), (some (23, true))⟩, ([10], [24, 29, 30, 31, 32, 33, 34])), (⟨(some 26), (.ia 9 (.t 24) (.t 25)), (some (23, true))⟩, ([], [29, 30, 31, 32, 33, 34])), (⟨(some 27), (.fa 4 (.t 26)), (some (23, true))⟩, ([], [29, 30, 31, 32, 33, 34])), (⟨(some 28), (.ld false 1 (.t 27)), (some (23, true))⟩, ([], [29, 30, 31, 32, 33, 34])), (⟨(some 29), (.mv (.t 0)), (some (23, true))⟩, ([10, 11, 12, 13, 14], [24, 25, 26, 27, 28, 30, 31])), (⟨(some 30), (.mv (.t 4)), (some (23, true))⟩, ([10, 11, 12, 13, 14, 15], [24, 25, 26, 27, 28, 29])), (⟨(some 31), (.bin .sub (.t 30) (.k (.c (.v (.int .i64 1))))), (some (23, true))⟩, ([10, 11, 12, 13, 14, 15], [24, 25, 26, 27, 28, 29])), (⟨(some 32), (.ia 9 (.t 29) (.t 31)), (some (23, true))⟩, ([10, 11, 12, 13, 14], [24, 25, 26, 27, 28])), (⟨(some 33), (.fa 4 (.t 32)), (some (23, true))⟩, ([10, 11, 12, 13, 14], [24, 25, 26, 27, 28])), (⟨(some 34), (.ld false 1 (.t 33)), (some (23, true))⟩, ([10, 11, 12, 13, 14], [24, 25, 26, 27, 28])), (⟨(some 35), (.bin .leq (.t 28) (.t 34)), (some (23, true))⟩, ([], [])), (⟨(some 36), (.pick (.t 23) (.t 35) (.k (.c (.v (.bool false))))), (some (20, false))⟩, ([], [])), (⟨(some 37), (.pick (.t 20) (.k (.c (.v (.bool true)))) (.t 36)), none⟩, ([], []))]) (.kill [14, 15, 16, 17, 18, 19, 20, 21, 22, 23, 24, 25, 26, 27, 28, 29, 30, 31, 32, 33, 34, 35, 36] (.cond (.t 37) (.seq (.ops [⟨(some 2), (.mv (.k (.c (.v (.bool false))))), none⟩]) (.kill [0, 3, 4, 37] .ret)) .skip))) (.kill [2, 37] (.seq (.ops [⟨(some 38), (.mv (.t 0)), none⟩, ⟨(some 39), (.mv (.t 4)), none⟩, ⟨(some 40), (.ia 9 (.t 38) (.t 39)), none⟩, ⟨(some 41), (.fa 0 (.t 40)), none⟩, ⟨(some 42), (.ld false 1 (.t 41)), none⟩, ⟨(some 5), (.mv (.t 42)), none⟩]) (.kill [38, 39, 40, 41, 42] (.seq (.seq (.ops [⟨(some 43), (.mv (.t 3)), none⟩, ⟨(some 44), (.mv (.t 5)), none⟩, ⟨(some 45), (.ia 1 (.t 43) (.t 44)), none⟩, ⟨(some 46), (.ld false 1 (.t 45)), none⟩, ⟨(some 47), (.bin .gtr (.t 46) (.k (.c (.v (.int .i64 0))))), none⟩]) (.kill [43, 44, 45, 46] (.cond (.t 47) (.seq (.ops [⟨(some 48), (.mv (.t 0)), none⟩, ⟨(some 49), (.mv (.t 3)), none⟩, ⟨(some 50), (.mv (.t 5)), none⟩, ⟨(some 51), (.ia 1 (.t 49) (.t 50)), none⟩, ⟨(some 52), (.ld false 1 (.t 51)), none⟩, ⟨(some 53), (.bin .sub (.t 52) (.k (.c (.v (.int .i64 1))))), none⟩, ⟨(some 54), (.ia 9 (.t 48) (.t 53)), none⟩, ⟨(some 55), (.ld true 9 (.t 54)), none⟩, ⟨(some 6), (.new 53 [(.v (.int .i64 0)), (.v (.int .i64 0)), (.v (.int .i64 0)), (.v (.int .i64 0)), (.v (.int .i64 0)), (.v (.int .i64 0)), (.v (.int .i64 0)), (.v (.int .i64 0)), (.v (.int .i64 0))]), none⟩, ⟨none, (.st 9 (.t 6) (.t 55)), none⟩]) (.kill [47, 48, 49, 50, 51, 52, 53, 54, 55] (.seq (.draw [(⟨(some 56), (.fa 5 (.t 6)), none⟩, ([], [])), (⟨(some 57), (.ld false 1 (.t 56)), none⟩, ([], [])), (⟨(some 58), (.bin .eql (.t 57) (.k (.c (.v (.int .i64 (-1)))))), none⟩, ([], [])), (⟨(some 59), (.mv (.t 58)), none⟩, ([], [])), (⟨(some 60), (.fa 5 (.t 6)), (some (59, false))⟩, ([], [62, 63, 64, 65, 66])), (⟨(some 61), (.ld false 1 (.t 60)), (some (59, false))⟩, ([], [62, 63, 64, 65, 66])), (⟨(some 62), (.mv (.t 0)), (some (59, false))⟩, ([4, 5], [60, 61, 63])), (⟨(some 63), (.mv (.t 4)), (some (59, false))⟩, ([4, 5, 6], [60, 61, 62])), (⟨(some 64), (.ia 9 (.t 62) (.t 63)), (some (59, false))⟩, ([4, 5], [60, 61])), (⟨(some 65), (.fa 4 (.t 64)), (some (59, false))⟩, ([4, 5], [60, 61])), (⟨(some 66), (.ld false 1 (.t 65)), (some (59, false))⟩, ([4, 5], [60, 61])), (⟨(some 67), (.bin .gtr (.t 61) (.t 66)), (some (59, false))⟩, ([], [])), (⟨(some 68), (.pick (.t 59) (.k (.c (.v (.bool true)))) (.t 67)), none⟩, ([], []))]) (.kill [6, 56, 57, 58, 59, 60, 61, 62, 63, 64, 65, 66, 67] (.cond (.t 68) (.seq (.ops [⟨(some 2), (.mv (.k (.c (.v (.bool false))))), none⟩]) (.kill [0, 3, 4, 5, 68] .ret)) .skip))))) .skip))) (.kill [2, 47, 68] (.ops [⟨(some 69), (.mv (.t 3)), none⟩, ⟨(some 70), (.mv (.t 5)), none⟩, ⟨(some 71), (.mv (.t 4)), none⟩, ⟨(some 72), (.bin .add (.t 71) (.k (.c (.v (.int .i64 1))))), none⟩, ⟨(some 73), (.ia 1 (.t 69) (.t 70)), none⟩, ⟨none, (.st 1 (.t 73) (.t 72)), none⟩])))))))) (.kill [2, 5, 6, 14, 15, 16, 17, 18, 19, 20, 21, 22, 23, 24, 25, 26, 27, 28, 29, 30, 31, 32, 33, 34, 35, 36, 37, 38, 39, 40, 41, 42, 43, 44, 45, 46, 47, 48, 49, 50, 51, 52, 53, 54, 55, 56, 57, 58, 59, 60, 61, 62, 63, 64, 65, 66, 67, 68, 69, 70, 71, 72, 73] (.ops [⟨(some 12), (.mv (.t 4)), none⟩, ⟨(some 13), (.bin .add (.t 12) (.k (.c (.v (.int .i64 1))))), none⟩, ⟨(some 4), (.mv (.t 13)), none⟩])))))))) (.kill [2, 3, 4, 5, 6, 8, 9, 10, 11, 12, 13, 14, 15, 16, 17, 18, 19, 20, 21, 22, 23, 24, 25, 26, 27, 28, 29, 30, 31, 32, 33, 34, 35, 36, 37, 38, 39, 40, 41, 42, 43, 44, 45, 46, 47, 48, 49, 50, 51, 52, 53, 54, 55, 56, 57, 58, 59, 60, 61, 62, 63, 64, 65, 66, 67, 68, 69, 70, 71, 72, 73] (.seq (.ops [⟨(some 74), (.mv (.t 0)), none⟩, ⟨(some 75), (.call 39 [(.t 74)]), none⟩, ⟨(some 2), (.mv (.t 75)), none⟩]) (.kill [0, 74, 75] .ret))))))))
def rs16 : List RS := [(.t 2)]
def nt16 : Nat := 76
def lastR (xs : List Cl) : Nat → Nat → Int
 | 0, _ => 0
 | i + 1, e => if e = (xs.getD i cl0).thread.toNat then ((i + 1 : Nat) : Int) else lastR xs i e
def cellR (xs : List Cl) (i e : Nat) : List SC := [.v (.int .i64 (lastR xs i e))]
theorem lastR_spec (xs : List Cl) (e : Nat) : ∀ i, (lastR xs i e = 0 ∧ ∀ k, k < i → (xs.getD k cl0).thread.toNat ≠ e) ∨ ∃ j : Nat, j < i ∧ lastR xs i e = ((j + 1 : Nat) : Int) ∧ (xs.getD j cl0).thread.toNat = e ∧ ∀ k, j < k → k < i → (xs.getD k cl0).thread.toNat ≠ e
 | 0 => Or.inl ⟨rfl, fun k hk => by omega⟩
 | i + 1 => by
  simp only [lastR]
  by_cases h : e = (xs.getD i cl0).thread.toNat
  ·rw [if_pos h]
   exact Or.inr ⟨i, by omega, rfl, h.symm, fun k h1 h2 => by omega⟩
  ·rw [if_neg h]
   rcases lastR_spec xs e i with ⟨h1, h2⟩ | ⟨j, h1, h2, h3, h4⟩
   ·refine Or.inl ⟨h1, fun k hk => ?_⟩
    by_cases hki : k = i
    ·subst hki; exact fun h' => h h'.symm
    ·exact h2 k (by omega)
   ·refine Or.inr ⟨j, by omega, h2, h3, fun k hk hk' => ?_⟩
    by_cases hki : k = i
    ·subst hki; exact fun h' => h h'.symm
    ·exact h4 k hk (by omega)
structure InvR (xs : List Cl) (n : Nat) : Prop where
 shaped : ∀ k, k < n → shapedB (xs.getD k cl0) = true
 up : ∀ k, k + 1 < n → (xs.getD k cl0).beg < (xs.getD (k + 1) cl0).beg
 thr : ∀ j k, j < k → k < n → (xs.getD j cl0).thread = (xs.getD k cl0).thread → (xs.getD j cl0).fin ≠ -1 ∧ (xs.getD j cl0).fin ≤ (xs.getD k cl0).beg
theorem mayP_of {xs : List Cl} (h : InvR xs xs.length) (hB : InvB xs xs.length) : mayP xs := by
 refine ⟨⟨h.shaped, h.up, fun j k h1 h2 h3 => ?_⟩, hB⟩
 obtain ⟨g1, g2⟩ := h.thr j k h1 h2 h3
 refine ⟨g1, ?_⟩
 rcases Int.lt_or_eq_of_le g2 with e | e
 ·exact e
 ·exact absurd (by rw [e]; simp [Cl.moves]) (hB j k h1 h2 _ g1 (by simp [Cl.moves]))
theorem invR_step {xs : List Cl} {i : Nat} (h : InvR xs i) (h1 : shapedB (xs.getD i cl0) = true) (h2 : 0 < i → (xs.getD (i - 1) cl0).beg < (xs.getD i cl0).beg)
  (h3 : ∀ j : Nat, j < i → (xs.getD j cl0).thread = (xs.getD i cl0).thread → (∀ k, j < k → k < i → (xs.getD k cl0).thread ≠ (xs.getD i cl0).thread) → (xs.getD j cl0).fin ≠ -1 ∧ (xs.getD j cl0).fin ≤ (xs.getD i cl0).beg) : InvR xs (i + 1) := by
 have hsh : ∀ k, k < i + 1 → shapedB (xs.getD k cl0) = true := fun k hk => by
  by_cases hki : k = i
  ·subst hki; exact h1
  ·exact h.shaped k (by omega)
 refine ⟨hsh, fun k hk => ?_, fun j k hj hk ht => ?_⟩
 ·by_cases hki : k + 1 = i
  ·have := h2 (by omega)
   subst hki
   simpa using this
  ·exact h.up k (by omega)
 ·by_cases hki : k = i
  ·subst hki
   have key : ∀ m j : Nat, k - j ≤ m → j < k → (xs.getD j cl0).thread = (xs.getD k cl0).thread → (xs.getD j cl0).fin ≠ -1 ∧ (xs.getD j cl0).fin ≤ (xs.getD k cl0).beg := by
    intro m
    induction m with
    | zero => intro j hm hj _; omega
    | succ m ih =>
     intro j hm hj ht
     by_cases hex : ∃ q, j < q ∧ q < k ∧ (xs.getD q cl0).thread = (xs.getD k cl0).thread
     ·obtain ⟨q, hq1, hq2, hq3⟩ := hex
      have g1 := ih q (by omega) hq2 hq3
      have g2 := h.thr j q hq1 hq2 (ht.trans hq3.symm)
      have g3 := h.shaped q hq2
      simp only [shapedB, decide_eq_true_eq] at g3
      have g4 := g3.1.2.2.2 g1.1
      exact ⟨g2.1, by omega⟩
     ·exact h3 j hj ht fun q hq1 hq2 hq3 => hex ⟨q, hq1, hq2, hq3⟩
   exact key k j (by omega) hj ht
  ·exact h.thr j k hj (by omega) ht
set_option maxRecDepth 100000 in
set_option maxHeartbeats 400000 in
theorem rmay_calls (w : World) (v : Value) (xs : List Cl) (b : Bool) (hbt : mayP xs → b = true) (hbf : ¬ mayP xs → b = false) (hsz : xs.length * 72 ≤ 140737488355328) (h : Arr w Cl.enc 9 v xs) : Calls Try.prog 16 #[v] w (RetV w (.bool b)) := by
 refine calls_sym (c := ir16) (C := mkC Try.prog [] w rs16 (RetV w (.bool b))) 1000 [.c (.xv (0, 0, 0))] 
  (E1 v) [] [(0, .one (arrOf Cl.enc 9 xs cl0))] [] 1 nt16 _ (mkTab_ok _ _) Try.func16 rfl (by kernel_rfl) (by kernel_rfl) rfl rfl rfl (E1_one (arr_one h))
  (fun E' hE' => ?_) (of_decide_eq_true rfl) (fun E' hE' => inOk_arrs fun w' hw' x A hA => ?_) ?_
 ·have e0 := (hE' (0, 0, 0) (by decide)).2.2.2
  simp [SV.den, SC.den, e0, E1]
 ·have e0 := (hE' (0, 0, 0) (by decide)).2.2.2
  rcases atN_one hA with ⟨rfl, rfl⟩ | hA
  ·exact arr1 cl_ok e0 h hw'
  exact (atN_nil hA).elim
 have hmx : maxLen = 9223372036854775807 := by decide
 simp only [ir16, nt16, rs16, go_sem, ↓condS, ↓exitS, ↓gateS, ↓runOp, ↓gateD, ↓runD, ↓imp_ft, ↓imp_tf, ↓imp_tt, ↓imp_ff, ↓imp_fn, ↓imp_tn, ↓imp_fy, ↓imp_ty, ↓reduceIte, Nat.reduceLT, Nat.reduceLeDiff, Nat.reduceAdd, Nat.reduceSub, Nat.reduceMul, Nat.reduceEqDiff, reduceCtorEq, Int.reduceToNat, Int.reduceEq, Int.reduceBEq, Int.reduceBNe, Int.reduceLT, Int.reduceLE, Int.reduceNeg, Int.reduceAdd, Int.reduceSub, Int.reduceMul, Int.reduceGE, Int.reduceGT, Cl.enc, iv, endO, dr_cons]
 refine ⟨by decide, ?_⟩
 refine loopI (ι := { i : Nat // i ≤ xs.length ∧ InvR xs i }) (fun i => ⟨76, [(0, .c (.xv (0, 0, 0))), (3, .c (.sl (1, 0, 0) 1 0 16 none)), (4, .c (.v (.int .i64 (i.1 : Nat))))], [(1, .one (.ar 16 1 (cellR xs i.1) 3))], [(0, .one (arrOf Cl.enc 9 xs cl0))], [], 2⟩)
  (fun i => xs.length - i.1) ⟨0, by omega, ⟨fun _ h => by omega, fun _ h => by omega, fun _ _ _ h => by omega⟩⟩ (le_refl _) ?_
 rintro ⟨i, hi, hg⟩
 simp only [go_sem, ↓condS, ↓exitS, ↓gateS, ↓runOp, ↓gateD, ↓runD, ↓imp_ft, ↓imp_tf, ↓imp_tt, ↓imp_ff, ↓imp_fn, ↓imp_tn, ↓imp_fy, ↓imp_ty, ↓reduceIte, Nat.reduceLT, Nat.reduceLeDiff, Nat.reduceAdd, Nat.reduceSub, Nat.reduceMul, Nat.reduceEqDiff, reduceCtorEq, Int.reduceToNat, Int.reduceEq, Int.reduceBEq, Int.reduceBNe, Int.reduceLT, Int.reduceLE, Int.reduceNeg, Int.reduceAdd, Int.reduceSub, Int.reduceMul, Int.reduceGE, Int.reduceGT, Cl.enc, iv, endO, dr_cons]
 refine both (fun hlt => ?_) (fun hge => ?_)
 ·rw [decide_eq_true_eq] at hlt
  generalize hci : xs.getD i cl0 = ci
  refine draw_vc (by kernel_rfl) (mkTab_ok _ _) (of_decide_eq_true rfl) (of_decide_eq_true rfl) ?_
  simp only [go_sem, ↓condS, ↓exitS, ↓gateS, ↓runOp, ↓gateD, ↓runD, ↓imp_ft, ↓imp_tf, ↓imp_tt, ↓imp_ff, ↓imp_fn, ↓imp_tn, ↓imp_fy, ↓imp_ty, ↓reduceIte, Nat.reduceLT, Nat.reduceLeDiff, Nat.reduceAdd, Nat.reduceSub, Nat.reduceMul, Nat.reduceEqDiff, reduceCtorEq, Int.reduceToNat, Int.reduceEq, Int.reduceBEq, Int.reduceBNe, Int.reduceLT, Int.reduceLE, Int.reduceNeg, Int.reduceAdd, Int.reduceSub, Int.reduceMul, Int.reduceGE, Int.reduceGT, Cl.enc, iv, endO, dr_cons, hci]
  refine ⟨hlt, hlt, ?_⟩
  refine dcallV (.c (.bo (shapedB ci))) _ (fun E => rfl) (fun E a w' _ => fits_calls w' ci) ?_
  simp only [go_sem, ↓condS, ↓exitS, ↓gateS, ↓runOp, ↓gateD, ↓runD, ↓imp_ft, ↓imp_tf, ↓imp_tt, ↓imp_ff, ↓imp_fn, ↓imp_tn, ↓imp_fy, ↓imp_ty, ↓reduceIte, Nat.reduceLT, Nat.reduceLeDiff, Nat.reduceAdd, Nat.reduceSub, Nat.reduceMul, Nat.reduceEqDiff, reduceCtorEq, Int.reduceToNat, Int.reduceEq, Int.reduceBEq, Int.reduceBNe, Int.reduceLT, Int.reduceLE, Int.reduceNeg, Int.reduceAdd, Int.reduceSub, Int.reduceMul, Int.reduceGE, Int.reduceGT, Cl.enc, iv, endO, dr_cons, hci, cellR]
  have hwi : 0 < i → IntKind.i64.wrap ((i : Int) - 1) = ((i - 1 : Nat) : Int) := fun h => by rw [wr64 (by omega) (by omega)]; omega
  have hg1 : (shapedB ci && decide ((i : Int) > 0)) = true → 0 < i := fun h => by
   have := (Bool.and_eq_true _ _ ▸ h).2
   rw [decide_eq_true_eq] at this
   omega
  refine ⟨fun _ => hlt, fun _ => hlt, fun _ => hlt, fun h => ?_, fun h => ?_, fun h => ?_, fun h => ?_, fun h1 => ?_⟩
  ·rw [hwi (hg1 h)]; have := hg1 h; omega
  ·rw [hwi (hg1 h)]; have := hg1 h; omega
  ·rw [hwi (hg1 h)]; have := hg1 h; omega
  ·refine retV fun E => ?_
   rw [den_c, den_v, Value.bool.injEq]
   refine (hbf fun hm => ?_).symm
   have g1 := hm.1.shaped i hlt
   rw [hci] at g1
   by_cases hi0 : 0 < i
   ·have g2 := hm.1.up (i - 1) (by omega)
    rw [show i - 1 + 1 = i by omega, hci] at g2
    rw [hwi hi0, Int.toNat_natCast] at h
    simp only [b_decR, b_decL, bt_ite, bf_ite, bt_dec, bf_dec, bt_int, bf_int, bt_nint, bf_nint, bt_bool, bf_bool, bt_nbool, bf_nbool, bt_not, bf_not, bt_and, bf_and, bt_or, bf_or, Bool.false_eq_true, Bool.true_eq_false, Bool.not_eq_true, Bool.not_eq_false, reduceCtorEq, false_iff, true_iff, iff_false, iff_true, and_true, true_and, and_false, false_and, or_true, true_or, or_false, false_or, not_true_eq_false, not_false_eq_true, ne_eq] at h
    simp only [g1] at h
    simp only [b_decR, b_decL, bt_ite, bf_ite, bt_dec, bf_dec, bt_int, bf_int, bt_nint, bf_nint, bt_bool, bf_bool, bt_nbool, bf_nbool, bt_not, bf_not, bt_and, bf_and, bt_or, bf_or, Bool.false_eq_true, Bool.true_eq_false, Bool.not_eq_true, Bool.not_eq_false, reduceCtorEq, false_iff, true_iff, iff_false, iff_true, and_true, true_and, and_false, false_and, or_true, true_or, or_false, false_or, not_true_eq_false, not_false_eq_true, ne_eq] at h
    omega
   ·simp only [b_decR, b_decL, bt_ite, bf_ite, bt_dec, bf_dec, bt_int, bf_int, bt_nint, bf_nint, bt_bool, bf_bool, bt_nbool, bf_nbool, bt_not, bf_not, bt_and, bf_and, bt_or, bf_or, Bool.false_eq_true, Bool.true_eq_false, Bool.not_eq_true, Bool.not_eq_false, reduceCtorEq, false_iff, true_iff, iff_false, iff_true, and_true, true_and, and_false, false_and, or_true, true_or, or_false, false_or, not_true_eq_false, not_false_eq_true, ne_eq, g1] at h
    omega
  ·have h11 : shapedB ci = true := by
    simp only [b_decR, b_decL, bt_ite, bf_ite, bt_dec, bf_dec, bt_int, bf_int, bt_nint, bf_nint, bt_bool, bf_bool, bt_nbool, bf_nbool, bt_not, bf_not, bt_and, bf_and, bt_or, bf_or, Bool.false_eq_true, Bool.true_eq_false, Bool.not_eq_true, Bool.not_eq_false, reduceCtorEq, false_iff, true_iff, iff_false, iff_true, and_true, true_and, and_false, false_and, or_true, true_or, or_false, false_or, not_true_eq_false, not_false_eq_true, ne_eq] at h1
    cases hs : shapedB ci with
    | true => rfl
    | false => simp [hs] at h1
   have h12 : 0 < i → (xs.getD (i - 1) cl0).beg < ci.beg := fun hi0 => by
    rw [hwi hi0, Int.toNat_natCast] at h1
    simp only [b_decR, b_decL, bt_ite, bf_ite, bt_dec, bf_dec, bt_int, bf_int, bt_nint, bf_nint, bt_bool, bf_bool, bt_nbool, bf_nbool, bt_not, bf_not, bt_and, bf_and, bt_or, bf_or, Bool.false_eq_true, Bool.true_eq_false, Bool.not_eq_true, Bool.not_eq_false, reduceCtorEq, false_iff, true_iff, iff_false, iff_true, and_true, true_and, and_false, false_and, or_true, true_or, or_false, false_or, not_true_eq_false, not_false_eq_true, ne_eq, h11] at h1
    omega
   have hth : 0 ≤ ci.thread ∧ ci.thread < 16 := by
    have := h11
    simp only [shapedB, decide_eq_true_eq] at this
    exact ⟨this.1.1, this.1.2.1⟩
   have htn : ci.thread.toNat < 16 := by omega
   have htk : ∀ k, k < i → (xs.getD k cl0).thread.toNat = ci.thread.toNat → (xs.getD k cl0).thread = ci.thread := fun k hk he => by
    have := hg.shaped k hk
    simp only [shapedB, decide_eq_true_eq] at this
    omega
   have hset : ∀ e, setAt ci.thread.toNat (cellR xs i) [SC.v (.int .i64 ((i + 1 : Nat) : Int))] e = SC.renL (idσ id) (cellR xs (i + 1) e) := fun e => by
    simp only [setAt, cellR, lastR, hci, SC.renL, SC.ren]
    split <;> rfl
   refine ⟨hlt, hlt, hlt, hth, htn, fun h2 => ⟨hth, htn, ?_⟩, fun h2 => ⟨hth, htn, ?_⟩⟩
   ·rw [decide_eq_true_eq] at h2
    rcases lastR_spec xs ci.thread.toNat i with ⟨h0, _⟩ | ⟨j, hj1, hj2, hj3, hj4⟩
    ·omega
    have hwj : IntKind.i64.wrap (((j + 1 : Nat) : Int) - 1) = (j : Int) := by rw [wr64 (by omega) (by omega)]; omega
    rw [hj2, hwj]
    simp only [Int.toNat_natCast]
    refine ⟨⟨by omega, by omega⟩, by omega, ?_⟩
    generalize hcj : xs.getD j cl0 = cj
    refine draw_vc (by kernel_rfl) (mkTab_ok _ _) (of_decide_eq_true rfl) (of_decide_eq_true rfl) ?_
    simp only [go_sem, ↓condS, ↓exitS, ↓gateS, ↓runOp, ↓gateD, ↓runD, ↓imp_ft, ↓imp_tf, ↓imp_tt, ↓imp_ff, ↓imp_fn, ↓imp_tn, ↓imp_fy, ↓imp_ty, ↓reduceIte, Nat.reduceLT, Nat.reduceLeDiff, Nat.reduceAdd, Nat.reduceSub, Nat.reduceMul, Nat.reduceEqDiff, reduceCtorEq, Int.reduceToNat, Int.reduceEq, Int.reduceBEq, Int.reduceBNe, Int.reduceLT, Int.reduceLE, Int.reduceNeg, Int.reduceAdd, Int.reduceSub, Int.reduceMul, Int.reduceGE, Int.reduceGT, Cl.enc, iv, endO, dr_cons, hci]
    have hjt : cj.thread = ci.thread := by rw [← hcj]; exact htk j hj1 hj3
    refine ⟨fun _ => hlt, fun _ => hlt, fun _ => hlt, fun h3 => ?_, fun h3 => ⟨hth, htn, ?_⟩⟩
    ·refine retV fun E => ?_
     rw [den_c, den_v, Value.bool.injEq]
     refine (hbf fun hm => ?_).symm
     have h7 := hm.1.thr j i hj1 hlt (by rw [hcj, hci]; exact hjt)
     rw [hcj, hci] at h7
     simp only [b_decR, b_decL, bt_ite, bf_ite, bt_dec, bf_dec, bt_int, bf_int, bt_nint, bf_nint, bt_bool, bf_bool, bt_nbool, bf_nbool, bt_not, bf_not, bt_and, bf_and, bt_or, bf_or, Bool.false_eq_true, Bool.true_eq_false, Bool.not_eq_true, Bool.not_eq_false, reduceCtorEq, false_iff, true_iff, iff_false, iff_true, and_true, true_and, and_false, false_and, or_true, true_or, or_false, false_or, not_true_eq_false, not_false_eq_true, ne_eq] at h3
     omega
    ·rw [wr_succ (by omega)]
     refine backI ⟨i + 1, by omega, invR_step hg (by rw [hci]; exact h11) (fun h => by rw [hci]; exact h12 h) fun q hq1 hq2 hq3 => ?_⟩ (by simp only; omega) (le_ren id rfl rfl (by simp [TmpsLe, look, SV.ren, SC.ren, idσ, SV.okN, SC.okN]) ⟨⟨show (1 : Nat) < 2 from by decide, Nat.le_refl _, rfl, rfl, fun e he => ⟨hset e, trivial, trivial⟩⟩, trivial⟩ ⟨⟨show (0 : Nat) < 2 from by decide, arrLe_of⟩, trivial⟩ rfl)
     rw [hci] at hq2 hq3 ⊢
     have hqj : q = j := by
      rcases Nat.lt_trichotomy q j with h8 | h8 | h8
      ·exact absurd (by rw [hcj]; exact hjt) (hq3 j h8 hj1)
      ·exact h8
      ·exact absurd (by rw [hq2]) (hj4 q h8 hq1)
     subst hqj
     rw [hcj]
     simp only [b_decR, b_decL, bt_ite, bf_ite, bt_dec, bf_dec, bt_int, bf_int, bt_nint, bf_nint, bt_bool, bf_bool, bt_nbool, bf_nbool, bt_not, bf_not, bt_and, bf_and, bt_or, bf_or, Bool.false_eq_true, Bool.true_eq_false, Bool.not_eq_true, Bool.not_eq_false, reduceCtorEq, false_iff, true_iff, iff_false, iff_true, and_true, true_and, and_false, false_and, or_true, true_or, or_false, false_or, not_true_eq_false, not_false_eq_true, ne_eq] at h3
     omega
   ·rw [decide_eq_false_iff_not] at h2
    rcases lastR_spec xs ci.thread.toNat i with ⟨h0, hnone⟩ | ⟨j, hj1, hj2, hj3, hj4⟩
    ·rw [wr_succ (by omega)]
     refine backI ⟨i + 1, by omega, invR_step hg (by rw [hci]; exact h11) (fun h => by rw [hci]; exact h12 h) fun q hq1 hq2 hq3 => absurd (by rw [hq2, hci]) (hnone q hq1)⟩ (by simp only; omega) (le_ren id rfl rfl (by simp [TmpsLe, look, SV.ren, SC.ren, idσ, SV.okN, SC.okN]) ⟨⟨show (1 : Nat) < 2 from by decide, Nat.le_refl _, rfl, rfl, fun e he => ⟨hset e, trivial, trivial⟩⟩, trivial⟩ ⟨⟨show (0 : Nat) < 2 from by decide, arrLe_of⟩, trivial⟩ rfl)
    ·omega
 ·rw [decide_eq_false_iff_not] at hge
  have hin : i = xs.length := by omega
  subst hin
  refine callV (.c (.bo b)) (.bool b) (fun E => rfl) (fun E a w' hs => ?_) ?_
  ·have ha : Arr w' Cl.enc 9 (E.χ (0, 0, 0)) xs := arr_of (d := cl0) ((holds_of hs).1 (0, 0, 0) _ rfl)
   exact apart_calls w' _ xs b (fun hB => hbt (mayP_of hg hB)) (fun hB => hbf fun hm => hB hm.2) (fun k hk => by have := hg.shaped k hk; simp only [shapedB, decide_eq_true_eq] at this; omega) hsz ha
  simp only [go_sem, ↓condS, ↓exitS, ↓gateS, ↓runOp, ↓gateD, ↓runD, ↓imp_ft, ↓imp_tf, ↓imp_tt, ↓imp_ff, ↓imp_fn, ↓imp_tn, ↓imp_fy, ↓imp_ty, ↓reduceIte, Nat.reduceLT, Nat.reduceLeDiff, Nat.reduceAdd, Nat.reduceSub, Nat.reduceMul, Nat.reduceEqDiff, reduceCtorEq, Int.reduceToNat, Int.reduceEq, Int.reduceBEq, Int.reduceBNe, Int.reduceLT, Int.reduceLE, Int.reduceNeg, Int.reduceAdd, Int.reduceSub, Int.reduceMul, Int.reduceGE, Int.reduceGT, Cl.enc, iv, endO, dr_cons]
  exact retV fun E => by rw [den_c, den_b]
end Go.Proofs.Ytkjeedlkkpgopaa.Z
namespace Go.Proofs.Ytkjeedlkkpgopaa.Z
open Go Go.RowKit
noncomputable def mayQ (xs : List Cl) : Bool := @decide (mayP xs) (Classical.propDecidable _)
theorem mayQ_t {xs : List Cl} (h : mayP xs) : mayQ xs = true := @decide_eq_true _ (Classical.propDecidable _) h
theorem mayQ_f {xs : List Cl} (h : ¬ mayP xs) : mayQ xs = false := @decide_eq_false _ (Classical.propDecidable _) h
theorem mayQ_iff {xs : List Cl} : mayQ xs = true ↔ mayP xs := by
 by_cases h : mayP xs
 ·simp [h, mayQ_t h]
 ·simp [h, mayQ_f h]
theorem mayW (w : World) (v : Value) (xs : List Cl) (h : Arr w Cl.enc 9 v xs) : Calls Try.prog 15 #[v] w (RetV w (.bool (mayQ xs))) := may_calls w v xs _ mayQ_t mayQ_f h
theorem mayR (w : World) (v : Value) (xs : List Cl) (hsz : xs.length * 72 ≤ 140737488355328) (h : Arr w Cl.enc 9 v xs) : Calls Try.prog 16 #[v] w (RetV w (.bool (mayQ xs))) := rmay_calls w v xs _ mayQ_t mayQ_f hsz h
theorem ats_left {xs : List Cl} {m : Cl} {e : Nat} (he : e < xs.length) : ats Cl.enc (xs ++ [m]) cl0 e = ats Cl.enc xs cl0 e := by
 simp [ats, List.getD_eq_getElem?_getD, List.getElem?_append_left he]
theorem arr_tw {C : Ctx} {E : Env} {S : St} {a : Act} {w : World} (hs : Sat C.B C.W C.w0 E S a w) {xs : List Cl} {m : Cl} {ty : Nat} (i : Nat) (hi : look S.own i = some (.one (.ar (xs ++ [m]).length 9 (ats Cl.enc (xs ++ [m]) cl0) ty))) : Arr w Cl.enc 9 ((SC.sl (i, 0, 0) 9 0 xs.length none).den E) xs :=
 arr_own hs i _ _ _ hi rfl (by simp) fun e he => ats_left he
theorem tw_tw {C : Ctx} {E : Env} {S : St} {a : Act} {w : World} (hs : Sat C.B C.W C.w0 E S a w) {xs : List Cl} {m : Cl} {ty : Nat} (i : Nat) (hi : look S.own i = some (.one (.ar (xs ++ [m]).length 9 (ats Cl.enc (xs ++ [m]) cl0) ty))) : Tw w ((SC.sl (i, 0, 0) 9 0 xs.length none).den E) xs m := by
 have h := arr_own hs i _ (xs.length + 1) _ hi (ys := xs ++ [m]) (by simp) (Nat.le_refl _) fun e he => rfl
 obtain ⟨ba, cap, h1, h2⟩ := id h
 simp only [SC.den, Value.slice.injEq] at h1
 refine ⟨ba, cap, by simp only [SC.den, h1.1, h1.2.2], ?_⟩
 simp only [SC.den] at h
 rw [h1.1, h1.2.2] at h
 exact h
end Go.Proofs.Ytkjeedlkkpgopaa.Z
namespace Go.Proofs.Ytkjeedlkkpgopaa.Z
open Go Go.RowKit
def ptB (c : Cl) : Bool := !(objOf c.op == 0) && !(c.point == -1)
def pks (xs : List Cl) : Nat → List Int
 | 0 => []
 | n + 1 => if ptB (xs.getD n cl0) = true then pks xs n ++ [(n : Int)] else pks xs n
def Kp (xs : List Cl) (i : Int) : Int := (xs.getD i.toNat cl0).point
def ptsL (xs : List Cl) : List Int := (pks xs xs.length).mergeSort fun a b => decide (Kp xs a ≤ Kp xs b)
def ptSorted (xs : List Cl) (l : List Int) : Prop := l.Pairwise fun a b => Kp xs a ≤ Kp xs b
theorem mem_pks {xs : List Cl} {i : Int} : ∀ {n : Nat}, i ∈ pks xs n ↔ ∃ k : Nat, k < n ∧ i = k ∧ ptB (xs.getD k cl0) = true
 | 0 => by simp [pks]
 | n + 1 => by
  simp only [pks]
  split
  ·next h =>
   rw [List.mem_append, mem_pks, List.mem_singleton]
   constructor
   ·rintro (⟨k, h1, h2, h3⟩ | rfl)
    ·exact ⟨k, by omega, h2, h3⟩
    ·exact ⟨n, by omega, rfl, h⟩
   ·rintro ⟨k, h1, h2, h3⟩
    by_cases e : k = n
    ·exact Or.inr (by rw [h2, e])
    ·exact Or.inl ⟨k, by omega, h2, h3⟩
  ·next h =>
   rw [mem_pks]
   constructor
   ·rintro ⟨k, h1, h2, h3⟩
    exact ⟨k, by omega, h2, h3⟩
   ·rintro ⟨k, h1, h2, h3⟩
    by_cases e : k = n
    ·rw [e] at h3; exact absurd h3 h
    ·exact ⟨k, by omega, h2, h3⟩
theorem pks_len (xs : List Cl) : ∀ n, (pks xs n).length ≤ n
 | 0 => Nat.le_refl _
 | n + 1 => by
  have := pks_len xs n
  simp only [pks]
  split <;> simp <;> omega
theorem Kp_inj {xs : List Cl} (h : mayP xs) {i j : Int} (hi : i ∈ pks xs xs.length) (hj : j ∈ pks xs xs.length) (he : Kp xs i = Kp xs j) : i = j := by
 obtain ⟨a, ha, rfl, pa⟩ := mem_pks.1 hi
 obtain ⟨b, hb, rfl, pb⟩ := mem_pks.1 hj
 simp only [Kp, Int.toNat_natCast] at he
 simp only [ptB, Bool.and_eq_true, Bool.not_eq_true', beq_eq_false_iff_ne] at pa pb
 rcases Nat.lt_trichotomy a b with g | g | g
 ·exact absurd (by rw [he]; simp [Cl.moves]) (h.2 a b g hb _ pa.2 (by simp [Cl.moves]))
 ·rw [g]
 ·exact absurd (by rw [← he]; simp [Cl.moves]) (h.2 b a g ha _ pb.2 (by simp [Cl.moves]))
theorem ptsL_perm (xs : List Cl) : (ptsL xs).Perm (pks xs xs.length) := List.mergeSort_perm _ _
theorem ptsL_sorted (xs : List Cl) : ptSorted xs (ptsL xs) := by
 have := List.pairwise_mergeSort (le := fun a b => decide (Kp xs a ≤ Kp xs b)) (fun a b c h1 h2 => by simp only [decide_eq_true_eq] at *; omega) (fun a b => by simp only [Bool.or_eq_true, decide_eq_true_eq]; omega) (pks xs xs.length)
 exact this.imp fun h => by simpa using h
theorem ptsL_uniq {xs : List Cl} (h : mayP xs) {l : List Int} (hp : l.Perm (pks xs xs.length)) (hs : ptSorted xs l) : l = ptsL xs :=
 List.Perm.eq_of_pairwise (le := fun a b => Kp xs a ≤ Kp xs b) (fun a b ha hb h1 h2 => Kp_inj h (hp.mem_iff.1 ha) ((ptsL_perm xs).mem_iff.1 hb) (by omega)) hs (ptsL_sorted xs) (hp.trans (ptsL_perm xs).symm)
theorem ins_perm (l : List Int) (k : Nat) (x : Int) {m : List Int} (h : l.Perm m) : (l.take k ++ x :: l.drop k).Perm (m ++ [x]) := by
 refine (List.perm_middle).trans ?_
 rw [List.take_append_drop]
 exact (List.Perm.cons x h).trans (List.perm_append_singleton x m).symm
theorem ins_sorted {xs : List Cl} {l : List Int} {k : Nat} {x : Int} (hk : k ≤ l.length) (hs : ptSorted xs l) (h1 : ∀ j, k ≤ j → j < l.length → Kp xs x < Kp xs (l.getD j 0)) (h2 : k = 0 ∨ Kp xs (l.getD (k - 1) 0) ≤ Kp xs x) : ptSorted xs (l.take k ++ x :: l.drop k) := by
 unfold ptSorted at *
 have hst : l.take k ++ l.drop k = l := List.take_append_drop _ _
 rw [← hst, List.pairwise_append] at hs
 obtain ⟨ha, hb, hc⟩ := hs
 have hd : ∀ b ∈ l.drop k, Kp xs x ≤ Kp xs b := fun b hb => by
  obtain ⟨j, hj, rfl⟩ := List.getElem_of_mem hb
  simp only [List.length_drop] at hj
  have := h1 (k + j) (by omega) (by omega)
  simp only [List.getElem_drop]
  rw [List.getD_eq_getElem?_getD, List.getElem?_eq_getElem (by omega)] at this
  simp only [Option.getD_some] at this
  omega
 have ht : ∀ a ∈ l.take k, Kp xs a ≤ Kp xs x := fun a h => by
  obtain ⟨j, hj, rfl⟩ := List.getElem_of_mem h
  simp only [List.length_take] at hj
  rcases h2 with h2 | h2
  ·omega
  rw [List.getD_eq_getElem?_getD, List.getElem?_eq_getElem (by omega)] at h2
  simp only [Option.getD_some] at h2
  simp only [List.getElem_take]
  by_cases e : j = k - 1
  ·subst e; exact h2
  ·have hp := List.pairwise_iff_getElem.1 (by rw [← hst, List.pairwise_append]; exact ⟨ha, hb, hc⟩ : l.Pairwise fun a b => Kp xs a ≤ Kp xs b) j (k - 1) (by omega) (by omega) (by omega)
   omega
 rw [List.pairwise_append, List.pairwise_cons]
 refine ⟨ha, ⟨hd, hb⟩, fun a h b h' => ?_⟩
 rcases List.mem_cons.1 h' with rfl | h'
 ·exact ht a h
 ·exact hc a h b h'
end Go.Proofs.Ytkjeedlkkpgopaa.Z
namespace Go.Proofs.Ytkjeedlkkpgopaa.Z
open Go Go.RowKit
def ir41 : IR := (.seq (.ops [⟨(some 6), (.mv (.k (.c (.v (.bool false))))), none⟩]) (.kill [3, 4, 5, 6, 7, 8, 9, 10, 11] (.seq (.draw [(⟨(some 7), (.mv (.t 0)), none⟩, ([], [8])), (⟨(some 8), (.mv (.t 1)), none⟩, ([0], [7])), (⟨(some 9), (.ia 9 (.t 7) (.t 8)), none⟩, ([], [])), (⟨(some 10), (.fa 5 (.t 9)), none⟩, ([], [])), (⟨(some 11), (.ld false 1 (.t 10)), none⟩, ([], [])), (⟨(some 12), (.bin .neq (.t 11) (.k (.c (.v (.int .i64 (-1)))))), none⟩, ([], [])), (⟨(some 13), (.mv (.t 12)), none⟩, ([], [])), (⟨(some 14), (.mv (.t 0)), (some (13, true))⟩, ([], [15, 19, 20, 21, 22, 23])), (⟨(some 15), (.mv (.t 1)), (some (13, true))⟩, ([7], [14, 19, 20, 21, 22, 23])), (⟨(some 16), (.ia 9 (.t 14) (.t 15)), (some (13, true))⟩, ([], [19, 20, 21, 22, 23])), (⟨(some 17), (.fa 5 (.t 16)), (some (13, true))⟩, ([], [19, 20, 21, 22, 23])), (⟨(some 18), (.ld false 1 (.t 17)), (some (13, true))⟩, ([], [19, 20, 21, 22, 23])), (⟨(some 19), (.mv (.t 0)), (some (13, true))⟩, ([7, 8, 9, 10, 11], [14, 15, 16, 17, 18, 20])), (⟨(some 20), (.mv (.t 2)), (some (13, true))⟩, ([7, 8, 9, 10, 11, 12], [14, 15, 16, 17, 18, 19])), (⟨(some 21), (.ia 9 (.t 19) (.t 20)), (some (13, true))⟩, ([7, 8, 9, 10, 11], [14, 15, 16, 17, 18])), (⟨(some 22), (.fa 4 (.t 21)), (some (13, true))⟩, ([7, 8, 9, 10, 11], [14, 15, 16, 17, 18])), (⟨(some 23), (.ld false 1 (.t 22)), (some (13, true))⟩, ([7, 8, 9, 10, 11], [14, 15, 16, 17, 18])), (⟨(some 24), (.bin .lss (.t 18) (.t 23)), (some (13, true))⟩, ([], [])), (⟨(some 25), (.pick (.t 13) (.t 24) (.k (.c (.v (.bool false))))), none⟩, ([], [])), (⟨(some 6), (.mv (.t 25)), none⟩, ([], []))]) (.kill [0, 1, 2, 7, 8, 9, 10, 11, 12, 13, 14, 15, 16, 17, 18, 19, 20, 21, 22, 23, 24, 25] .ret))))
def rs41 : List RS := [(.t 6)]
def nt41 : Nat := 26
def ir21 : IR := (.seq (.ops [⟨(some 2), (.mv (.k (.c (.v (.int .i64 0))))), none⟩]) (.kill [1, 2, 3, 4, 5, 6, 7, 8, 9, 10, 11] (.seq (.ops [⟨(some 3), (.mv (.t 0)), none⟩, ⟨(some 2), (.mv (.t 3)), none⟩]) (.kill [0, 3] .ret))))
def rs21 : List RS := [(.t 2)]
def nt21 : Nat := 4
def aheadB (a b : Cl) : Bool := if (a.fin != -1) = true then decide (a.fin < b.beg) else false
def clA (c : Cl) : SV := .agg [.v (.int .i64 c.thread), .v (.int .i64 c.op), .v (.int .i64 c.arg), .v (.int .i64 c.data), .v (.int .i64 c.beg), .v (.int .i64 c.fin), .v (.int .i64 c.point), .v (.int .i64 c.kind), .v (.int .i64 c.val)]
def iA (n : Int) : SV := .c (.v (.int .i64 n))
set_option maxRecDepth 100000 in
set_option maxHeartbeats 400000 in
theorem rahead_calls (w : World) (v : Value) (xs : List Cl) (i j : Int) (h : Arr w Cl.enc 9 v xs) (hi : 0 ≤ i ∧ i < xs.length) (hj : 0 ≤ j ∧ j < xs.length) : Calls Try.prog 41 #[v, .int .i64 i, .int .i64 j] w (RetV w (.bool (aheadB (xs.getD i.toNat cl0) (xs.getD j.toNat cl0)))) := by
 refine enter1 (A := []) (c := ir41) (rs := rs41) (nt := nt41) cl0 cl_ok h [.c (.xv (0, 0, 0)), iA i, iA j] _ Try.func41 rfl (by kernel_rfl) (by kernel_rfl) rfl (fun E' h0 => by simp [SV.den, SC.den, iA, h0]) (of_decide_eq_true rfl) ?_
 simp only [ir41, nt41, rs41, go_sem, ↓condS, ↓exitS, ↓gateS, ↓runOp, ↓gateD, ↓runD, ↓imp_ft, ↓imp_tf, ↓imp_tt, ↓imp_ff, ↓imp_fn, ↓imp_tn, ↓imp_fy, ↓imp_ty, ↓reduceIte, Nat.reduceLT, Nat.reduceLeDiff, Nat.reduceAdd, Nat.reduceSub, Nat.reduceMul, Nat.reduceEqDiff, reduceCtorEq, Int.reduceToNat, Int.reduceEq, Int.reduceBEq, Int.reduceBNe, Int.reduceLT, Int.reduceLE, Int.reduceNeg, Int.reduceAdd, Int.reduceSub, Int.reduceMul, Int.reduceGE, Int.reduceGT, Cl.enc, iv, endO, dr_cons, iA]
 refine draw_vc (by kernel_rfl) (mkTab_ok _ _) (of_decide_eq_true rfl) (of_decide_eq_true rfl) ?_
 simp only [go_sem, ↓condS, ↓exitS, ↓gateS, ↓runOp, ↓gateD, ↓runD, ↓imp_ft, ↓imp_tf, ↓imp_tt, ↓imp_ff, ↓imp_fn, ↓imp_tn, ↓imp_fy, ↓imp_ty, ↓reduceIte, Nat.reduceLT, Nat.reduceLeDiff, Nat.reduceAdd, Nat.reduceSub, Nat.reduceMul, Nat.reduceEqDiff, reduceCtorEq, Int.reduceToNat, Int.reduceEq, Int.reduceBEq, Int.reduceBNe, Int.reduceLT, Int.reduceLE, Int.reduceNeg, Int.reduceAdd, Int.reduceSub, Int.reduceMul, Int.reduceGE, Int.reduceGT, Cl.enc, iv, endO, dr_cons]
 have i2 : i.toNat < xs.length := by omega
 have j2 : j.toNat < xs.length := by omega
 exact ⟨hi, i2, i2, fun _ => hi, fun _ => i2, fun _ => i2, fun _ => hj, fun _ => j2, fun _ => j2, retV fun E => by rw [den_c, den_b, aheadB]⟩
set_option maxRecDepth 100000 in
set_option maxHeartbeats 400000 in
theorem num_calls (w : World) (n : Int) : Calls Try.prog 21 #[.int .i64 n] w (RetV w (.int .i64 n)) := by
 refine enter0 (A := []) (c := ir21) (rs := rs21) (nt := nt21) [iA n] _ Try.func21 rfl (by kernel_rfl) (by kernel_rfl) rfl (fun E' => by simp [iA, SV.den, SC.den]) (of_decide_eq_true rfl) ?_
 simp only [ir21, nt21, rs21, go_sem, ↓condS, ↓exitS, ↓gateS, ↓runOp, ↓gateD, ↓runD, ↓imp_ft, ↓imp_tf, ↓imp_tt, ↓imp_ff, ↓imp_fn, ↓imp_tn, ↓imp_fy, ↓imp_ty, ↓reduceIte, Nat.reduceLT, Nat.reduceLeDiff, Nat.reduceAdd, Nat.reduceSub, Nat.reduceMul, Nat.reduceEqDiff, reduceCtorEq, Int.reduceToNat, Int.reduceEq, Int.reduceBEq, Int.reduceBNe, Int.reduceLT, Int.reduceLE, Int.reduceNeg, Int.reduceAdd, Int.reduceSub, Int.reduceMul, Int.reduceGE, Int.reduceGT, Cl.enc, iv, endO, dr_cons, iA]
 exact retV fun E => by rw [den_c, den_v]
end Go.Proofs.Ytkjeedlkkpgopaa.Z
namespace Go.Proofs.Ytkjeedlkkpgopaa.Z
open Go Go.RowKit
def cnt (p : Nat → Bool) : Nat → Nat
 | 0 => 0
 | k + 1 => cnt p k + (if p k = true then 1 else 0)
end Go.Proofs.Ytkjeedlkkpgopaa.Z
namespace Go.Proofs.Ytkjeedlkkpgopaa.Z
open Go Go.RowKit
def ir23 : IR := (.seq (.ops [⟨(some 4), (.mv (.k (.c (.v (.bool false))))), none⟩]) (.kill [2, 3, 4, 5, 6, 7, 8, 9, 10, 11] (.seq (.seq (.ops [⟨(some 6), (.mv (.t 0)), none⟩, ⟨(some 7), (.len (.t 6)), none⟩, ⟨(some 8), (.mv (.t 1)), none⟩, ⟨(some 9), (.len (.t 8)), none⟩, ⟨(some 10), (.bin .neq (.t 7) (.t 9)), none⟩]) (.kill [6, 7, 8, 9] (.cond (.t 10) (.seq (.ops [⟨(some 4), (.mv (.k (.c (.v (.bool false))))), none⟩]) (.kill [0, 1, 10] .ret)) .skip))) (.kill [4, 10] (.seq (.seq (.ops [⟨(some 5), (.mv (.k (.c (.v (.int .i64 0))))), none⟩]) (.blk 0 (.loop (.seq (.seq (.ops [⟨(some 11), (.mv (.t 5)), none⟩, ⟨(some 12), (.mv (.t 0)), none⟩, ⟨(some 13), (.len (.t 12)), none⟩, ⟨(some 14), (.bin .lss (.t 11) (.t 13)), none⟩]) (.kill [4, 11, 12, 13, 15, 16, 17, 18, 19, 20, 21, 22, 23, 24, 25] (.cond (.t 14) .skip (.exit 0)))) (.kill [14] (.seq (.blk 1 (.seq (.draw [(⟨(some 17), (.mv (.t 0)), none⟩, ([], [18, 21, 22, 23, 24])), (⟨(some 18), (.mv (.t 5)), none⟩, ([0], [17, 21, 22, 23, 24])), (⟨(some 19), (.ia 1 (.t 17) (.t 18)), none⟩, ([], [21, 22, 23, 24])), (⟨(some 20), (.ld false 1 (.t 19)), none⟩, ([], [21, 22, 23, 24])), (⟨(some 21), (.mv (.t 1)), none⟩, ([0, 1, 2, 3], [17, 18, 19, 20, 22])), (⟨(some 22), (.mv (.t 5)), none⟩, ([0, 1, 2, 3, 4], [17, 18, 19, 20, 21])), (⟨(some 23), (.ia 1 (.t 21) (.t 22)), none⟩, ([0, 1, 2, 3], [17, 18, 19, 20])), (⟨(some 24), (.ld false 1 (.t 23)), none⟩, ([0, 1, 2, 3], [17, 18, 19, 20])), (⟨(some 25), (.bin .neq (.t 20) (.t 24)), none⟩, ([], []))]) (.kill [17, 18, 19, 20, 21, 22, 23, 24] (.cond (.t 25) (.seq (.ops [⟨(some 4), (.mv (.k (.c (.v (.bool false))))), none⟩]) (.kill [0, 1, 5, 25] .ret)) .skip)))) (.kill [4, 17, 18, 19, 20, 21, 22, 23, 24, 25] (.ops [⟨(some 15), (.mv (.t 5)), none⟩, ⟨(some 16), (.bin .add (.t 15) (.k (.c (.v (.int .i64 1))))), none⟩, ⟨(some 5), (.mv (.t 16)), none⟩])))))))) (.kill [0, 1, 4, 5, 11, 12, 13, 14, 15, 16, 17, 18, 19, 20, 21, 22, 23, 24, 25] (.seq (.ops [⟨(some 4), (.mv (.k (.c (.v (.bool true))))), none⟩]) .ret)))))))
def rs23 : List RS := [(.t 4)]
def nt23 : Nat := 26
set_option maxRecDepth 100000 in
set_option maxHeartbeats 400000 in
theorem same_calls (w : World) (v v' : Value) (xs ys : List Int) (h : Arr w eI 1 v xs) (h' : Arr w eI 1 v' ys) : Calls Try.prog 23 #[v, v'] w (RetV w (.bool (decide (xs = ys)))) := by
 have hlen := Z.Arr.lenM h
 simp only [maxLen] at hlen
 refine enter2 (A := []) (c := ir23) (rs := rs23) (nt := nt23) 0 eI_ok h 0 eI_ok h' [.c (.xv (0, 0, 0)), .c (.xv (1, 0, 0))] _ Try.func23 rfl (by kernel_rfl) (by kernel_rfl) rfl (fun E' h0 h1 => by simp [SV.den, SC.den, h0, h1]) (of_decide_eq_true rfl) ?_
 simp only [ir23, nt23, rs23, go_sem, ↓condS, ↓exitS, ↓gateS, ↓runOp, ↓gateD, ↓runD, ↓imp_ft, ↓imp_tf, ↓imp_tt, ↓imp_ff, ↓imp_fn, ↓imp_tn, ↓imp_fy, ↓imp_ty, ↓reduceIte, Nat.reduceLT, Nat.reduceLeDiff, Nat.reduceAdd, Nat.reduceSub, Nat.reduceMul, Nat.reduceEqDiff, reduceCtorEq, Int.reduceToNat, Int.reduceEq, Int.reduceBEq, Int.reduceBNe, Int.reduceLT, Int.reduceLE, Int.reduceNeg, Int.reduceAdd, Int.reduceSub, Int.reduceMul, Int.reduceGE, Int.reduceGT, Cl.enc, iv, endO, dr_cons]
 refine both (fun hne => ?_) (fun heq => ?_)
 ·refine retV fun E => ?_
  rw [den_c, den_v, Value.bool.injEq, eq_comm, decide_eq_false_iff_not]
  rintro rfl
  simp at hne
 ·have hl : xs.length = ys.length := by
   have := heq
   simp only [b_decR, b_decL, bt_ite, bf_ite, bt_dec, bf_dec, bt_int, bf_int, bt_nint, bf_nint, bt_bool, bf_bool, bt_nbool, bf_nbool, bt_not, bf_not, bt_and, bf_and, bt_or, bf_or, Bool.false_eq_true, Bool.true_eq_false, Bool.not_eq_true, Bool.not_eq_false, reduceCtorEq, false_iff, true_iff, iff_false, iff_true, and_true, true_and, and_false, false_and, or_true, true_or, or_false, false_or, not_true_eq_false, not_false_eq_true, ne_eq] at this
   omega
  refine loopI (ι := { i : Nat // i ≤ xs.length ∧ ∀ k, k < i → xs.getD k 0 = ys.getD k 0 }) (fun i => ⟨26, [(0, .c (.xv (0, 0, 0))), (1, .c (.xv (1, 0, 0))), (5, .c (.v (.int .i64 (i.1 : Nat))))], [], [(0, .one (arrOf eI 1 xs 0)), (1, .one (arrOf eI 1 ys 0))], [], 2⟩)
   (fun i => xs.length - i.1) ⟨0, by omega, fun k hk => by omega⟩ (le_tmps (by simp [TmpsSub, look])) ?_
  rintro ⟨i, hi, hg⟩
  simp only [go_sem, ↓condS, ↓exitS, ↓gateS, ↓runOp, ↓gateD, ↓runD, ↓imp_ft, ↓imp_tf, ↓imp_tt, ↓imp_ff, ↓imp_fn, ↓imp_tn, ↓imp_fy, ↓imp_ty, ↓reduceIte, Nat.reduceLT, Nat.reduceLeDiff, Nat.reduceAdd, Nat.reduceSub, Nat.reduceMul, Nat.reduceEqDiff, reduceCtorEq, Int.reduceToNat, Int.reduceEq, Int.reduceBEq, Int.reduceBNe, Int.reduceLT, Int.reduceLE, Int.reduceNeg, Int.reduceAdd, Int.reduceSub, Int.reduceMul, Int.reduceGE, Int.reduceGT, Cl.enc, iv, endO, dr_cons, eI]
  refine both (fun hlt => ?_) (fun hge => ?_)
  ·rw [decide_eq_true_eq] at hlt
   refine draw_vc (by kernel_rfl) (mkTab_ok _ _) (of_decide_eq_true rfl) (of_decide_eq_true rfl) ?_
   simp only [go_sem, ↓condS, ↓exitS, ↓gateS, ↓runOp, ↓gateD, ↓runD, ↓imp_ft, ↓imp_tf, ↓imp_tt, ↓imp_ff, ↓imp_fn, ↓imp_tn, ↓imp_fy, ↓imp_ty, ↓reduceIte, Nat.reduceLT, Nat.reduceLeDiff, Nat.reduceAdd, Nat.reduceSub, Nat.reduceMul, Nat.reduceEqDiff, reduceCtorEq, Int.reduceToNat, Int.reduceEq, Int.reduceBEq, Int.reduceBNe, Int.reduceLT, Int.reduceLE, Int.reduceNeg, Int.reduceAdd, Int.reduceSub, Int.reduceMul, Int.reduceGE, Int.reduceGT, Cl.enc, iv, endO, dr_cons, eI]
   have hy : i < ys.length := by omega
   refine ⟨hlt, hlt, hy, hy, fun hne => ?_, fun heq => ?_⟩
   ·refine retV fun E => ?_
    rw [den_c, den_v, Value.bool.injEq, eq_comm, decide_eq_false_iff_not]
    rintro rfl
    simp at hne
   ·rw [wr_succ (by omega)]
    refine backI ⟨i + 1, by omega, fun k hk => ?_⟩ (by simp only; omega) (le_tmps (by simp [TmpsSub, look]))
    by_cases e : k = i
    ·subst e
     simpa using heq
    ·exact hg k (by omega)
  ·rw [decide_eq_false_iff_not] at hge
   have : xs = ys := by
    refine List.ext_getElem hl fun k hk hk' => ?_
    have := hg k (by omega)
    simpa [List.getD_eq_getElem?_getD, List.getElem?_eq_getElem hk, List.getElem?_eq_getElem hk'] using this
   exact retV fun E => by simp [SV.den, SC.den, this]
end Go.Proofs.Ytkjeedlkkpgopaa.Z
namespace Go.Proofs.Ytkjeedlkkpgopaa.Z
open Go Go.RowKit
theorem objW (op : Int) (w : World) : Calls Try.prog 59 #[.int .i64 op] w (RetV w (.int .i64 (objOf op))) := (mObject op w).mono fun e w' h => ⟨h.1, h.2 ▸ Below.refl _ _⟩
theorem objR (op : Int) (w : World) : Calls Try.prog 62 #[.int .i64 op] w (RetV w (.int .i64 (objOf op))) := (rObject0 op w).mono fun e w' h => ⟨h.1, h.2 ▸ Below.refl _ _⟩
def ir42 : IR := (.seq (.ops [⟨(some 1), (.box 53 (.t 0)), none⟩, ⟨(some 2), (.mv (.k (.c (.v (.bool false))))), none⟩]) (.kill [0, 2, 3, 4, 5, 6, 7, 8, 9, 10, 11] (.seq (.ops [⟨(some 3), (.fa 1 (.t 1)), none⟩, ⟨(some 4), (.ld false 1 (.t 3)), none⟩, ⟨(some 5), (.call 59 [(.t 4)]), none⟩, ⟨(some 6), (.bin .neq (.t 5) (.k (.c (.v (.int .i64 0))))), none⟩, ⟨(some 2), (.mv (.t 6)), none⟩]) (.kill [1, 3, 4, 5, 6] .ret))))
def rs42 : List RS := [(.t 2)]
def nt42 : Nat := 7
def ir45 : IR := (.seq (.ops [⟨(some 1), (.box 53 (.t 0)), none⟩, ⟨(some 2), (.mv (.k (.c (.v (.bool false))))), none⟩]) (.kill [0, 2, 3, 4, 5, 6, 7, 8, 9, 10, 11] (.seq (.ops [⟨(some 3), (.fa 1 (.t 1)), none⟩, ⟨(some 4), (.ld false 1 (.t 3)), none⟩, ⟨(some 5), (.call 62 [(.t 4)]), none⟩, ⟨(some 6), (.bin .neq (.t 5) (.k (.c (.v (.int .i64 0))))), none⟩, ⟨(some 2), (.mv (.t 6)), none⟩]) (.kill [1, 3, 4, 5, 6] .ret))))
def rs45 : List RS := [(.t 2)]
def nt45 : Nat := 7
set_option maxRecDepth 100000 in
set_option maxHeartbeats 400000 in
theorem counts_calls (w : World) (c : Cl) : Calls Try.prog 42 #[.agg c.enc.toArray] w (RetV w (.bool (objOf c.op != 0))) := by
 refine enter0 (A := []) (c := ir42) (rs := rs42) (nt := nt42) [clA c] _ Try.func42 rfl (by kernel_rfl) (by kernel_rfl) rfl (fun E' => by simp [clA, SV.den, SC.den, Cl.enc, iv]) (of_decide_eq_true rfl) ?_
 simp (maxSteps := 2000000) only [ir42, nt42, rs42, go_sem, ↓condS, ↓exitS, ↓gateS, ↓runOp, ↓gateD, ↓runD, ↓imp_ft, ↓imp_tf, ↓imp_tt, ↓imp_ff, ↓imp_fn, ↓imp_tn, ↓imp_fy, ↓imp_ty, ↓reduceIte, Nat.reduceLT, Nat.reduceLeDiff, Nat.reduceAdd, Nat.reduceSub, Nat.reduceMul, Nat.reduceEqDiff, reduceCtorEq, Int.reduceToNat, Int.reduceEq, Int.reduceBEq, Int.reduceBNe, Int.reduceLT, Int.reduceLE, Int.reduceNeg, Int.reduceAdd, Int.reduceSub, Int.reduceMul, Int.reduceGE, Int.reduceGT, Cl.enc, iv, endO, clA]
 refine callV (.c (.v (.int .i64 (objOf c.op)))) _ (fun E => rfl) (fun E a w' hs => objW c.op w') ?_
 simp (maxSteps := 2000000) only [go_sem, ↓condS, ↓exitS, ↓gateS, ↓runOp, ↓gateD, ↓runD, ↓imp_ft, ↓imp_tf, ↓imp_tt, ↓imp_ff, ↓imp_fn, ↓imp_tn, ↓imp_fy, ↓imp_ty, ↓reduceIte, Nat.reduceLT, Nat.reduceLeDiff, Nat.reduceAdd, Nat.reduceSub, Nat.reduceMul, Nat.reduceEqDiff, reduceCtorEq, Int.reduceToNat, Int.reduceEq, Int.reduceBEq, Int.reduceBNe, Int.reduceLT, Int.reduceLE, Int.reduceNeg, Int.reduceAdd, Int.reduceSub, Int.reduceMul, Int.reduceGE, Int.reduceGT, Cl.enc, iv, endO]
 exact retV fun E => by simp [SV.den, SC.den]
set_option maxRecDepth 100000 in
set_option maxHeartbeats 400000 in
theorem rcounts_calls (w : World) (c : Cl) : Calls Try.prog 45 #[.agg c.enc.toArray] w (RetV w (.bool (objOf c.op != 0))) := by
 refine enter0 (A := []) (c := ir45) (rs := rs45) (nt := nt45) [clA c] _ Try.func45 rfl (by kernel_rfl) (by kernel_rfl) rfl (fun E' => by simp [clA, SV.den, SC.den, Cl.enc, iv]) (of_decide_eq_true rfl) ?_
 simp (maxSteps := 2000000) only [ir45, nt45, rs45, go_sem, ↓condS, ↓exitS, ↓gateS, ↓runOp, ↓gateD, ↓runD, ↓imp_ft, ↓imp_tf, ↓imp_tt, ↓imp_ff, ↓imp_fn, ↓imp_tn, ↓imp_fy, ↓imp_ty, ↓reduceIte, Nat.reduceLT, Nat.reduceLeDiff, Nat.reduceAdd, Nat.reduceSub, Nat.reduceMul, Nat.reduceEqDiff, reduceCtorEq, Int.reduceToNat, Int.reduceEq, Int.reduceBEq, Int.reduceBNe, Int.reduceLT, Int.reduceLE, Int.reduceNeg, Int.reduceAdd, Int.reduceSub, Int.reduceMul, Int.reduceGE, Int.reduceGT, Cl.enc, iv, endO, clA]
 refine callV (.c (.v (.int .i64 (objOf c.op)))) _ (fun E => rfl) (fun E a w' hs => objR c.op w') ?_
 simp (maxSteps := 2000000) only [go_sem, ↓condS, ↓exitS, ↓gateS, ↓runOp, ↓gateD, ↓runD, ↓imp_ft, ↓imp_tf, ↓imp_tt, ↓imp_ff, ↓imp_fn, ↓imp_tn, ↓imp_fy, ↓imp_ty, ↓reduceIte, Nat.reduceLT, Nat.reduceLeDiff, Nat.reduceAdd, Nat.reduceSub, Nat.reduceMul, Nat.reduceEqDiff, reduceCtorEq, Int.reduceToNat, Int.reduceEq, Int.reduceBEq, Int.reduceBNe, Int.reduceLT, Int.reduceLE, Int.reduceNeg, Int.reduceAdd, Int.reduceSub, Int.reduceMul, Int.reduceGE, Int.reduceGT, Cl.enc, iv, endO]
 exact retV fun E => by simp [SV.den, SC.den]
def ir24 : IR := (.seq (.ops [⟨(some 2), (.mv (.k (.c (.v (.slice none 0 0))))), none⟩]) (.kill [1, 2, 3, 4, 5, 6, 7, 8, 9, 10, 11] (.seq (.ops [⟨(some 3), (.mv (.k (.c (.v (.slice none 0 0))))), none⟩]) (.seq (.seq (.ops [⟨(some 4), (.mv (.k (.c (.v (.int .i64 0))))), none⟩]) (.blk 0 (.loop (.seq (.seq (.ops [⟨(some 6), (.mv (.t 4)), none⟩, ⟨(some 7), (.mv (.t 0)), none⟩, ⟨(some 8), (.len (.t 7)), none⟩, ⟨(some 9), (.bin .lss (.t 6) (.t 8)), none⟩]) (.kill [5, 6, 7, 8, 10, 11, 12, 13, 14, 15, 16, 17, 18, 19, 20, 21, 22, 23, 24, 25, 26, 27, 28, 29, 30, 31, 32, 33, 34, 35, 36, 37, 38, 39, 40, 41, 42, 43, 44, 45, 46, 47, 48, 49, 50, 51, 52, 53, 54, 55, 56, 57, 58, 59, 60, 61, 62, 63, 64, 65, 66, 67, 68, 69, 70, 71, 72] (.cond (.t 9) .skip (.exit 0)))) (.kill [9] (.seq (.blk 1 (.seq (.seq (.ops [⟨(some 12), (.mv (.t 0)), none⟩, ⟨(some 13), (.mv (.t 4)), none⟩, ⟨(some 14), (.ia 9 (.t 12) (.t 13)), none⟩, ⟨(some 15), (.ld true 9 (.t 14)), none⟩, ⟨(some 16), (.call 45 [(.t 15)]), none⟩, ⟨(some 17), (.un .not (.t 16)), none⟩, ⟨(some 18), (.mv (.t 17)), none⟩, ⟨(some 19), (.mv (.t 0)), (some (18, false))⟩, ⟨(some 20), (.mv (.t 4)), (some (18, false))⟩, ⟨(some 21), (.ia 9 (.t 19) (.t 20)), (some (18, false))⟩, ⟨(some 22), (.fa 6 (.t 21)), (some (18, false))⟩, ⟨(some 23), (.ld false 1 (.t 22)), (some (18, false))⟩, ⟨(some 24), (.bin .eql (.t 23) (.k (.c (.v (.int .i64 (-1)))))), (some (18, false))⟩, ⟨(some 25), (.pick (.t 18) (.k (.c (.v (.bool true)))) (.t 24)), none⟩]) (.kill [12, 13, 14, 15, 16, 17, 18, 19, 20, 21, 22, 23, 24] (.cond (.t 25) (.exit 1) .skip))) (.kill [25] (.seq (.ops [⟨(some 26), (.mv (.t 3)), none⟩, ⟨(some 27), (.mv (.t 4)), none⟩, ⟨(some 28), (.mkSl 3 1 1 [(.v (.int .i64 0))] [(0, (1, (.t 27)))]), none⟩, ⟨(some 29), (.app 3 1 8 [(.v (.int .i64 0))] (.t 26) (.t 28)), none⟩, ⟨(some 3), (.mv (.t 29)), none⟩]) (.kill [26, 27, 28, 29] (.seq (.ops [⟨(some 30), (.mv (.t 3)), none⟩, ⟨(some 31), (.len (.t 30)), none⟩, ⟨(some 32), (.bin .sub (.t 31) (.k (.c (.v (.int .i64 1))))), none⟩, ⟨(some 5), (.mv (.t 32)), none⟩]) (.kill [30, 31, 32] (.blk 2 (.loop (.seq (.seq (.draw [(⟨(some 33), (.mv (.t 5)), none⟩, ([], [])), (⟨(some 34), (.bin .gtr (.t 33) (.k (.c (.v (.int .i64 0))))), none⟩, ([], [])), (⟨(some 35), (.mv (.t 34)), none⟩, ([], [])), (⟨(some 36), (.mv (.t 0)), (some (35, true))⟩, ([], [37, 38, 39, 40, 41, 45, 46, 47, 48, 49, 50, 51, 52])), (⟨(some 37), (.mv (.t 3)), (some (35, true))⟩, ([3], [36, 38, 39, 45, 46, 47, 48, 49, 50, 51, 52])), (⟨(some 38), (.mv (.t 5)), (some (35, true))⟩, ([3, 4], [36, 37, 45, 46, 47, 48, 49, 50, 51, 52])), (⟨(some 39), (.bin .sub (.t 38) (.k (.c (.v (.int .i64 1))))), (some (35, true))⟩, ([3, 4], [36, 37, 45, 46, 47, 48, 49, 50, 51, 52])), (⟨(some 40), (.ia 1 (.t 37) (.t 39)), (some (35, true))⟩, ([3], [36, 45, 46, 47, 48, 49, 50, 51, 52])), (⟨(some 41), (.ld false 1 (.t 40)), (some (35, true))⟩, ([3], [36, 45, 46, 47, 48, 49, 50, 51, 52])), (⟨(some 42), (.ia 9 (.t 36) (.t 41)), (some (35, true))⟩, ([], [45, 46, 47, 48, 49, 50, 51, 52])), (⟨(some 43), (.fa 6 (.t 42)), (some (35, true))⟩, ([], [45, 46, 47, 48, 49, 50, 51, 52])), (⟨(some 44), (.ld false 1 (.t 43)), (some (35, true))⟩, ([], [45, 46, 47, 48, 49, 50, 51, 52])), (⟨(some 45), (.mv (.t 0)), (some (35, true))⟩, ([3, 4, 5, 6, 7, 8, 9, 10, 11], [36, 37, 38, 39, 40, 41, 42, 43, 44, 46, 47, 48, 49])), (⟨(some 46), (.mv (.t 3)), (some (35, true))⟩, ([3, 4, 5, 6, 7, 8, 9, 10, 11, 12], [36, 37, 38, 39, 40, 41, 42, 43, 44, 45, 47])), (⟨(some 47), (.mv (.t 5)), (some (35, true))⟩, ([3, 4, 5, 6, 7, 8, 9, 10, 11, 12, 13], [36, 37, 38, 39, 40, 41, 42, 43, 44, 45, 46])), (⟨(some 48), (.ia 1 (.t 46) (.t 47)), (some (35, true))⟩, ([3, 4, 5, 6, 7, 8, 9, 10, 11, 12], [36, 37, 38, 39, 40, 41, 42, 43, 44, 45])), (⟨(some 49), (.ld false 1 (.t 48)), (some (35, true))⟩, ([3, 4, 5, 6, 7, 8, 9, 10, 11, 12], [36, 37, 38, 39, 40, 41, 42, 43, 44, 45])), (⟨(some 50), (.ia 9 (.t 45) (.t 49)), (some (35, true))⟩, ([3, 4, 5, 6, 7, 8, 9, 10, 11], [36, 37, 38, 39, 40, 41, 42, 43, 44])), (⟨(some 51), (.fa 6 (.t 50)), (some (35, true))⟩, ([3, 4, 5, 6, 7, 8, 9, 10, 11], [36, 37, 38, 39, 40, 41, 42, 43, 44])), (⟨(some 52), (.ld false 1 (.t 51)), (some (35, true))⟩, ([3, 4, 5, 6, 7, 8, 9, 10, 11], [36, 37, 38, 39, 40, 41, 42, 43, 44])), (⟨(some 53), (.bin .gtr (.t 44) (.t 52)), (some (35, true))⟩, ([], [])), (⟨(some 54), (.pick (.t 35) (.t 53) (.k (.c (.v (.bool false))))), none⟩, ([], []))]) (.kill [33, 34, 35, 36, 37, 38, 39, 40, 41, 42, 43, 44, 45, 46, 47, 48, 49, 50, 51, 52, 53, 55, 56, 57, 58, 59, 60, 61, 62, 63, 64, 65, 66, 67, 68, 69, 70, 71, 72] (.cond (.t 54) .skip (.exit 2)))) (.kill [54] (.seq (.blk 3 (.draw [(⟨(some 57), (.mv (.t 3)), none⟩, ([], [58, 59, 60, 61, 62, 63, 64, 65, 66, 67, 68, 69, 70])), (⟨(some 58), (.mv (.t 5)), none⟩, ([0], [57, 60, 61, 62, 63, 64, 65, 66, 67, 68, 69, 70])), (⟨(some 59), (.bin .sub (.t 58) (.k (.c (.v (.int .i64 1))))), none⟩, ([0], [57, 60, 61, 62, 63, 64, 65, 66, 67, 68, 69, 70])), (⟨(some 60), (.mv (.t 3)), none⟩, ([0, 1, 2], [57, 58, 59, 61, 62, 63, 64, 65, 66, 67, 68, 69, 70, 71])), (⟨(some 61), (.mv (.t 5)), none⟩, ([0, 1, 2, 3], [57, 58, 59, 60, 62, 63, 64, 65, 66, 67, 68, 69, 70, 71])), (⟨(some 62), (.mv (.t 3)), none⟩, ([0, 1, 2, 3, 4], [57, 58, 59, 60, 61, 63, 66, 67, 68, 69, 70])), (⟨(some 63), (.mv (.t 5)), none⟩, ([0, 1, 2, 3, 4, 5], [57, 58, 59, 60, 61, 62, 66, 67, 68, 69, 70])), (⟨(some 64), (.ia 1 (.t 62) (.t 63)), none⟩, ([0, 1, 2, 3, 4], [57, 58, 59, 60, 61, 66, 67, 68, 69, 70])), (⟨(some 65), (.ld false 1 (.t 64)), none⟩, ([0, 1, 2, 3, 4], [57, 58, 59, 60, 61, 66, 67, 68, 69, 70])), (⟨(some 66), (.mv (.t 3)), none⟩, ([0, 1, 2, 3, 4, 5, 6, 7, 8], [57, 58, 59, 60, 61, 62, 63, 64, 65, 67, 68])), (⟨(some 67), (.mv (.t 5)), none⟩, ([0, 1, 2, 3, 4, 5, 6, 7, 8, 9], [57, 58, 59, 60, 61, 62, 63, 64, 65, 66])), (⟨(some 68), (.bin .sub (.t 67) (.k (.c (.v (.int .i64 1))))), none⟩, ([0, 1, 2, 3, 4, 5, 6, 7, 8, 9], [57, 58, 59, 60, 61, 62, 63, 64, 65, 66])), (⟨(some 69), (.ia 1 (.t 66) (.t 68)), none⟩, ([0, 1, 2, 3, 4, 5, 6, 7, 8], [57, 58, 59, 60, 61, 62, 63, 64, 65])), (⟨(some 70), (.ld false 1 (.t 69)), none⟩, ([0, 1, 2, 3, 4, 5, 6, 7, 8], [57, 58, 59, 60, 61, 62, 63, 64, 65])), (⟨(some 71), (.ia 1 (.t 57) (.t 59)), none⟩, ([3, 4], [60, 61])), (⟨none, (.st 1 (.t 71) (.t 65)), none⟩, ([3, 4], [60, 61])), (⟨(some 72), (.ia 1 (.t 60) (.t 61)), none⟩, ([], [])), (⟨none, (.st 1 (.t 72) (.t 70)), none⟩, ([], []))])) (.kill [57, 58, 59, 60, 61, 62, 63, 64, 65, 66, 67, 68, 69, 70, 71, 72] (.ops [⟨(some 55), (.mv (.t 5)), none⟩, ⟨(some 56), (.bin .sub (.t 55) (.k (.c (.v (.int .i64 1))))), none⟩, ⟨(some 5), (.mv (.t 56)), none⟩])))))))))))))) (.kill [5, 12, 13, 14, 15, 16, 17, 18, 19, 20, 21, 22, 23, 24, 25, 26, 27, 28, 29, 30, 31, 32, 33, 34, 35, 36, 37, 38, 39, 40, 41, 42, 43, 44, 45, 46, 47, 48, 49, 50, 51, 52, 53, 54, 55, 56, 57, 58, 59, 60, 61, 62, 63, 64, 65, 66, 67, 68, 69, 70, 71, 72] (.ops [⟨(some 10), (.mv (.t 4)), none⟩, ⟨(some 11), (.bin .add (.t 10) (.k (.c (.v (.int .i64 1))))), none⟩, ⟨(some 4), (.mv (.t 11)), none⟩])))))))) (.kill [0, 4, 5, 6, 7, 8, 9, 10, 11, 12, 13, 14, 15, 16, 17, 18, 19, 20, 21, 22, 23, 24, 25, 26, 27, 28, 29, 30, 31, 32, 33, 34, 35, 36, 37, 38, 39, 40, 41, 42, 43, 44, 45, 46, 47, 48, 49, 50, 51, 52, 53, 54, 55, 56, 57, 58, 59, 60, 61, 62, 63, 64, 65, 66, 67, 68, 69, 70, 71, 72] (.seq (.ops [⟨(some 73), (.mv (.t 3)), none⟩, ⟨(some 2), (.mv (.t 73)), none⟩]) (.kill [3, 73] .ret)))))))
def rs24 : List RS := [(.t 2)]
def nt24 : Nat := 74
def insL (L : List Int) (k : Nat) (x : Int) : List Int := L.take k ++ x :: L.drop k
theorem insL_len {L : List Int} {k : Nat} {x : Int} (h : k ≤ L.length) : (insL L k x).length = L.length + 1 := by simp [insL]; omega
theorem insL_at {L : List Int} {k : Nat} {x : Int} (h : k ≤ L.length) : (insL L k x).getD k 0 = x := by
 simp [insL, List.getD_eq_getElem?_getD, List.getElem?_append_right, Nat.min_eq_left h]
theorem insL_pre {L : List Int} {k : Nat} {x : Int} (h : k < L.length) : (insL L (k + 1) x).getD k 0 = L.getD k 0 := by
 simp [insL, List.getD_eq_getElem?_getD, List.getElem?_append_left (show k < (L.take (k + 1)).length by simp; omega), List.getElem?_take]
theorem insL_end {L : List Int} {x : Int} : insL L L.length x = L ++ [x] := by simp [insL]
theorem insL_swap {L : List Int} {k : Nat} {x : Int} (h : k < L.length) (e : Nat) : (insL L k x).getD e 0 = if e = k then x else if e = k + 1 then L.getD k 0 else (insL L (k + 1) x).getD e 0 := by
 have h1 : k ≤ L.length := by omega
 by_cases e1 : e = k
 ·subst e1; rw [insL_at h1, if_pos rfl]
 ·rw [if_neg e1]
  by_cases e2 : e = k + 1
  ·subst e2
   rw [if_pos rfl]
   simp [insL, List.getD_eq_getElem?_getD, List.getElem?_append_right, Nat.min_eq_left h1]
  ·rw [if_neg e2]
   simp only [insL, List.getD_eq_getElem?_getD]
   by_cases e3 : e < k
   ·rw [List.getElem?_append_left (by simp; omega), List.getElem?_append_left (by simp; omega), List.getElem?_take_of_lt e3, List.getElem?_take_of_lt (by omega)]
   ·have hk1 : (L.take k).length = k := by simp; omega
    have hk2 : (L.take (k + 1)).length = k + 1 := by simp; omega
    rw [List.getElem?_append_right (by omega), List.getElem?_append_right (by omega), hk1, hk2]
    obtain ⟨d, rfl⟩ : ∃ d, e = k + 2 + d := ⟨e - k - 2, by omega⟩
    rw [show k + 2 + d - k = (d + 1) + 1 by omega, show k + 2 + d - (k + 1) = d + 1 by omega]
    simp only [List.getElem?_cons_succ, List.getElem?_drop]
    rw [show k + (d + 1) = k + 1 + d by omega]
structure PtI (xs : List Cl) where
 i : Nat
 L : List Int
 hi : i ≤ xs.length
 perm : L.Perm (pks xs i)
 srt : ptSorted xs L
theorem PtI.len {xs : List Cl} (p : PtI xs) : p.L.length ≤ p.i := by rw [p.perm.length_eq]; exact pks_len _ _
theorem PtI.at_ {xs : List Cl} (p : PtI xs) {j : Nat} (h : j < p.L.length) : ∃ k : Nat, k < p.i ∧ p.L.getD j 0 = k := by
 have : p.L.getD j 0 ∈ p.L := by rw [List.getD_eq_getElem?_getD, List.getElem?_eq_getElem h]; exact List.getElem_mem h
 obtain ⟨k, h1, h2, _⟩ := mem_pks.1 (p.perm.mem_iff.1 this)
 exact ⟨k, h1, h2⟩
set_option maxRecDepth 100000 in
set_option maxHeartbeats 400000 in
theorem rpoints_calls (w : World) (v : Value) (xs : List Cl) (hm : mayP xs) (hsz : xs.length * 72 ≤ 140737488355328) (h : Arr w Cl.enc 9 v xs) : Calls Try.prog 24 #[v] w (RetN w 1 (lsT 1 (ptsL xs).length) (lsO 3 1 eI (ptsL xs) 0)) := by
 refine enter1 (A := []) (c := ir24) (rs := rs24) (nt := nt24) cl0 cl_ok h [.c (.xv (0, 0, 0))] _ Try.func24 rfl (by kernel_rfl) (by kernel_rfl) rfl (fun E' h0 => by simp [SV.den, SC.den, h0]) (of_decide_eq_true rfl) ?_
 simp (maxSteps := 2000000) only [ir24, nt24, rs24, go_sem, ↓condS, ↓exitS, ↓gateS, ↓runOp, ↓gateD, ↓runD, ↓imp_ft, ↓imp_tf, ↓imp_tt, ↓imp_ff, ↓imp_fn, ↓imp_tn, ↓imp_fy, ↓imp_ty, ↓reduceIte, Nat.reduceLT, Nat.reduceLeDiff, Nat.reduceAdd, Nat.reduceSub, Nat.reduceMul, Nat.reduceEqDiff, reduceCtorEq, Int.reduceToNat, Int.reduceEq, Int.reduceBEq, Int.reduceBNe, Int.reduceLT, Int.reduceLE, Int.reduceNeg, Int.reduceAdd, Int.reduceSub, Int.reduceMul, Int.reduceGE, Int.reduceGT, Cl.enc, iv, endO]
 refine loopI (ι := PtI xs) (fun p => ⟨74, [(0, .c (.xv (0, 0, 0))), (3, .c (.sl (1, 0, 0) 1 0 p.L.length none)), (4, .c (.v (.int .i64 (p.i : Nat))))],
  [(1, .one (.ar p.L.length 1 (ats eI p.L 0) 3))], [(0, .one (arrOf Cl.enc 9 xs cl0))], [], 2⟩)
  (fun p => xs.length - p.i) ⟨0, [], by omega, List.Perm.refl _, List.Pairwise.nil⟩ ?_ ?_
 ·exact le_tr (le_nilown (tmps' := [(0, .c (.xv (0, 0, 0))), (3, .c (.sl (1, 0, 0) 1 0 0 none)), (4, .c (.v (.int .i64 0)))]) 1 3 (ats eI [] 0) (by simp [TmpsNil, look]) rfl) (le_ren (id) rfl rfl (by simp [TmpsLe, look, SV.ren, SC.ren, SC.renL, ren1L, ren1, idσ, SV.okN, SC.okN, SC.okL, ok1L]) (by simp [OwnLe, BlkLeO, BlkLe, atN, look, Fm.get, idσ, SC.renL, SC.ren, SC.okL, SC.okN, renL_v, okL_v, ren_ats, ok_ats]) (by simp [ArrsLe, ArrLeO, atN, look, Fm.get, idσ, arrLe_of, arrLe_0]) rfl)
 intro p
 have hpl := p.len
 have hpat : ∀ {j : Nat}, j < p.L.length → ∃ k : Nat, k < p.i ∧ p.L.getD j 0 = k := fun h => p.at_ h
 obtain ⟨i, L, hi, perm, srt⟩ := p
 simp only at hpl hpat
 simp (maxSteps := 2000000) only [go_sem, ↓condS, ↓exitS, ↓gateS, ↓runOp, ↓gateD, ↓runD, ↓imp_ft, ↓imp_tf, ↓imp_tt, ↓imp_ff, ↓imp_fn, ↓imp_tn, ↓imp_fy, ↓imp_ty, ↓reduceIte, Nat.reduceLT, Nat.reduceLeDiff, Nat.reduceAdd, Nat.reduceSub, Nat.reduceMul, Nat.reduceEqDiff, reduceCtorEq, Int.reduceToNat, Int.reduceEq, Int.reduceBEq, Int.reduceBNe, Int.reduceLT, Int.reduceLE, Int.reduceNeg, Int.reduceAdd, Int.reduceSub, Int.reduceMul, Int.reduceGE, Int.reduceGT, Cl.enc, iv, endO]
 refine both (fun hlt => ?_) (fun hge => ?_)
 ·rw [decide_eq_true_eq] at hlt
  have hlt : i < xs.length := by omega
  repeat (with_reducible refine And.intro (by first | (simp only [maxLen]; omega) | omega | decide | (simp; done) | (simp [maxLen]; omega)) ?_)
  generalize hci : xs.getD i cl0 = ci
  refine callV (.c (.bo (objOf ci.op != 0))) _ (fun E => rfl) (fun E a w' _ => rcounts_calls w' ci) ?_
  simp (maxSteps := 2000000) only [go_sem, ↓condS, ↓exitS, ↓gateS, ↓runOp, ↓gateD, ↓runD, ↓imp_ft, ↓imp_tf, ↓imp_tt, ↓imp_ff, ↓imp_fn, ↓imp_tn, ↓imp_fy, ↓imp_ty, ↓reduceIte, Nat.reduceLT, Nat.reduceLeDiff, Nat.reduceAdd, Nat.reduceSub, Nat.reduceMul, Nat.reduceEqDiff, reduceCtorEq, Int.reduceToNat, Int.reduceEq, Int.reduceBEq, Int.reduceBNe, Int.reduceLT, Int.reduceLE, Int.reduceNeg, Int.reduceAdd, Int.reduceSub, Int.reduceMul, Int.reduceGE, Int.reduceGT, Cl.enc, iv, endO]
  rw [wr_succ (by omega)]
  refine ⟨fun _ => hlt, fun _ => hlt, fun _ => hlt, fun hb => ?_, fun hb => ?_⟩
  ·rw [hci] at hb
   have hp : pks xs (i + 1) = pks xs i := by
    simp only [pks]
    rw [if_neg (by rw [hci]; simp only [ptB, b_decR, b_decL, bt_ite, bf_ite, bt_dec, bf_dec, bt_int, bf_int, bt_nint, bf_nint, bt_bool, bf_bool, bt_nbool, bf_nbool, bt_not, bf_not, bt_and, bf_and, bt_or, bf_or, Bool.false_eq_true, Bool.true_eq_false, Bool.not_eq_true, Bool.not_eq_false, reduceCtorEq, false_iff, true_iff, iff_false, iff_true, and_true, true_and, and_false, false_and, or_true, true_or, or_false, false_or, not_true_eq_false, not_false_eq_true, ne_eq] at hb ⊢; omega)]
   exact backI ⟨i + 1, L, by omega, by rw [hp]; exact perm, srt⟩ (by simp only; omega) (le_tmps (by simp [TmpsSub, look]))
  ·rw [hci] at hb
   have hp : pks xs (i + 1) = pks xs i ++ [(i : Int)] := by
    simp only [pks]
    rw [if_pos (by rw [hci]; simp only [ptB, b_decR, b_decL, bt_ite, bf_ite, bt_dec, bf_dec, bt_int, bf_int, bt_nint, bf_nint, bt_bool, bf_bool, bt_nbool, bf_nbool, bt_not, bf_not, bt_and, bf_and, bt_or, bf_or, Bool.false_eq_true, Bool.true_eq_false, Bool.not_eq_true, Bool.not_eq_false, reduceCtorEq, false_iff, true_iff, iff_false, iff_true, and_true, true_and, and_false, false_and, or_true, true_or, or_false, false_or, not_true_eq_false, not_false_eq_true, ne_eq] at hb ⊢; omega)]
   repeat (with_reducible refine And.intro (by first | (simp only [maxLen]; omega) | omega | decide | (simp; done) | (simp [maxLen]; omega)) ?_)
   rw [show IntKind.i64.wrap (((L.length + 1 : Nat) : Int) - 1) = ((L.length : Nat) : Int) by rw [wr64 (by omega) (by omega)]; omega]
   refine loopI (ι := { k : Nat // k ≤ L.length ∧ ∀ j, k ≤ j → j < L.length → Kp xs i < Kp xs (L.getD j 0) }) (fun k => ⟨74, [(0, .c (.xv (0, 0, 0))), (3, .c (.sl (1, 0, 0) 1 0 (L.length + 1) none)), (4, .c (.v (.int .i64 i))), (5, .c (.v (.int .i64 (k.1 : Nat))))],
    [(1, .one (.ar (L.length + 1) 1 (ats eI (insL L k.1 i) 0) 3))], [(0, .one (arrOf Cl.enc 9 xs cl0))], [], 2⟩)
    (fun k => k.1) ⟨L.length, by omega, fun j h1 h2 => by omega⟩ ?_ ?_
   ·refine le_ren (fun k => if k = 1 then 3 else k) rfl rfl (by simp [TmpsLe, look, SV.ren, SC.ren, SC.renL, ren1L, ren1, idσ, SV.okN, SC.okN, SC.okL, ok1L]) ⟨⟨of_decide_eq_true rfl, arLe_of (Nat.le_refl _) fun e he => ?_⟩, trivial⟩ (by simp [ArrsLe, ArrLeO, atN, look, Fm.get, idσ, arrLe_of, arrLe_0]) rfl
    rw [insL_end]
    exact ats_push rfl rfl (fun e he => rfl) rfl e (by simp; omega)
   rintro ⟨k, hk, hg⟩
   simp (maxSteps := 2000000) only [go_sem, ↓condS, ↓exitS, ↓gateS, ↓runOp, ↓gateD, ↓runD, ↓imp_ft, ↓imp_tf, ↓imp_tt, ↓imp_ff, ↓imp_fn, ↓imp_tn, ↓imp_fy, ↓imp_ty, ↓reduceIte, Nat.reduceLT, Nat.reduceLeDiff, Nat.reduceAdd, Nat.reduceSub, Nat.reduceMul, Nat.reduceEqDiff, reduceCtorEq, Int.reduceToNat, Int.reduceEq, Int.reduceBEq, Int.reduceBNe, Int.reduceLT, Int.reduceLE, Int.reduceNeg, Int.reduceAdd, Int.reduceSub, Int.reduceMul, Int.reduceGE, Int.reduceGT, Cl.enc, iv, endO]
   refine draw_vc (by kernel_rfl) (mkTab_ok _ _) (of_decide_eq_true rfl) (of_decide_eq_true rfl) ?_
   repeat (first | simp (maxSteps := 2000000) only [go_sem, ↓condS, ↓exitS, ↓gateS, ↓runOp, ↓gateD, ↓runD, ↓imp_ft, ↓imp_tf, ↓imp_tt, ↓imp_ff, ↓imp_fn, ↓imp_tn, ↓imp_fy, ↓imp_ty, ↓reduceIte, Nat.reduceLT, Nat.reduceLeDiff, Nat.reduceAdd, Nat.reduceSub, Nat.reduceMul, Nat.reduceEqDiff, reduceCtorEq, Int.reduceToNat, Int.reduceEq, Int.reduceBEq, Int.reduceBNe, Int.reduceLT, Int.reduceLE, Int.reduceNeg, Int.reduceAdd, Int.reduceSub, Int.reduceMul, Int.reduceGE, Int.reduceGT, Cl.enc, iv, endO, ats, eI] | rw [dr_cons])
   have hki : (insL L k (i : Int)).getD k 0 = i := insL_at hk
   have done : (k = 0 ∨ Kp xs (L.getD (k - 1) 0) ≤ Kp xs i) → (insL L k (i : Int)).Perm (pks xs (i + 1)) ∧ ptSorted xs (insL L k (i : Int)) := fun h2 => by
    rw [hp]
    exact ⟨ins_perm L k _ perm, ins_sorted hk srt hg h2⟩
   rcases Nat.eq_zero_or_pos k with h0 | h0
   ·subst h0
    have hz : decide (((0 : Nat) : Int) > 0) = false := by decide
    obtain ⟨d1, d2⟩ := done (Or.inl rfl)
    simp (maxSteps := 2000000) only [hz, Bool.false_eq_true, false_implies, true_implies, if_false, true_and, and_true]
    rw [wr_succ (by omega)]
    exact backI ⟨i + 1, insL L 0 i, by omega, d1, d2⟩ (by simp only; omega) (le_ren id rfl rfl (by simp [TmpsLe, look, SV.ren, SC.ren, SC.renL, idσ, SV.okN, SC.okN, insL_len]) (by simp [OwnLe, BlkLeO, BlkLe, atN, look, Fm.get, idσ, insL_len, ren_ats, ok_ats, renL_v, okL_v]) (by simp [ArrsLe, ArrLeO, atN, look, Fm.get, idσ, arrLe_of, arrLe_0]) rfl)
   ·have hz : decide ((k : Int) > 0) = true := by rw [decide_eq_true_eq]; omega
    have hw : IntKind.i64.wrap ((k : Int) - 1) = ((k - 1 : Nat) : Int) := by rw [wr64 (by omega) (by omega)]; omega
    obtain ⟨q, hq1, hq2⟩ := hpat (j := k - 1) (by omega)
    have hq3 : (insL L k (i : Int)).getD (k - 1) 0 = q := by
     obtain ⟨m, rfl⟩ : ∃ m, k = m + 1 := ⟨k - 1, by omega⟩
     rw [Nat.add_sub_cancel] at hq2 ⊢
     rw [insL_pre (by omega), hq2]
    simp (maxSteps := 2000000) only [hz, hw, hki, hq3, Int.toNat_natCast, true_implies, if_true, decide_eq_true_eq, decide_eq_false_iff_not]
    refine ⟨by omega, by omega, by omega, by omega, by omega, by omega, by omega, by omega, by omega, by omega, fun hb => ?_, fun hb => ?_⟩
    ·skip
     refine draw_vc (by kernel_rfl) (mkTab_ok _ _) (of_decide_eq_true rfl) (of_decide_eq_true rfl) ?_
     repeat (first | simp (maxSteps := 2000000) only [go_sem, ↓condS, ↓exitS, ↓gateS, ↓runOp, ↓gateD, ↓runD, ↓imp_ft, ↓imp_tf, ↓imp_tt, ↓imp_ff, ↓imp_fn, ↓imp_tn, ↓imp_fy, ↓imp_ty, ↓reduceIte, Nat.reduceLT, Nat.reduceLeDiff, Nat.reduceAdd, Nat.reduceSub, Nat.reduceMul, Nat.reduceEqDiff, reduceCtorEq, Int.reduceToNat, Int.reduceEq, Int.reduceBEq, Int.reduceBNe, Int.reduceLT, Int.reduceLE, Int.reduceNeg, Int.reduceAdd, Int.reduceSub, Int.reduceMul, Int.reduceGE, Int.reduceGT, Cl.enc, iv, endO, ats, eI] | rw [dr_cons])
     simp (maxSteps := 2000000) only [hw, hki, hq3, Int.toNat_natCast]
     repeat (with_reducible refine And.intro (by first | (simp only [maxLen]; omega) | omega | decide | (simp; done) | (simp [maxLen]; omega)) ?_)
     obtain ⟨m, rfl⟩ : ∃ m, k = m + 1 := ⟨k - 1, by omega⟩
     rw [Nat.add_sub_cancel] at hq2 ⊢
     refine backI ⟨m, by omega, fun j h1 h2 => ?_⟩ (by simp only; omega) (le_ren id rfl rfl (by simp [TmpsLe, look, SV.ren, SC.ren, SC.renL, ren1L, ren1, idσ, SV.okN, SC.okN, SC.okL, ok1L]) ⟨⟨of_decide_eq_true rfl, arLe_of (Nat.le_refl _) fun e he => ?_⟩, trivial⟩ (by simp [ArrsLe, ArrLeO, atN, look, Fm.get, idσ, arrLe_of, arrLe_0]) rfl)
     ·by_cases e : j = m
      ·subst e
       rw [hq2]
       simp only [Kp, Int.toNat_natCast]
       omega
      ·exact hg j (by omega) h2
     ·simp only [setAt, ats, insL_swap (show m < L.length by omega), eI, hq2]
      by_cases e1 : e = m + 1
      ·subst e1
       simp [drop']
      ·rw [if_neg e1]
       by_cases e2 : e = m
       ·subst e2; simp
       ·simp [e1, e2]
    ·obtain ⟨d1, d2⟩ := done (Or.inr (by rw [hq2]; simp only [Kp, Int.toNat_natCast]; omega))
     rw [wr_succ (by omega)]
     exact backI ⟨i + 1, insL L k i, by omega, d1, d2⟩ (by simp only; omega) (le_ren id rfl rfl (by simp [TmpsLe, look, SV.ren, SC.ren, SC.renL, idσ, SV.okN, SC.okN, insL_len hk]) (by simp [OwnLe, BlkLeO, BlkLe, atN, look, Fm.get, idσ, insL_len hk, ren_ats, ok_ats, renL_v, okL_v]) (by simp [ArrsLe, ArrLeO, atN, look, Fm.get, idσ, arrLe_of, arrLe_0]) rfl)
 ·rw [decide_eq_false_iff_not] at hge
  have hin : i = xs.length := by omega
  subst hin
  have hL := ptsL_uniq hm perm srt
  subst hL
  exact retList' 1 _ _ rfl rfl (Nat.le_refl _) (fun e he => rfl)
end Go.Proofs.Ytkjeedlkkpgopaa.Z
