/- The laws' own helpers of layer 11: right, pick; moves. No statement of the program. -/
import Derived.Test.YtgljbdcamagdbaaZPl
import Derived.Test.YtgljbdcamagdbaaZR
-- bundled -- short draws -- cl
namespace Go.Proofs.Ytgljbdcamagdbaa.Z
open Go Go.RowKit
set_option linter.unusedSimpArgs false
set_option linter.unusedVariables false
def ir28 : IR := (.seq (.ops [⟨(some 1), (.box 29 (.t 0)), none⟩, ⟨(some 2), (.new 29 [(.v (.slice none 0 0)), (.v (.slice none 0 0)), (.v (.slice none 0 0)), (.v (.slice none 0 0)), (.v (.slice none 0 0))]), none⟩]) (.kill [0, 3, 4, 5, 6, 7, 8, 9, 10, 11] (.seq (.seq (.ops [⟨(some 3), (.ld true 5 (.t 1)), none⟩, ⟨(some 4), (.call 20 [(.t 3)]), none⟩, ⟨(some 5), (.un .not (.t 4)), none⟩]) (.kill [3, 4] (.cond (.t 5) (.seq (.ops [⟨(some 6), (.build [(.v (.slice none 0 0)), (.v (.slice none 0 0)), (.v (.slice none 0 0)), (.v (.slice none 0 0)), (.v (.slice none 0 0))] []), none⟩, ⟨none, (.st 5 (.t 2) (.t 6)), none⟩]) (.kill [1, 5, 6] .ret)) .skip))) (.kill [5] (.seq (.ops [⟨(some 7), (.ld true 5 (.t 1)), none⟩, ⟨(some 8), (.call 22 [(.t 7)]), none⟩, ⟨none, (.st 5 (.t 2) (.t 8)), none⟩]) (.kill [1, 7, 8] .ret))))))
def rs28 : List RS := [(.cell 2 true 5)]
def nt28 : Nat := 9
def ir31 : IR := (.seq (.ops [⟨(some 2), (.mv (.k (.c (.v (.int .i64 0))))), none⟩]) (.kill [1, 2, 3, 4, 5, 6, 7, 8, 9, 10, 11] (.seq (.ops [⟨(some 3), (.call 48 []), none⟩, ⟨(some 4), (.mv (.t 0)), none⟩, ⟨(some 5), (.conv .u64 (.t 4)), none⟩, ⟨(some 6), (.bin .rem (.t 5) (.k (.c (.v (.int .u64 12))))), none⟩, ⟨(some 7), (.conv .i64 (.t 6)), none⟩, ⟨(some 8), (.ia 1 (.t 3) (.t 7)), none⟩, ⟨(some 9), (.ld false 1 (.t 8)), none⟩, ⟨(some 2), (.mv (.t 9)), none⟩]) (.kill [0, 3, 4, 5, 6, 7, 8, 9] .ret))))
def rs31 : List RS := [(.t 2)]
def nt31 : Nat := 10
def ir48 : IR := (.seq (.ops [⟨(some 0), (.mv (.k (.c (.v (.slice none 0 0))))), none⟩]) (.kill [0, 1, 2, 3, 4, 5, 6, 7, 8, 9, 10, 11] (.seq (.ops [⟨(some 1), (.mkSl 3 12 1 [(.v (.int .i64 0)), (.v (.int .i64 0)), (.v (.int .i64 0)), (.v (.int .i64 0)), (.v (.int .i64 0)), (.v (.int .i64 0)), (.v (.int .i64 0)), (.v (.int .i64 0)), (.v (.int .i64 0)), (.v (.int .i64 0)), (.v (.int .i64 0)), (.v (.int .i64 0))] [(0, (1, (.k (.c (.v (.int .i64 22)))))), (1, (1, (.k (.c (.v (.int .i64 23)))))), (2, (1, (.k (.c (.v (.int .i64 30)))))), (3, (1, (.k (.c (.v (.int .i64 31)))))), (4, (1, (.k (.c (.v (.int .i64 40)))))), (5, (1, (.k (.c (.v (.int .i64 41)))))), (6, (1, (.k (.c (.v (.int .i64 50)))))), (7, (1, (.k (.c (.v (.int .i64 51)))))), (8, (1, (.k (.c (.v (.int .i64 52)))))), (9, (1, (.k (.c (.v (.int .i64 60)))))), (10, (1, (.k (.c (.v (.int .i64 61)))))), (11, (1, (.k (.c (.v (.int .i64 62))))))]), none⟩, ⟨(some 0), (.mv (.t 1)), none⟩]) (.kill [1] .ret))))
def rs48 : List RS := [(.t 0)]
def nt48 : Nat := 2
/-- the contents, or empty ones -/
def rightZ (m : MC) : MC := if mayB m = true then m else mc0
theorem rightZ_may (m : MC) : mayB (rightZ m) = true := by unfold rightZ; split <;> first | assumption | exact mc0_may
theorem rightZ_upto {m : MC} {n : Nat} (h : m.upto n) : (rightZ m).upto n := by
  unfold rightZ; split
  · exact h
  · simp [MC.upto, mc0]
set_option maxRecDepth 100000 in
set_option maxHeartbeats 400000 in
theorem right_Z {w : World} {v : Value} {m : MC} (h : Cont w v m) (hok : m.ok 0) : Calls Try.prog 28 #[v] w (RetB w (fun _ => True) 5 cT (mcR (rightZ m))) := by
  refine enterC (A := []) (c := ir28) (rs := rs28) (nt := nt28) h [.agg (mcS 0)] _ Try.func28 rfl (by kernel_rfl) (by kernel_rfl) rfl (fun E' h0 => by rw [List.map_cons, h0]; rfl) (of_decide_eq_true rfl) ?_
  simp (config := { maxSteps := 2000000 }) only [ir28, nt28, rs28, go_sem, ↓condS, ↓exitS, ↓gateS, ↓runOp, ↓gateD, ↓runD, ↓imp_ft, ↓imp_tf, ↓imp_tt, ↓imp_ff, ↓imp_fn, ↓imp_tn, ↓imp_fy, ↓imp_ty, ↓reduceIte, Nat.reduceLT, Nat.reduceLeDiff, Nat.reduceAdd, Nat.reduceSub, Nat.reduceMul, Nat.reduceEqDiff, reduceCtorEq, Int.reduceToNat, Int.reduceEq, Int.reduceBEq, Int.reduceBNe, Int.reduceLT, Int.reduceLE, Int.reduceNeg, Int.reduceAdd, Int.reduceSub, Int.reduceMul, Int.reduceGE, Int.reduceGT, Cl.enc, iv, endO, mcS, mcA]
  have cT_ok : ∀ (c0 c1 c2 c3 c4 : SC) (b : Nat) (E E2 : Env), E2.χ (b, 0, 0) = c0.den E → E2.χ (b + 1, 0, 0) = c1.den E → E2.χ (b + 2, 0, 0) = c2.den E → E2.χ (b + 3, 0, 0) = c3.den E → E2.χ (b + 4, 0, 0) = c4.den E →
    (SV.agg [c0, c1, c2, c3, c4]).den E = (cT b).den E2 := fun c0 c1 c2 c3 c4 b E E2 e0 e1 e2 e3 e4 => by
    simp [cT, mcS, SV.den, SC.den, e0, e1, e2, e3, e4]
  refine callV (.c (.v (.bool (mayB m)))) _ (fun E => rfl) (fun E a w' hs => rmay_Z (w := w') (cont_at hs 0 rfl rfl rfl rfl rfl) (m := m)) ?_
  by_cases hm : mayB m = true
  · rw [hm]
    simp (config := { maxSteps := 2000000 }) only [go_sem, ↓condS, ↓exitS, ↓gateS, ↓runOp, ↓gateD, ↓runD, ↓imp_ft, ↓imp_tf, ↓imp_tt, ↓imp_ff, ↓imp_fn, ↓imp_tn, ↓imp_fy, ↓imp_ty, ↓reduceIte, Nat.reduceLT, Nat.reduceLeDiff, Nat.reduceAdd, Nat.reduceSub, Nat.reduceMul, Nat.reduceEqDiff, reduceCtorEq, Int.reduceToNat, Int.reduceEq, Int.reduceBEq, Int.reduceBNe, Int.reduceLT, Int.reduceLE, Int.reduceNeg, Int.reduceAdd, Int.reduceSub, Int.reduceMul, Int.reduceGE, Int.reduceGT, Cl.enc, iv, endO]
    have hr : rightZ m = m := by unfold rightZ; rw [if_pos hm]
    rw [hr]
    refine callL 5 cT (mcR m) (mcR_sz m) (fun E a w' hs => copy_Z (cont_at hs 0 rfl rfl rfl rfl rfl) hok) ?_
    simp (config := { maxSteps := 2000000 }) only [go_sem, ↓condS, ↓exitS, ↓gateS, ↓runOp, ↓gateD, ↓runD, ↓imp_ft, ↓imp_tf, ↓imp_tt, ↓imp_ff, ↓imp_fn, ↓imp_tn, ↓imp_fy, ↓imp_ty, ↓reduceIte, Nat.reduceLT, Nat.reduceLeDiff, Nat.reduceAdd, Nat.reduceSub, Nat.reduceMul, Nat.reduceEqDiff, reduceCtorEq, Int.reduceToNat, Int.reduceEq, Int.reduceBEq, Int.reduceBNe, Int.reduceLT, Int.reduceLE, Int.reduceNeg, Int.reduceAdd, Int.reduceSub, Int.reduceMul, Int.reduceGE, Int.reduceGT, Cl.enc, iv, endO, cT, mcS, low_mcR, mcA, mkC_B]
    exact retB5 _ _ _ _ _ (rdN_lo 7 rfl (Nat.le_refl _)) (rdN_lo 8 rfl (Nat.le_refl _)) (rdN_lo 9 rfl (Nat.le_refl _)) (rdN_lo 10 rfl (Nat.le_refl _)) (rdN_lo 11 rfl (Nat.le_refl _)) (cT_ok _ _ _ _ _)
  · have hm : mayB m = false := by simpa using hm
    rw [hm]
    simp (config := { maxSteps := 2000000 }) only [go_sem, ↓condS, ↓exitS, ↓gateS, ↓runOp, ↓gateD, ↓runD, ↓imp_ft, ↓imp_tf, ↓imp_tt, ↓imp_ff, ↓imp_fn, ↓imp_tn, ↓imp_fy, ↓imp_ty, ↓reduceIte, Nat.reduceLT, Nat.reduceLeDiff, Nat.reduceAdd, Nat.reduceSub, Nat.reduceMul, Nat.reduceEqDiff, reduceCtorEq, Int.reduceToNat, Int.reduceEq, Int.reduceBEq, Int.reduceBNe, Int.reduceLT, Int.reduceLE, Int.reduceNeg, Int.reduceAdd, Int.reduceSub, Int.reduceMul, Int.reduceGE, Int.reduceGT, Cl.enc, iv, endO]
    have hr : rightZ m = mc0 := by unfold rightZ; rw [if_neg (by simp [hm])]
    rw [hr]
    exact retB5 _ _ _ _ _ rdN_nil rdN_nil rdN_nil rdN_nil rdN_nil (cT_ok _ _ _ _ _)
def opsL : List Int := [22, 23, 30, 31, 40, 41, 50, 51, 52, 60, 61, 62]
set_option maxRecDepth 100000 in
set_option maxHeartbeats 400000 in
theorem ops_Z (w : World) : Calls Try.prog 48 #[] w (RetN w 1 (lsT 1 12) (lsO 3 1 eI opsL 0)) := by
  refine enter0 (A := []) (c := ir48) (rs := rs48) (nt := nt48) [] _ Try.func48 rfl (by kernel_rfl) (by kernel_rfl) rfl (fun E' => rfl) (of_decide_eq_true rfl) ?_
  simp (config := { maxSteps := 2000000 }) only [ir48, nt48, rs48, go_sem, ↓condS, ↓exitS, ↓gateS, ↓runOp, ↓gateD, ↓runD, ↓imp_ft, ↓imp_tf, ↓imp_tt, ↓imp_ff, ↓imp_fn, ↓imp_tn, ↓imp_fy, ↓imp_ty, ↓reduceIte, Nat.reduceLT, Nat.reduceLeDiff, Nat.reduceAdd, Nat.reduceSub, Nat.reduceMul, Nat.reduceEqDiff, reduceCtorEq, Int.reduceToNat, Int.reduceEq, Int.reduceBEq, Int.reduceBNe, Int.reduceLT, Int.reduceLE, Int.reduceNeg, Int.reduceAdd, Int.reduceSub, Int.reduceMul, Int.reduceGE, Int.reduceGT, Cl.enc, iv, endO]
  refine ⟨by decide, ?_⟩
  exact retList (xs := opsL) 0 12 _ rfl (Nat.le_refl _) fun e he => by
    have he : e < 12 := he
    match e, he with
    | 0, _ => rfl
    | 1, _ => rfl
    | 2, _ => rfl
    | 3, _ => rfl
    | 4, _ => rfl
    | 5, _ => rfl
    | 6, _ => rfl
    | 7, _ => rfl
    | 8, _ => rfl
    | 9, _ => rfl
    | 10, _ => rfl
    | 11, _ => rfl
def pkZ (n : Int) : Nat := ((n % 18446744073709551616) % 12).toNat
def pickZ (n : Int) : Int := opsL.getD (pkZ n) 0
theorem pkZ_lt (n : Int) : pkZ n < 12 := by unfold pkZ; omega
theorem pickZ_obj (n : Int) : objOf (pickZ n) ≠ 0 := by
  have h := pkZ_lt n
  unfold pickZ
  generalize pkZ n = k at h ⊢
  have key : ∀ k : Fin 12, objOf (opsL.getD k.1 0) ≠ 0 := by decide
  exact key ⟨k, h⟩
set_option maxRecDepth 100000 in
set_option maxHeartbeats 400000 in
theorem pick_Z (n : Int) (w : World) : Calls Try.prog 31 #[.int .i64 n] w (RetV w (.int .i64 (pickZ n))) := by
  refine enter0 (A := []) (c := ir31) (rs := rs31) (nt := nt31) [.c (.v (.int .i64 n))] _ Try.func31 rfl (by kernel_rfl) (by kernel_rfl) rfl (fun E' => rfl) (of_decide_eq_true rfl) ?_
  simp (config := { maxSteps := 2000000 }) only [ir31, nt31, rs31, go_sem, ↓condS, ↓exitS, ↓gateS, ↓runOp, ↓gateD, ↓runD, ↓imp_ft, ↓imp_tf, ↓imp_tt, ↓imp_ff, ↓imp_fn, ↓imp_tn, ↓imp_fy, ↓imp_ty, ↓reduceIte, Nat.reduceLT, Nat.reduceLeDiff, Nat.reduceAdd, Nat.reduceSub, Nat.reduceMul, Nat.reduceEqDiff, reduceCtorEq, Int.reduceToNat, Int.reduceEq, Int.reduceBEq, Int.reduceBNe, Int.reduceLT, Int.reduceLE, Int.reduceNeg, Int.reduceAdd, Int.reduceSub, Int.reduceMul, Int.reduceGE, Int.reduceGT, Cl.enc, iv, endO]
  refine callN 1 (lsT 1 12) (lsO 3 1 eI opsL 0) (fun E a w' hs => ops_Z w') ?_
  have h1 : IntKind.u64.wrap n = n % 18446744073709551616 := by simp [IntKind.wrap, IntKind.bits, IntKind.signed]
  have h2 : IntKind.i64.wrap (Int.tmod (IntKind.u64.wrap n) 12) = ((pkZ n : Nat) : Int) := by
    rw [h1, Int.tmod_eq_emod_of_nonneg (by omega), wr64 (by omega) (by omega)]
    unfold pkZ
    omega
  have h3 := pkZ_lt n
  simp (config := { maxSteps := 2000000 }) only [go_sem, ↓condS, ↓exitS, ↓gateS, ↓runOp, ↓gateD, ↓runD, ↓imp_ft, ↓imp_tf, ↓imp_tt, ↓imp_ff, ↓imp_fn, ↓imp_tn, ↓imp_fy, ↓imp_ty, ↓reduceIte, Nat.reduceLT, Nat.reduceLeDiff, Nat.reduceAdd, Nat.reduceSub, Nat.reduceMul, Nat.reduceEqDiff, reduceCtorEq, Int.reduceToNat, Int.reduceEq, Int.reduceBEq, Int.reduceBNe, Int.reduceLT, Int.reduceLE, Int.reduceNeg, Int.reduceAdd, Int.reduceSub, Int.reduceMul, Int.reduceGE, Int.reduceGT, Cl.enc, iv, endO, lsT, lsO, ats, eI, h2]
  have hl : opsL.length = 12 := rfl
  exact ⟨by decide, ⟨by omega, by omega⟩, by omega, retV fun E => by rw [den_c, den_v]; rfl⟩
end Go.Proofs.Ytgljbdcamagdbaa.Z
