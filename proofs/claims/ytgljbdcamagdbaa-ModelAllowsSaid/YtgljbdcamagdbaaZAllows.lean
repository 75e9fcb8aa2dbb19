/- ModelAllows: the walk. No statement of the program. -/
import Derived.Test.YtgljbdcamagdbaaZAm
-- bundled -- short draws
namespace Go.Proofs.Ytgljbdcamagdbaa.Z
open Go Go.RowKit
set_option linter.unusedSimpArgs false
set_option linter.unusedVariables false
def ir11 : IR := (.seq (.ops [⟨(some 2), (.box 29 (.t 0)), none⟩, ⟨(some 3), (.box 55 (.t 1)), none⟩, ⟨(some 4), (.mv (.k (.c (.v (.bool false))))), none⟩]) (.kill [0, 1, 4, 5, 6, 7, 8, 9, 10, 11] (.seq (.ops [⟨(some 11), (.ld true 5 (.t 2)), none⟩, ⟨(some 12), (.call 22 [(.t 11)]), none⟩, ⟨(some 5), (.new 29 [(.v (.slice none 0 0)), (.v (.slice none 0 0)), (.v (.slice none 0 0)), (.v (.slice none 0 0)), (.v (.slice none 0 0))]), none⟩, ⟨none, (.st 5 (.t 5) (.t 12)), none⟩]) (.kill [11, 12] (.seq (.ops [⟨(some 14), (.ld true 5 (.t 2)), none⟩, ⟨(some 15), (.ld true 9 (.t 3)), none⟩, ⟨(some 16), (.call 29 [(.t 14), (.t 15)]), none⟩, ⟨(some 13), (.mv (.t 16)), none⟩, ⟨(some 17), (.ext 0 (.t 13)), none⟩, ⟨(some 18), (.ext 1 (.t 13)), none⟩, ⟨(some 19), (.ext 2 (.t 13)), none⟩, ⟨(some 6), (.new 29 [(.v (.slice none 0 0)), (.v (.slice none 0 0)), (.v (.slice none 0 0)), (.v (.slice none 0 0)), (.v (.slice none 0 0))]), none⟩, ⟨none, (.st 5 (.t 6) (.t 17)), none⟩, ⟨(some 7), (.mv (.t 18)), none⟩, ⟨(some 8), (.mv (.t 19)), none⟩]) (.kill [13, 14, 15, 16, 17, 18, 19] (.seq (.seq (.ops [⟨(some 20), (.call 26 []), none⟩, ⟨(some 21), (.un .not (.t 20)), none⟩, ⟨(some 22), (.mv (.t 21)), none⟩, ⟨(some 23), (.ld true 5 (.t 2)), (some (22, false))⟩, ⟨(some 24), (.ld true 5 (.t 5)), (some (22, false))⟩, ⟨(some 25), (.call 21 [(.t 23), (.t 24)]), (some (22, false))⟩, ⟨(some 26), (.un .not (.t 25)), (some (22, false))⟩, ⟨(some 27), (.pick (.t 22) (.k (.c (.v (.bool true)))) (.t 26)), none⟩]) (.kill [5, 20, 21, 22, 23, 24, 25, 26] (.cond (.t 27) (.seq (.ops [⟨(some 4), (.mv (.k (.c (.v (.bool false))))), none⟩]) (.kill [2, 3, 6, 7, 8, 27] .ret)) .skip))) (.kill [4, 27] (.seq (.seq (.ops [⟨(some 28), (.ld true 5 (.t 2)), none⟩, ⟨(some 29), (.call 20 [(.t 28)]), none⟩, ⟨(some 30), (.un .not (.t 29)), none⟩]) (.kill [28, 29] (.cond (.t 30) (.seq (.ops [⟨(some 31), (.mv (.t 8)), none⟩, ⟨(some 32), (.bin .eql (.t 31) (.k (.c (.v (.int .i64 111))))), none⟩, ⟨(some 33), (.mv (.t 32)), none⟩, ⟨(some 34), (.mv (.t 7)), (some (33, true))⟩, ⟨(some 35), (.un .not (.t 34)), (some (33, true))⟩, ⟨(some 36), (.pick (.t 33) (.t 35) (.k (.c (.v (.bool false))))), none⟩, ⟨(some 37), (.mv (.t 36)), none⟩, ⟨(some 38), (.ld true 5 (.t 6)), (some (37, true))⟩, ⟨(some 39), (.build [(.v (.slice none 0 0)), (.v (.slice none 0 0)), (.v (.slice none 0 0)), (.v (.slice none 0 0)), (.v (.slice none 0 0))] []), (some (37, true))⟩, ⟨(some 40), (.call 21 [(.t 38), (.t 39)]), (some (37, true))⟩, ⟨(some 41), (.pick (.t 37) (.t 40) (.k (.c (.v (.bool false))))), none⟩, ⟨(some 4), (.mv (.t 41)), none⟩]) (.kill [2, 3, 6, 7, 8, 30, 31, 32, 33, 34, 35, 36, 37, 38, 39, 40, 41] .ret)) .skip))) (.kill [4, 30] (.seq (.seq (.ops [⟨(some 42), (.fa 1 (.t 3)), none⟩, ⟨(some 43), (.ld false 1 (.t 42)), none⟩, ⟨(some 44), (.call 17 [(.t 43)]), none⟩, ⟨(some 45), (.bin .eql (.t 44) (.k (.c (.v (.int .i64 0))))), none⟩]) (.kill [42, 43, 44] (.cond (.t 45) (.seq (.ops [⟨(some 46), (.mv (.t 8)), none⟩, ⟨(some 47), (.bin .eql (.t 46) (.k (.c (.v (.int .i64 110))))), none⟩, ⟨(some 48), (.mv (.t 47)), none⟩, ⟨(some 49), (.mv (.t 7)), (some (48, true))⟩, ⟨(some 50), (.un .not (.t 49)), (some (48, true))⟩, ⟨(some 51), (.pick (.t 48) (.t 50) (.k (.c (.v (.bool false))))), none⟩, ⟨(some 52), (.mv (.t 51)), none⟩, ⟨(some 53), (.ld true 5 (.t 6)), (some (52, true))⟩, ⟨(some 54), (.build [(.v (.slice none 0 0)), (.v (.slice none 0 0)), (.v (.slice none 0 0)), (.v (.slice none 0 0)), (.v (.slice none 0 0))] []), (some (52, true))⟩, ⟨(some 55), (.call 21 [(.t 53), (.t 54)]), (some (52, true))⟩, ⟨(some 56), (.pick (.t 52) (.t 55) (.k (.c (.v (.bool false))))), none⟩, ⟨(some 4), (.mv (.t 56)), none⟩]) (.kill [2, 3, 6, 7, 8, 45, 46, 47, 48, 49, 50, 51, 52, 53, 54, 55, 56] .ret)) .skip))) (.kill [4, 45] (.seq (.ops [⟨(some 58), (.ld true 5 (.t 2)), none⟩, ⟨(some 59), (.ld true 9 (.t 3)), none⟩, ⟨(some 60), (.call 30 [(.t 58), (.t 59)]), none⟩, ⟨(some 57), (.mv (.t 60)), none⟩, ⟨(some 61), (.ext 0 (.t 57)), none⟩, ⟨(some 62), (.ext 1 (.t 57)), none⟩, ⟨(some 9), (.new 29 [(.v (.slice none 0 0)), (.v (.slice none 0 0)), (.v (.slice none 0 0)), (.v (.slice none 0 0)), (.v (.slice none 0 0))]), none⟩, ⟨none, (.st 5 (.t 9) (.t 61)), none⟩, ⟨(some 10), (.mv (.t 62)), none⟩]) (.kill [2, 3, 57, 58, 59, 60, 61, 62] (.seq (.ops [⟨(some 63), (.mv (.t 8)), none⟩, ⟨(some 64), (.bin .eql (.t 63) (.k (.c (.v (.int .i64 0))))), none⟩, ⟨(some 65), (.mv (.t 64)), none⟩, ⟨(some 66), (.mv (.t 7)), (some (65, true))⟩, ⟨(some 67), (.mv (.t 10)), (some (65, true))⟩, ⟨(some 68), (.eqb false (.t 66) (.t 67)), (some (65, true))⟩, ⟨(some 69), (.pick (.t 65) (.t 68) (.k (.c (.v (.bool false))))), none⟩, ⟨(some 70), (.mv (.t 69)), none⟩, ⟨(some 71), (.ld true 5 (.t 6)), (some (70, true))⟩, ⟨(some 72), (.ld true 5 (.t 9)), (some (70, true))⟩, ⟨(some 73), (.call 21 [(.t 71), (.t 72)]), (some (70, true))⟩, ⟨(some 74), (.pick (.t 70) (.t 73) (.k (.c (.v (.bool false))))), none⟩, ⟨(some 4), (.mv (.t 74)), none⟩]) (.kill [6, 7, 8, 9, 10, 63, 64, 65, 66, 67, 68, 69, 70, 71, 72, 73, 74] .ret))))))))))))))))
def rs11 : List RS := [(.t 4)]
def nt11 : Nat := 75
def ir30 : IR := (.seq (.ops [⟨(some 2), (.box 29 (.t 0)), none⟩, ⟨(some 3), (.box 55 (.t 1)), none⟩, ⟨(some 4), (.new 29 [(.v (.slice none 0 0)), (.v (.slice none 0 0)), (.v (.slice none 0 0)), (.v (.slice none 0 0)), (.v (.slice none 0 0))]), none⟩, ⟨(some 5), (.mv (.k (.c (.v (.bool false))))), none⟩]) (.kill [0, 1, 5, 6, 7, 8, 9, 10, 11] (.seq (.ops [⟨(some 6), (.ld true 5 (.t 2)), none⟩, ⟨(some 7), (.ld true 9 (.t 3)), none⟩, ⟨(some 8), (.call 47 [(.t 6), (.t 7)]), none⟩, ⟨(some 9), (.ext 0 (.t 8)), none⟩, ⟨(some 10), (.ext 1 (.t 8)), none⟩, ⟨none, (.st 5 (.t 4) (.t 9)), none⟩, ⟨(some 5), (.mv (.t 10)), none⟩]) (.kill [2, 3, 6, 7, 8, 9, 10] .ret))))
def rs30 : List RS := [(.cell 4 true 5), (.t 5)]
def nt30 : Nat := 11
set_option maxRecDepth 100000 in
set_option maxHeartbeats 400000 in
theorem allows_walk (w : World) (v : Value) (m : MC) (c : Cl) (hc : Cont w v m) (hok : MC.okR m) : Calls Try.prog 11 #[v, .agg c.enc.toArray] w (RetV w (.bool true)) := by
  refine enterC (A := []) (c := ir11) (rs := rs11) (nt := nt11) hc [.agg (mcS 0), .agg c.sc] _ Try.func11 rfl (by kernel_rfl) (by kernel_rfl) rfl (fun E' h0 => by rw [List.map_cons, h0]; simp [SV.den, SC.den, Cl.sc, Cl.enc]) (of_decide_eq_true rfl) ?_
  simp (config := { maxSteps := 2000000 }) only [ir11, nt11, rs11, go_sem, ↓condS, ↓exitS, ↓gateS, ↓runOp, ↓gateD, ↓runD, ↓imp_ft, ↓imp_tf, ↓imp_tt, ↓imp_ff, ↓imp_fn, ↓imp_tn, ↓imp_fy, ↓imp_ty, ↓reduceIte, Nat.reduceLT, Nat.reduceLeDiff, Nat.reduceAdd, Nat.reduceSub, Nat.reduceMul, Nat.reduceEqDiff, reduceCtorEq, Int.reduceToNat, Int.reduceEq, Int.reduceBEq, Int.reduceBNe, Int.reduceLT, Int.reduceLE, Int.reduceNeg, Int.reduceAdd, Int.reduceSub, Int.reduceMul, Int.reduceGE, Int.reduceGT, endO, mcS, mcA, Cl.sc, iv]
  have hok1 := hok.1
  have hok0 : m.ok 0 := hok1.le (by decide)
  refine callB 5 cT (mcR m) (fun E a w' hs => copy_Z (cont_at hs 0 rfl rfl rfl rfl rfl) hok0) ?_
  simp (config := { maxSteps := 2000000 }) only [go_sem, ↓condS, ↓exitS, ↓gateS, ↓runOp, ↓gateD, ↓runD, ↓imp_ft, ↓imp_tf, ↓imp_tt, ↓imp_ff, ↓imp_fn, ↓imp_tn, ↓imp_fy, ↓imp_ty, ↓reduceIte, Nat.reduceLT, Nat.reduceLeDiff, Nat.reduceAdd, Nat.reduceSub, Nat.reduceMul, Nat.reduceEqDiff, reduceCtorEq, Int.reduceToNat, Int.reduceEq, Int.reduceBEq, Int.reduceBNe, Int.reduceLT, Int.reduceLE, Int.reduceNeg, Int.reduceAdd, Int.reduceSub, Int.reduceMul, Int.reduceGE, Int.reduceGT, endO, cT, mcS, mcR, mcA]
  have awk : ∀ {K : St → Prop} {S : St} {dst : Option Nat}, K (S.call dst (.c (.v (.bool true))) 0 [] []) → CallVC (mkC Try.prog [] w [RS.t 4] (RetV w (Value.bool true))) 26 [] dst S K :=
    fun h => callV (.c (.v (.bool true))) (.bool true) (fun E => rfl) (fun E a w' hs => awake_Z w') h
  have none : ∀ (n : Int), refN m c.op = n → n ≠ 0 → ∀ {K : St → Prop} {S : St} {dst : Option Nat}, look S.arrs 0 = some (.one (arrOf eI 1 m.cell 0)) → look S.arrs 1 = some (.one (arrOf eI 1 m.stack 0)) → look S.arrs 2 = some (.one (arrOf eI 1 m.queue 0)) → look S.arrs 3 = some (.one (arrOf eI 1 m.set 0)) → look S.arrs 4 = some (.one (arrOf eP 2 m.table (0, 0))) →
      K (S.call dst (.tup [(true, [.v (.slice none 0 0), .v (.slice none 0 0), .v (.slice none 0 0), .v (.slice none 0 0), .v (.slice none 0 0)]), (false, [.v (.bool false)]), (false, [.v (.int .i64 n)])]) 0 [] []) →
      CallVC (mkC Try.prog [] w [RS.t 4] (RetV w (Value.bool true))) 29 [.agg (mcS 0), .agg c.sc] dst S K := fun n hr hn {K} {S} {dst} h0 h1 h2 h3 h4 h =>
    callV _ _ (fun E => rfl) (fun E a w' hs => by
      have := alNo_Z (w := w') c (cont_at hs 0 h0 h1 h2 h3 h4) (by rw [hr]; exact hn)
      rw [hr] at this
      simp only [Cl.enc] at this
      simp only [Cl.sc, List.map_cons, List.map_nil, SV.den, SC.den]
      exact this) h
  by_cases hm : mayB m = true
  · by_cases ho : objOf c.op = 0
    · refine none 110 (by simp [refN, hm, ho]) (by decide) rfl rfl rfl rfl rfl ?_
      simp (config := { maxSteps := 2000000 }) only [go_sem, ↓condS, ↓exitS, ↓gateS, ↓runOp, ↓gateD, ↓runD, ↓imp_ft, ↓imp_tf, ↓imp_tt, ↓imp_ff, ↓imp_fn, ↓imp_tn, ↓imp_fy, ↓imp_ty, ↓reduceIte, Nat.reduceLT, Nat.reduceLeDiff, Nat.reduceAdd, Nat.reduceSub, Nat.reduceMul, Nat.reduceEqDiff, reduceCtorEq, Int.reduceToNat, Int.reduceEq, Int.reduceBEq, Int.reduceBNe, Int.reduceLT, Int.reduceLE, Int.reduceNeg, Int.reduceAdd, Int.reduceSub, Int.reduceMul, Int.reduceGE, Int.reduceGT, endO]
      refine awk ?_
      simp (config := { maxSteps := 2000000 }) only [go_sem, ↓condS, ↓exitS, ↓gateS, ↓runOp, ↓gateD, ↓runD, ↓imp_ft, ↓imp_tf, ↓imp_tt, ↓imp_ff, ↓imp_fn, ↓imp_tn, ↓imp_fy, ↓imp_ty, ↓reduceIte, Nat.reduceLT, Nat.reduceLeDiff, Nat.reduceAdd, Nat.reduceSub, Nat.reduceMul, Nat.reduceEqDiff, reduceCtorEq, Int.reduceToNat, Int.reduceEq, Int.reduceBEq, Int.reduceBNe, Int.reduceLT, Int.reduceLE, Int.reduceNeg, Int.reduceAdd, Int.reduceSub, Int.reduceMul, Int.reduceGE, Int.reduceGT, endO]
      refine callV (.c (.v (.bool true))) (.bool true) (fun E => rfl) (fun E a w' hs => ?_) ?_
      · have := rsame_Z (w := w') (cont_at hs 0 rfl rfl rfl rfl rfl) (cont_at hs 7 rfl rfl rfl rfl rfl) (m := m) (m' := m)
        rw [decide_eq_true rfl] at this
        exact this
      simp (config := { maxSteps := 2000000 }) only [go_sem, ↓condS, ↓exitS, ↓gateS, ↓runOp, ↓gateD, ↓runD, ↓imp_ft, ↓imp_tf, ↓imp_tt, ↓imp_ff, ↓imp_fn, ↓imp_tn, ↓imp_fy, ↓imp_ty, ↓reduceIte, Nat.reduceLT, Nat.reduceLeDiff, Nat.reduceAdd, Nat.reduceSub, Nat.reduceMul, Nat.reduceEqDiff, reduceCtorEq, Int.reduceToNat, Int.reduceEq, Int.reduceBEq, Int.reduceBNe, Int.reduceLT, Int.reduceLE, Int.reduceNeg, Int.reduceAdd, Int.reduceSub, Int.reduceMul, Int.reduceGE, Int.reduceGT, endO]
      refine callV (.c (.v (.bool true))) (.bool true) (fun E => rfl) (fun E a w' hs => ?_) ?_
      · have := rmay_Z (w := w') (cont_at hs 0 rfl rfl rfl rfl rfl) (m := m)
        rw [hm] at this
        exact this
      simp (config := { maxSteps := 2000000 }) only [go_sem, ↓condS, ↓exitS, ↓gateS, ↓runOp, ↓gateD, ↓runD, ↓imp_ft, ↓imp_tf, ↓imp_tt, ↓imp_ff, ↓imp_fn, ↓imp_tn, ↓imp_fy, ↓imp_ty, ↓reduceIte, Nat.reduceLT, Nat.reduceLeDiff, Nat.reduceAdd, Nat.reduceSub, Nat.reduceMul, Nat.reduceEqDiff, reduceCtorEq, Int.reduceToNat, Int.reduceEq, Int.reduceBEq, Int.reduceBNe, Int.reduceLT, Int.reduceLE, Int.reduceNeg, Int.reduceAdd, Int.reduceSub, Int.reduceMul, Int.reduceGE, Int.reduceGT, endO]
      refine callV (.c (.v (.int .i64 0))) (.int .i64 0) (fun E => rfl) (fun E a w' hs => by have := robj_Z c.op w'; rw [ho] at this; exact this) ?_
      simp (config := { maxSteps := 2000000 }) only [forkS, go_sem, ↓condS, ↓exitS, ↓gateS, ↓runOp, ↓gateD, ↓runD, ↓imp_ft, ↓imp_tf, ↓imp_tt, ↓imp_ff, ↓imp_fn, ↓imp_tn, ↓imp_fy, ↓imp_ty, ↓reduceIte, Nat.reduceLT, Nat.reduceLeDiff, Nat.reduceAdd, Nat.reduceSub, Nat.reduceMul, Nat.reduceEqDiff, reduceCtorEq, Int.reduceToNat, Int.reduceEq, Int.reduceBEq, Int.reduceBNe, Int.reduceLT, Int.reduceLE, Int.reduceNeg, Int.reduceAdd, Int.reduceSub, Int.reduceMul, Int.reduceGE, Int.reduceGT, endO]
      refine callV (.c (.v (.bool true))) (.bool true) (fun E => rfl) (fun E a w' hs => ?_) ?_
      · have := rsame_Z (cont_0 w') (cont_0 w')
        rw [decide_eq_true rfl] at this
        exact this
      simp (config := { maxSteps := 2000000 }) only [go_sem, ↓condS, ↓exitS, ↓gateS, ↓runOp, ↓gateD, ↓runD, ↓imp_ft, ↓imp_tf, ↓imp_tt, ↓imp_ff, ↓imp_fn, ↓imp_tn, ↓imp_fy, ↓imp_ty, ↓reduceIte, Nat.reduceLT, Nat.reduceLeDiff, Nat.reduceAdd, Nat.reduceSub, Nat.reduceMul, Nat.reduceEqDiff, reduceCtorEq, Int.reduceToNat, Int.reduceEq, Int.reduceBEq, Int.reduceBNe, Int.reduceLT, Int.reduceLE, Int.reduceNeg, Int.reduceAdd, Int.reduceSub, Int.reduceMul, Int.reduceGE, Int.reduceGT, endO]
      exact retV fun E => by simp [SV.den, SC.den]
    · refine callB 5 (alT (allowM m c)) (mcR (allowM m c).1) (fun E a w' hs => by
        have := al_Z (w := w') c (cont_at hs 0 rfl rfl rfl rfl rfl) hok hm ho
        simp only [Cl.enc, iv] at this
        simp only [List.map_cons, List.map_nil, SV.den, SC.den]
        exact this) ?_
      have ral : ∀ {E : Env} {S : St} {a : Act} {w' : World} {C : Ctx}, Sat C.B C.W C.w0 E S a w' → look S.arrs 0 = some (.one (arrOf eI 1 m.cell 0)) → look S.arrs 1 = some (.one (arrOf eI 1 m.stack 0)) → look S.arrs 2 = some (.one (arrOf eI 1 m.queue 0)) → look S.arrs 3 = some (.one (arrOf eI 1 m.set 0)) → look S.arrs 4 = some (.one (arrOf eP 2 m.table (0, 0))) →
          Calls Try.prog 47 #[.agg ((mcS 0).map (SC.den E)).toArray, .agg c.enc.toArray] w' (RetB w' (fun _ => True) 5 (ralT (allowM m c)) (mcR (allowM m c).1)) := fun hs h0 h1 h2 h3 h4 => ral_Z c (cont_at hs 0 h0 h1 h2 h3 h4) hok hm ho
      generalize allowM m c = p at ral ⊢
      obtain ⟨m', b⟩ := p
      simp (config := { maxSteps := 2000000 }) only [go_sem, ↓condS, ↓exitS, ↓gateS, ↓runOp, ↓gateD, ↓runD, ↓imp_ft, ↓imp_tf, ↓imp_tt, ↓imp_ff, ↓imp_fn, ↓imp_tn, ↓imp_fy, ↓imp_ty, ↓reduceIte, Nat.reduceLT, Nat.reduceLeDiff, Nat.reduceAdd, Nat.reduceSub, Nat.reduceMul, Nat.reduceEqDiff, reduceCtorEq, Int.reduceToNat, Int.reduceEq, Int.reduceBEq, Int.reduceBNe, Int.reduceLT, Int.reduceLE, Int.reduceNeg, Int.reduceAdd, Int.reduceSub, Int.reduceMul, Int.reduceGE, Int.reduceGT, endO, alT, mcS, mcR, mcA]
      refine awk ?_
      simp (config := { maxSteps := 2000000 }) only [go_sem, ↓condS, ↓exitS, ↓gateS, ↓runOp, ↓gateD, ↓runD, ↓imp_ft, ↓imp_tf, ↓imp_tt, ↓imp_ff, ↓imp_fn, ↓imp_tn, ↓imp_fy, ↓imp_ty, ↓reduceIte, Nat.reduceLT, Nat.reduceLeDiff, Nat.reduceAdd, Nat.reduceSub, Nat.reduceMul, Nat.reduceEqDiff, reduceCtorEq, Int.reduceToNat, Int.reduceEq, Int.reduceBEq, Int.reduceBNe, Int.reduceLT, Int.reduceLE, Int.reduceNeg, Int.reduceAdd, Int.reduceSub, Int.reduceMul, Int.reduceGE, Int.reduceGT, endO]
      refine callV (.c (.v (.bool true))) (.bool true) (fun E => rfl) (fun E a w' hs => ?_) ?_
      · have := rsame_Z (w := w') (cont_at hs 0 rfl rfl rfl rfl rfl) (cont_at hs 7 rfl rfl rfl rfl rfl) (m := m) (m' := m)
        rw [decide_eq_true rfl] at this
        exact this
      simp (config := { maxSteps := 2000000 }) only [go_sem, ↓condS, ↓exitS, ↓gateS, ↓runOp, ↓gateD, ↓runD, ↓imp_ft, ↓imp_tf, ↓imp_tt, ↓imp_ff, ↓imp_fn, ↓imp_tn, ↓imp_fy, ↓imp_ty, ↓reduceIte, Nat.reduceLT, Nat.reduceLeDiff, Nat.reduceAdd, Nat.reduceSub, Nat.reduceMul, Nat.reduceEqDiff, reduceCtorEq, Int.reduceToNat, Int.reduceEq, Int.reduceBEq, Int.reduceBNe, Int.reduceLT, Int.reduceLE, Int.reduceNeg, Int.reduceAdd, Int.reduceSub, Int.reduceMul, Int.reduceGE, Int.reduceGT, endO]
      refine callV (.c (.v (.bool true))) (.bool true) (fun E => rfl) (fun E a w' hs => ?_) ?_
      · have := rmay_Z (w := w') (cont_at hs 0 rfl rfl rfl rfl rfl) (m := m)
        rw [hm] at this
        exact this
      simp (config := { maxSteps := 2000000 }) only [go_sem, ↓condS, ↓exitS, ↓gateS, ↓runOp, ↓gateD, ↓runD, ↓imp_ft, ↓imp_tf, ↓imp_tt, ↓imp_ff, ↓imp_fn, ↓imp_tn, ↓imp_fy, ↓imp_ty, ↓reduceIte, Nat.reduceLT, Nat.reduceLeDiff, Nat.reduceAdd, Nat.reduceSub, Nat.reduceMul, Nat.reduceEqDiff, reduceCtorEq, Int.reduceToNat, Int.reduceEq, Int.reduceBEq, Int.reduceBNe, Int.reduceLT, Int.reduceLE, Int.reduceNeg, Int.reduceAdd, Int.reduceSub, Int.reduceMul, Int.reduceGE, Int.reduceGT, endO]
      refine callV (.c (.v (.int .i64 (objOf c.op)))) _ (fun E => rfl) (fun E a w' hs => robj_Z c.op w') ?_
      simp (config := { maxSteps := 2000000 }) only [go_sem, ↓condS, ↓exitS, ↓gateS, ↓runOp, ↓gateD, ↓runD, ↓imp_ft, ↓imp_tf, ↓imp_tt, ↓imp_ff, ↓imp_fn, ↓imp_tn, ↓imp_fy, ↓imp_ty, ↓reduceIte, Nat.reduceLT, Nat.reduceLeDiff, Nat.reduceAdd, Nat.reduceSub, Nat.reduceMul, Nat.reduceEqDiff, reduceCtorEq, Int.reduceToNat, Int.reduceEq, Int.reduceBEq, Int.reduceBNe, Int.reduceLT, Int.reduceLE, Int.reduceNeg, Int.reduceAdd, Int.reduceSub, Int.reduceMul, Int.reduceGE, Int.reduceGT, endO]
      refine both (fun hz => ?_) (fun _ => ?_)
      · simp at hz; exact absurd hz ho
      refine call_inline (c := ir30) (rs := rs30) (nt := nt30) 1000 (mkTab_ok _ _) Try.func30 rfl (by kernel_rfl) (by kernel_rfl) rfl (by simp [okVs, SV.okN, SC.okL, SC.okN]) (of_decide_eq_true rfl) (fun E0 a0 ht0 => ?_)
      simp (config := { maxSteps := 2000000 }) only [ir30, nt30, rs30, go_sem, ↓condS, ↓exitS, ↓gateS, ↓runOp, ↓gateD, ↓runD, ↓imp_ft, ↓imp_tf, ↓imp_tt, ↓imp_ff, ↓imp_fn, ↓imp_tn, ↓imp_fy, ↓imp_ty, ↓reduceIte, Nat.reduceLT, Nat.reduceLeDiff, Nat.reduceAdd, Nat.reduceSub, Nat.reduceMul, Nat.reduceEqDiff, reduceCtorEq, Int.reduceToNat, Int.reduceEq, Int.reduceBEq, Int.reduceBNe, Int.reduceLT, Int.reduceLE, Int.reduceNeg, Int.reduceAdd, Int.reduceSub, Int.reduceMul, Int.reduceGE, Int.reduceGT, endO]
      refine callB 5 (ralT (m', b)) (mcR m') (fun E a w' hs => by
        have := ral hs rfl rfl rfl rfl rfl
        simp only [Cl.enc, iv] at this
        simp only [List.map_cons, List.map_nil, SV.den, SC.den]
        exact this) ?_
      simp (config := { maxSteps := 2000000 }) only [go_sem, ↓condS, ↓exitS, ↓gateS, ↓runOp, ↓gateD, ↓runD, ↓imp_ft, ↓imp_tf, ↓imp_tt, ↓imp_ff, ↓imp_fn, ↓imp_tn, ↓imp_fy, ↓imp_ty, ↓reduceIte, Nat.reduceLT, Nat.reduceLeDiff, Nat.reduceAdd, Nat.reduceSub, Nat.reduceMul, Nat.reduceEqDiff, reduceCtorEq, Int.reduceToNat, Int.reduceEq, Int.reduceBEq, Int.reduceBNe, Int.reduceLT, Int.reduceLE, Int.reduceNeg, Int.reduceAdd, Int.reduceSub, Int.reduceMul, Int.reduceGE, Int.reduceGT, endO, ralT, mcS, mcR, mcA]
      refine retI ht0 _ rfl (of_decide_eq_true rfl) (by simp [SV.okN, SC.okL, SC.okN, ok1L]) ?_
      simp (config := { maxSteps := 2000000 }) only [go_sem, ↓condS, ↓exitS, ↓gateS, ↓runOp, ↓gateD, ↓runD, ↓imp_ft, ↓imp_tf, ↓imp_tt, ↓imp_ff, ↓imp_fn, ↓imp_tn, ↓imp_fy, ↓imp_ty, ↓reduceIte, Nat.reduceLT, Nat.reduceLeDiff, Nat.reduceAdd, Nat.reduceSub, Nat.reduceMul, Nat.reduceEqDiff, reduceCtorEq, Int.reduceToNat, Int.reduceEq, Int.reduceBEq, Int.reduceBNe, Int.reduceLT, Int.reduceLE, Int.reduceNeg, Int.reduceAdd, Int.reduceSub, Int.reduceMul, Int.reduceGE, Int.reduceGT, endO]
      refine guardW (.c (.v (.bool true))) (.bool true) (fun E => rfl) (fun E a w' hs => ?_) ?_
      · have := rsame_Z (w := w') (cont_at hs 13 rfl rfl rfl rfl rfl) (cont_at hs 22 rfl rfl rfl rfl rfl) (m := m') (m' := m')
        rw [decide_eq_true rfl] at this
        exact this
      simp (config := { maxSteps := 2000000 }) only [go_sem, ↓condS, ↓exitS, ↓gateS, ↓runOp, ↓gateD, ↓runD, ↓imp_ft, ↓imp_tf, ↓imp_tt, ↓imp_ff, ↓imp_fn, ↓imp_tn, ↓imp_fy, ↓imp_ty, ↓reduceIte, Nat.reduceLT, Nat.reduceLeDiff, Nat.reduceAdd, Nat.reduceSub, Nat.reduceMul, Nat.reduceEqDiff, reduceCtorEq, Int.reduceToNat, Int.reduceEq, Int.reduceBEq, Int.reduceBNe, Int.reduceLT, Int.reduceLE, Int.reduceNeg, Int.reduceAdd, Int.reduceSub, Int.reduceMul, Int.reduceGE, Int.reduceGT, endO]
      exact retV fun E => by simp [SV.den, SC.den]
  · have hm' : mayB m = false := by simpa using hm
    refine none 111 (by simp [refN, hm']) (by decide) rfl rfl rfl rfl rfl ?_
    simp (config := { maxSteps := 2000000 }) only [go_sem, ↓condS, ↓exitS, ↓gateS, ↓runOp, ↓gateD, ↓runD, ↓imp_ft, ↓imp_tf, ↓imp_tt, ↓imp_ff, ↓imp_fn, ↓imp_tn, ↓imp_fy, ↓imp_ty, ↓reduceIte, Nat.reduceLT, Nat.reduceLeDiff, Nat.reduceAdd, Nat.reduceSub, Nat.reduceMul, Nat.reduceEqDiff, reduceCtorEq, Int.reduceToNat, Int.reduceEq, Int.reduceBEq, Int.reduceBNe, Int.reduceLT, Int.reduceLE, Int.reduceNeg, Int.reduceAdd, Int.reduceSub, Int.reduceMul, Int.reduceGE, Int.reduceGT, endO]
    refine awk ?_
    simp (config := { maxSteps := 2000000 }) only [go_sem, ↓condS, ↓exitS, ↓gateS, ↓runOp, ↓gateD, ↓runD, ↓imp_ft, ↓imp_tf, ↓imp_tt, ↓imp_ff, ↓imp_fn, ↓imp_tn, ↓imp_fy, ↓imp_ty, ↓reduceIte, Nat.reduceLT, Nat.reduceLeDiff, Nat.reduceAdd, Nat.reduceSub, Nat.reduceMul, Nat.reduceEqDiff, reduceCtorEq, Int.reduceToNat, Int.reduceEq, Int.reduceBEq, Int.reduceBNe, Int.reduceLT, Int.reduceLE, Int.reduceNeg, Int.reduceAdd, Int.reduceSub, Int.reduceMul, Int.reduceGE, Int.reduceGT, endO]
    refine callV (.c (.v (.bool true))) (.bool true) (fun E => rfl) (fun E a w' hs => ?_) ?_
    · have := rsame_Z (w := w') (cont_at hs 0 rfl rfl rfl rfl rfl) (cont_at hs 7 rfl rfl rfl rfl rfl) (m := m) (m' := m)
      rw [decide_eq_true rfl] at this
      exact this
    simp (config := { maxSteps := 2000000 }) only [go_sem, ↓condS, ↓exitS, ↓gateS, ↓runOp, ↓gateD, ↓runD, ↓imp_ft, ↓imp_tf, ↓imp_tt, ↓imp_ff, ↓imp_fn, ↓imp_tn, ↓imp_fy, ↓imp_ty, ↓reduceIte, Nat.reduceLT, Nat.reduceLeDiff, Nat.reduceAdd, Nat.reduceSub, Nat.reduceMul, Nat.reduceEqDiff, reduceCtorEq, Int.reduceToNat, Int.reduceEq, Int.reduceBEq, Int.reduceBNe, Int.reduceLT, Int.reduceLE, Int.reduceNeg, Int.reduceAdd, Int.reduceSub, Int.reduceMul, Int.reduceGE, Int.reduceGT, endO]
    refine callV (.c (.v (.bool false))) (.bool false) (fun E => rfl) (fun E a w' hs => ?_) ?_
    · have := rmay_Z (w := w') (cont_at hs 0 rfl rfl rfl rfl rfl) (m := m)
      rw [hm'] at this
      exact this
    simp (config := { maxSteps := 2000000 }) only [forkS, go_sem, ↓condS, ↓exitS, ↓gateS, ↓runOp, ↓gateD, ↓runD, ↓imp_ft, ↓imp_tf, ↓imp_tt, ↓imp_ff, ↓imp_fn, ↓imp_tn, ↓imp_fy, ↓imp_ty, ↓reduceIte, Nat.reduceLT, Nat.reduceLeDiff, Nat.reduceAdd, Nat.reduceSub, Nat.reduceMul, Nat.reduceEqDiff, reduceCtorEq, Int.reduceToNat, Int.reduceEq, Int.reduceBEq, Int.reduceBNe, Int.reduceLT, Int.reduceLE, Int.reduceNeg, Int.reduceAdd, Int.reduceSub, Int.reduceMul, Int.reduceGE, Int.reduceGT, endO]
    refine callV (.c (.v (.bool true))) (.bool true) (fun E => rfl) (fun E a w' hs => ?_) ?_
    · have := rsame_Z (cont_0 w') (cont_0 w')
      rw [decide_eq_true rfl] at this
      exact this
    simp (config := { maxSteps := 2000000 }) only [go_sem, ↓condS, ↓exitS, ↓gateS, ↓runOp, ↓gateD, ↓runD, ↓imp_ft, ↓imp_tf, ↓imp_tt, ↓imp_ff, ↓imp_fn, ↓imp_tn, ↓imp_fy, ↓imp_ty, ↓reduceIte, Nat.reduceLT, Nat.reduceLeDiff, Nat.reduceAdd, Nat.reduceSub, Nat.reduceMul, Nat.reduceEqDiff, reduceCtorEq, Int.reduceToNat, Int.reduceEq, Int.reduceBEq, Int.reduceBNe, Int.reduceLT, Int.reduceLE, Int.reduceNeg, Int.reduceAdd, Int.reduceSub, Int.reduceMul, Int.reduceGE, Int.reduceGT, endO]
    exact retV fun E => by simp [SV.den, SC.den]
end Go.Proofs.Ytgljbdcamagdbaa.Z
