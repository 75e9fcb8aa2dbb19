/- WitnessLocalSaid: what its proof is made of. No condition. -/
import Derived.Test.YtkjeedlkkpgopaaPkWitnessLocalAR
set_option linter.unusedSimpArgs false
set_option linter.unusedVariables false
namespace Go.Proofs.Ytkjeedlkkpgopaa.Z
open Go Go.RowKit
def TmpsDen (tmps : List (Nat × SV)) : List (Nat × SV) → Prop
 | [] => True
 | (t, v) :: r => (∃ u, look tmps t = some u ∧ ∀ E, u.den E = v.den E) ∧ TmpsDen tmps r
theorem tmpsDen_at {tmps : List (Nat × SV)} : ∀ {l : List (Nat × SV)}, TmpsDen tmps l → ∀ {t : Nat} {v : SV}, look l t = some v → ∃ u, look tmps t = some u ∧ ∀ E, u.den E = v.den E
 | [], _, t, v, h => by cases h
 | (k, u) :: r, hl, t, v, h => by
  rw [look_cons] at h
  split at h
  ·next e => cases h; subst e; exact hl.1
  ·exact tmpsDen_at hl.2 h
theorem le_den {C : Ctx} {nt : Nat} {t t' : List (Nat × SV)} {own : Own} {arrs : List (Nat × Fm ArrF)} {facts : List (Env → World → Prop)} {nid : Nat} (h : TmpsDen t t') : Le C ⟨nt, t, own, arrs, facts, nid⟩ ⟨nt, t', own, arrs, facts, nid⟩ := by
 intro E a w hs
 refine ⟨E, hs.1, fun E' hE' ho' => ?_⟩
 have hs := hs.2 E' hE' ho'
 exact ⟨hs.size, hs.defers, hs.one, fun k v hk => by
  obtain ⟨u, h1, h2⟩ := tmpsDen_at h hk
  rw [← h2]; exact hs.tmps k u h1, hs.frame, hs.mem⟩
noncomputable def partsB (xs : List Cl) (n : Nat) : Bool := pB (∀ k : Int, 1 ≤ k → k < n → findE (xs.filter fun c => decide (objOf c.op = k)) = 0)
theorem partsB_succ (xs : List Cl) (n : Nat) (h : 1 ≤ n) : partsB xs (n + 1) = (partsB xs n && decide (findE (xs.filter fun c => decide (objOf c.op = (n : Int))) = 0)) := by
 have e : partsB xs (n + 1) = true ↔ (partsB xs n && decide (findE (xs.filter fun c => decide (objOf c.op = (n : Int))) = 0)) = true := by
  rw [Bool.and_eq_true, decide_eq_true_eq]
  unfold partsB
  rw [pB_t, pB_t]
  constructor
  ·intro g; exact ⟨fun k h1 h2 => g k h1 (by omega), g n (by omega) (by omega)⟩
  ·rintro ⟨g1, g2⟩ k h1 h2
   by_cases e : k = n
   ·subst e; exact g2
   ·exact g1 k h1 (by omega)
 cases h1 : partsB xs (n + 1) <;> cases h2 : (partsB xs n && decide (findE (xs.filter fun c => decide (objOf c.op = (n : Int))) = 0)) <;> simp_all
def ptK (xs : List Cl) (n : Nat) (i : Nat) : List Cl := (xs.take i).filter fun c => decide (objOf c.op = (n : Int))
theorem ptK_len (xs : List Cl) (n i : Nat) : (ptK xs n i).length ≤ i := by
 have := List.length_filter_le (fun c : Cl => decide (objOf c.op = (n : Int))) (xs.take i)
 have h2 := List.length_take_le i xs
 unfold ptK; omega
theorem ptK_succ (xs : List Cl) (n : Nat) {i : Nat} (h : i < xs.length) : ptK xs n (i + 1) = if objOf (xs.getD i cl0).op = (n : Int) then ptK xs n i ++ [xs.getD i cl0] else ptK xs n i := by
 unfold ptK
 rw [List.take_succ_eq_append_getElem h, List.filter_append, getD_lt h]
 by_cases e : objOf xs[i].op = (n : Int)
 ·rw [if_pos e, List.filter_cons_of_pos (by simpa using e)]; rfl
 ·rw [if_neg e, List.filter_cons_of_neg (by simpa using e)]; simp
def ir8 : IR := (.seq (.ops [⟨(some 2), (.mv (.k (.c (.v (.bool false))))), none⟩]) (.kill [1, 2, 3, 4, 5, 6, 7, 8, 9, 10, 11] (.seq (.seq (.ops [⟨(some 11), (.call 30 []), none⟩, ⟨(some 12), (.un .not (.t 11)), none⟩]) (.kill [11] (.cond (.t 12) (.seq (.ops [⟨(some 2), (.mv (.k (.c (.v (.bool false))))), none⟩]) (.kill [0, 12] .ret)) .skip))) (.kill [2, 12] (.seq (.seq (.ops [⟨(some 13), (.mv (.t 0)), none⟩, ⟨(some 14), (.call 31 [(.t 13)]), none⟩, ⟨(some 15), (.un .not (.t 14)), none⟩]) (.kill [13, 14] (.cond (.t 15) (.seq (.ops [⟨(some 2), (.mv (.k (.c (.v (.bool true))))), none⟩]) (.kill [0, 15] .ret)) .skip))) (.kill [2, 15] (.seq (.ops [⟨(some 17), (.mv (.t 0)), none⟩, ⟨(some 18), (.call 32 [(.t 17)]), none⟩, ⟨(some 16), (.mv (.t 18)), none⟩, ⟨(some 19), (.ext 0 (.t 16)), none⟩, ⟨(some 20), (.ext 1 (.t 16)), none⟩, ⟨(some 3), (.mv (.t 19)), none⟩, ⟨(some 4), (.mv (.t 20)), none⟩]) (.kill [16, 17, 18, 19, 20] (.seq (.seq (.ops [⟨(some 21), (.mv (.t 4)), none⟩, ⟨(some 22), (.un .not (.t 21)), none⟩]) (.kill [4, 21] (.cond (.t 22) (.seq (.ops [⟨(some 2), (.mv (.k (.c (.v (.bool false))))), none⟩]) (.kill [0, 3, 22] .ret)) .skip))) (.kill [2, 22] (.seq (.ops [⟨(some 5), (.mv (.k (.c (.v (.bool true))))), none⟩]) (.seq (.seq (.ops [⟨(some 6), (.mv (.k (.c (.v (.int .i64 1))))), none⟩]) (.blk 0 (.loop (.seq (.seq (.ops [⟨(some 23), (.mv (.t 6)), none⟩, ⟨(some 24), (.bin .leq (.t 23) (.k (.c (.v (.int .i64 5))))), none⟩]) (.kill [2, 7, 8, 9, 10, 23, 25, 26, 27, 28, 29, 30, 31, 32, 33, 34, 35, 36, 37, 38, 39, 40, 41, 42, 43, 44, 45, 46, 47, 48, 49, 50, 51, 52, 53, 54, 55, 56, 57, 58] (.cond (.t 24) .skip (.exit 0)))) (.kill [24] (.seq (.blk 1 (.seq (.ops [⟨(some 7), (.mv (.k (.c (.v (.slice none 0 0))))), none⟩]) (.seq (.seq (.ops [⟨(some 8), (.mv (.k (.c (.v (.int .i64 0))))), none⟩]) (.blk 2 (.loop (.seq (.seq (.ops [⟨(some 27), (.mv (.t 8)), none⟩, ⟨(some 28), (.mv (.t 0)), none⟩, ⟨(some 29), (.len (.t 28)), none⟩, ⟨(some 30), (.bin .lss (.t 27) (.t 29)), none⟩]) (.kill [27, 28, 29, 31, 32, 33, 34, 35, 36, 37, 38, 39, 40, 41, 42, 43, 44, 45, 46, 47] (.cond (.t 30) .skip (.exit 2)))) (.kill [30] (.seq (.blk 3 (.seq (.ops [⟨(some 33), (.mv (.t 0)), none⟩, ⟨(some 34), (.mv (.t 8)), none⟩, ⟨(some 35), (.ia 9 (.t 33) (.t 34)), none⟩, ⟨(some 36), (.fa 1 (.t 35)), none⟩, ⟨(some 37), (.ld false 1 (.t 36)), none⟩, ⟨(some 38), (.call 33 [(.t 37)]), none⟩, ⟨(some 39), (.mv (.t 6)), none⟩, ⟨(some 40), (.bin .eql (.t 38) (.t 39)), none⟩]) (.kill [33, 34, 35, 36, 37, 38, 39] (.cond (.t 40) (.ops [⟨(some 41), (.mv (.t 7)), none⟩, ⟨(some 42), (.mv (.t 0)), none⟩, ⟨(some 43), (.mv (.t 8)), none⟩, ⟨(some 44), (.ia 9 (.t 42) (.t 43)), none⟩, ⟨(some 45), (.ld true 9 (.t 44)), none⟩, ⟨(some 46), (.mkSl 53 1 9 [(.v (.int .i64 0)), (.v (.int .i64 0)), (.v (.int .i64 0)), (.v (.int .i64 0)), (.v (.int .i64 0)), (.v (.int .i64 0)), (.v (.int .i64 0)), (.v (.int .i64 0)), (.v (.int .i64 0))] [(0, (9, (.t 45)))]), none⟩, ⟨(some 47), (.app 53 9 72 [(.v (.int .i64 0)), (.v (.int .i64 0)), (.v (.int .i64 0)), (.v (.int .i64 0)), (.v (.int .i64 0)), (.v (.int .i64 0)), (.v (.int .i64 0)), (.v (.int .i64 0)), (.v (.int .i64 0))] (.t 41) (.t 46)), none⟩, ⟨(some 7), (.mv (.t 47)), none⟩]) .skip)))) (.kill [33, 34, 35, 36, 37, 38, 39, 40, 41, 42, 43, 44, 45, 46, 47] (.ops [⟨(some 31), (.mv (.t 8)), none⟩, ⟨(some 32), (.bin .add (.t 31) (.k (.c (.v (.int .i64 1))))), none⟩, ⟨(some 8), (.mv (.t 32)), none⟩])))))))) (.kill [8, 27, 28, 29, 30, 31, 32, 33, 34, 35, 36, 37, 38, 39, 40, 41, 42, 43, 44, 45, 46, 47] (.seq (.ops [⟨(some 49), (.mv (.t 7)), none⟩, ⟨(some 50), (.call 32 [(.t 49)]), none⟩, ⟨(some 48), (.mv (.t 50)), none⟩, ⟨(some 51), (.ext 0 (.t 48)), none⟩, ⟨(some 52), (.ext 1 (.t 48)), none⟩, ⟨(some 9), (.mv (.t 51)), none⟩, ⟨(some 10), (.mv (.t 52)), none⟩]) (.kill [7, 48, 49, 50, 51, 52] (.seq (.seq (.ops [⟨(some 53), (.mv (.t 10)), none⟩, ⟨(some 54), (.un .not (.t 53)), none⟩]) (.kill [10, 53] (.cond (.t 54) (.seq (.ops [⟨(some 2), (.mv (.k (.c (.v (.bool false))))), none⟩]) (.kill [0, 3, 5, 6, 9, 54] .ret)) .skip))) (.kill [2, 54] (.ops [⟨(some 55), (.mv (.t 5)), none⟩, ⟨(some 56), (.mv (.t 55)), none⟩, ⟨(some 57), (.mv (.t 9)), (some (56, true))⟩, ⟨(some 58), (.pick (.t 56) (.t 57) (.k (.c (.v (.bool false))))), none⟩, ⟨(some 5), (.mv (.t 58)), none⟩]))))))))) (.kill [2, 7, 8, 9, 10, 27, 28, 29, 30, 31, 32, 33, 34, 35, 36, 37, 38, 39, 40, 41, 42, 43, 44, 45, 46, 47, 48, 49, 50, 51, 52, 53, 54, 55, 56, 57, 58] (.ops [⟨(some 25), (.mv (.t 6)), none⟩, ⟨(some 26), (.bin .add (.t 25) (.k (.c (.v (.int .i64 1))))), none⟩, ⟨(some 6), (.mv (.t 26)), none⟩])))))))) (.kill [0, 2, 6, 7, 8, 9, 10, 23, 24, 25, 26, 27, 28, 29, 30, 31, 32, 33, 34, 35, 36, 37, 38, 39, 40, 41, 42, 43, 44, 45, 46, 47, 48, 49, 50, 51, 52, 53, 54, 55, 56, 57, 58] (.seq (.ops [⟨(some 59), (.mv (.t 5)), none⟩, ⟨(some 60), (.mv (.t 3)), none⟩, ⟨(some 61), (.eqb false (.t 59) (.t 60)), none⟩, ⟨(some 2), (.mv (.t 61)), none⟩]) (.kill [3, 5, 59, 60, 61] .ret)))))))))))))))
def rs8 : List RS := [(.t 2)]
def nt8 : Nat := 62
set_option maxRecDepth 100000 in
set_option maxHeartbeats 400000 in
theorem local_walk (w : World) (v : Value) (xs : List Cl) (hsz : (xs.length + 1) * 72 ≤ 140737488355328) (h : Arr w Cl.enc 9 v xs) : Calls Try.prog 8 #[v] w (RetV w (.bool true)) := by
 refine enter1 (A := []) (c := ir8) (rs := rs8) (nt := nt8) cl0 cl_ok h [.c (.xv (0, 0, 0))] _ Try.func8 rfl (by kernel_rfl) (by kernel_rfl) rfl (fun E' h0 => by simp [SV.den, SC.den, h0]) (of_decide_eq_true rfl) ?_
 simp (maxSteps := 2000000) only [ir8, nt8, rs8, go_sem, ↓condS, ↓exitS, ↓gateS, ↓runOp, ↓gateD, ↓runD, ↓imp_ft, ↓imp_tf, ↓imp_tt, ↓imp_ff, ↓imp_fn, ↓imp_tn, ↓imp_fy, ↓imp_ty, ↓reduceIte, Nat.reduceLT, Nat.reduceLeDiff, Nat.reduceAdd, Nat.reduceSub, Nat.reduceMul, Nat.reduceEqDiff, reduceCtorEq, Int.reduceToNat, Int.reduceEq, Int.reduceBEq, Int.reduceBNe, Int.reduceLT, Int.reduceLE, Int.reduceNeg, Int.reduceAdd, Int.reduceSub, Int.reduceMul, Int.reduceGE, Int.reduceGT, Cl.enc, iv, endO]
 refine callV (.c (.v (.bool true))) (.bool true) (fun E => rfl) (fun E a w' hs => awake_calls w') ?_
 simp (maxSteps := 2000000) only [go_sem, ↓condS, ↓exitS, ↓gateS, ↓runOp, ↓gateD, ↓runD, ↓imp_ft, ↓imp_tf, ↓imp_tt, ↓imp_ff, ↓imp_fn, ↓imp_tn, ↓imp_fy, ↓imp_ty, ↓reduceIte, Nat.reduceLT, Nat.reduceLeDiff, Nat.reduceAdd, Nat.reduceSub, Nat.reduceMul, Nat.reduceEqDiff, reduceCtorEq, Int.reduceToNat, Int.reduceEq, Int.reduceBEq, Int.reduceBNe, Int.reduceLT, Int.reduceLE, Int.reduceNeg, Int.reduceAdd, Int.reduceSub, Int.reduceMul, Int.reduceGE, Int.reduceGT, Cl.enc, iv, endO]
 by_cases he : nsE xs = 0
 ·refine callV (.c (.v (.bool true))) (.bool true) (fun E => rfl) (fun E a w' hs => by
   have := searched_calls w' _ xs (by omega) (arr_at (d := cl0) hs 0 rfl)
   rw [decide_eq_true he] at this
   exact this) ?_
  simp (maxSteps := 2000000) only [go_sem, ↓condS, ↓exitS, ↓gateS, ↓runOp, ↓gateD, ↓runD, ↓imp_ft, ↓imp_tf, ↓imp_tt, ↓imp_ff, ↓imp_fn, ↓imp_tn, ↓imp_fy, ↓imp_ty, ↓reduceIte, Nat.reduceLT, Nat.reduceLeDiff, Nat.reduceAdd, Nat.reduceSub, Nat.reduceMul, Nat.reduceEqDiff, reduceCtorEq, Int.reduceToNat, Int.reduceEq, Int.reduceBEq, Int.reduceBNe, Int.reduceLT, Int.reduceLE, Int.reduceNeg, Int.reduceAdd, Int.reduceSub, Int.reduceMul, Int.reduceGE, Int.reduceGT, Cl.enc, iv, endO]
  refine callV (.tup [(false, [.bo (decide (findE xs = 0))]), (false, [.v (.bool true)])]) (.tuple #[.bool (decide (findE xs = 0)), .bool true]) (fun E => rfl) (fun E a w' hs => found_calls w' _ xs (by omega) he (arr_at (d := cl0) hs 0 rfl)) ?_
  simp (maxSteps := 2000000) only [go_sem, ↓condS, ↓exitS, ↓gateS, ↓runOp, ↓gateD, ↓runD, ↓imp_ft, ↓imp_tf, ↓imp_tt, ↓imp_ff, ↓imp_fn, ↓imp_tn, ↓imp_fy, ↓imp_ty, ↓reduceIte, Nat.reduceLT, Nat.reduceLeDiff, Nat.reduceAdd, Nat.reduceSub, Nat.reduceMul, Nat.reduceEqDiff, reduceCtorEq, Int.reduceToNat, Int.reduceEq, Int.reduceBEq, Int.reduceBNe, Int.reduceLT, Int.reduceLE, Int.reduceNeg, Int.reduceAdd, Int.reduceSub, Int.reduceMul, Int.reduceGE, Int.reduceGT, Cl.enc, iv, endO]
  refine loopI (ι := { n : Nat // 1 ≤ n ∧ n ≤ 6 }) (fun n => ⟨62, [(0, .c (.xv (0, 0, 0))), (3, .c (.bo (decide (findE xs = 0)))), (5, .c (.bo (partsB xs n.1))), (6, .c (.v (.int .i64 (n.1 : Nat))))], [], [(0, .one (arrOf Cl.enc 9 xs cl0))], [], 1⟩)
   (fun n => 6 - n.1) ⟨1, by omega⟩ ?_ ?_
  ·have e1 : partsB xs 1 = true := pB_t.2 fun k h1 h2 => by omega
   refine le_tr (le_den (t' := [(0, .c (.xv (0, 0, 0))), (3, .c (.bo (decide (findE xs = 0)))), (5, .c (.bo true)), (6, .c (.v (.int .i64 1)))]) (by simp [TmpsDen, look, SV.den, SC.den])) ?_
   exact le_ren id rfl rfl (by simp [TmpsLe, look, SV.ren, SC.ren, idσ, SV.okN, SC.okN, e1]) (by simp [OwnLe]) (by simp [ArrsLe, ArrLeO, atN, look, Fm.get, idσ, arrLe_of, arrLe_0]) rfl
  rintro ⟨n, hn1, hn6⟩
  simp (maxSteps := 2000000) only [go_sem, ↓condS, ↓exitS, ↓gateS, ↓runOp, ↓gateD, ↓runD, ↓imp_ft, ↓imp_tf, ↓imp_tt, ↓imp_ff, ↓imp_fn, ↓imp_tn, ↓imp_fy, ↓imp_ty, ↓reduceIte, Nat.reduceLT, Nat.reduceLeDiff, Nat.reduceAdd, Nat.reduceSub, Nat.reduceMul, Nat.reduceEqDiff, reduceCtorEq, Int.reduceToNat, Int.reduceEq, Int.reduceBEq, Int.reduceBNe, Int.reduceLT, Int.reduceLE, Int.reduceNeg, Int.reduceAdd, Int.reduceSub, Int.reduceMul, Int.reduceGE, Int.reduceGT, Cl.enc, iv, endO]
  refine both (fun hle => ?_) (fun hgt => ?_)
  ·rw [decide_eq_true_eq] at hle
   refine loopI (ι := { i : Nat // i ≤ xs.length }) (fun i => ⟨62, [(0, .c (.xv (0, 0, 0))), (3, .c (.bo (decide (findE xs = 0)))), (5, .c (.bo (partsB xs n))), (6, .c (.v (.int .i64 (n : Nat)))), (7, .c (.sl (1, 0, 0) 9 0 (ptK xs n i.1).length none)), (8, .c (.v (.int .i64 (i.1 : Nat))))], [(1, .one (.ar (ptK xs n i.1).length 9 (ats Cl.enc (ptK xs n i.1) cl0) 53))], [(0, .one (arrOf Cl.enc 9 xs cl0))], [], 2⟩)
    (fun i => xs.length - i.1) ⟨0, by omega⟩ ?_ ?_
   ·refine le_tr (le_nilown (tmps' := [(0, .c (.xv (0, 0, 0))), (3, .c (.bo (decide (findE xs = 0)))), (5, .c (.bo (partsB xs n))), (6, .c (.v (.int .i64 (n : Nat)))), (7, .c (.sl (1, 0, 0) 9 0 0 none)), (8, .c (.v (.int .i64 0)))]) 9 53 (ats Cl.enc [] cl0) (by simp [TmpsNil, look]) rfl) ?_
    exact le_ren id rfl rfl (by simp [TmpsLe, look, SV.ren, SC.ren, idσ, SV.okN, SC.okN, ptK]) (by simp [OwnLe, BlkLeO, BlkLe, atN, look, Fm.get, idσ, SC.renL, SC.ren, SC.okL, SC.okN, ren_ats, ok_ats, renL_v, okL_v, ptK]) (by simp [ArrsLe, ArrLeO, atN, look, Fm.get, idσ, arrLe_of, arrLe_0]) rfl
   rintro ⟨i, hi⟩
   simp (maxSteps := 2000000) only [go_sem, ↓condS, ↓exitS, ↓gateS, ↓runOp, ↓gateD, ↓runD, ↓imp_ft, ↓imp_tf, ↓imp_tt, ↓imp_ff, ↓imp_fn, ↓imp_tn, ↓imp_fy, ↓imp_ty, ↓reduceIte, Nat.reduceLT, Nat.reduceLeDiff, Nat.reduceAdd, Nat.reduceSub, Nat.reduceMul, Nat.reduceEqDiff, reduceCtorEq, Int.reduceToNat, Int.reduceEq, Int.reduceBEq, Int.reduceBNe, Int.reduceLT, Int.reduceLE, Int.reduceNeg, Int.reduceAdd, Int.reduceSub, Int.reduceMul, Int.reduceGE, Int.reduceGT, Cl.enc, iv, endO]
   refine both (fun hlt => ?_) (fun hge => ?_)
   ·rw [decide_eq_true_eq] at hlt
    have hlt : i < xs.length := by omega
    have hpl := ptK_len xs n i
    have hps := ptK_succ xs n hlt
    refine And.intro hlt (And.intro hlt (And.intro hlt ?_))
    refine callV (.c (.v (.int .i64 (objOf (xs.getD i cl0).op)))) _ (fun E => rfl) (fun E a w' hs => objL _ w') ?_
    simp (maxSteps := 2000000) only [go_sem, ↓condS, ↓exitS, ↓gateS, ↓runOp, ↓gateD, ↓runD, ↓imp_ft, ↓imp_tf, ↓imp_tt, ↓imp_ff, ↓imp_fn, ↓imp_tn, ↓imp_fy, ↓imp_ty, ↓reduceIte, Nat.reduceLT, Nat.reduceLeDiff, Nat.reduceAdd, Nat.reduceSub, Nat.reduceMul, Nat.reduceEqDiff, reduceCtorEq, Int.reduceToNat, Int.reduceEq, Int.reduceBEq, Int.reduceBNe, Int.reduceLT, Int.reduceLE, Int.reduceNeg, Int.reduceAdd, Int.reduceSub, Int.reduceMul, Int.reduceGE, Int.reduceGT, Cl.enc, iv, endO, ats]
    refine both (fun hb => ?_) (fun hb => ?_)
    ·have hb : objOf (xs.getD i cl0).op = (n : Int) := by simpa using hb
     rw [if_pos hb] at hps
     have hml : (ptK xs n i).length + 1 ≤ maxLen := by simp only [maxLen]; omega
     have h72 : ((ptK xs n i).length + 1 + ((ptK xs n i).length + 1) / 4 + 192) * 72 ≤ 281474976710656 := fit_app _ (by omega)
     have hone : 1 ≤ maxLen := by decide
     refine And.intro hlt (And.intro hlt (And.intro hone (And.intro ⟨Nat.le_refl _, h72, hml⟩ ?_)))
     clear hml h72 hone
     have hpl1 : (ptK xs n (i + 1)).length = (ptK xs n i).length + 1 := by rw [hps]; simp
     rw [wr_succ (by omega)]
     refine backI ⟨i + 1, by omega⟩ (by simp only; omega) (le_ren (fun k => if k = 1 then 3 else k) rfl rfl (by simp [TmpsLe, look, SV.ren, SC.ren, idσ, SV.okN, SC.okN, hpl1]) ⟨⟨of_decide_eq_true rfl, ?_⟩, trivial⟩ (by simp [ArrsLe, ArrLeO, atN, look, Fm.get, idσ, arrLe_of, arrLe_0]) rfl)
     refine ⟨by simp only [hpl1]; omega, rfl, rfl, fun e he => ?_⟩
     refine ⟨?_, okL_v _ _⟩
     have := ats_push (d := cl0) (enc := Cl.enc) hps rfl (f := ats Cl.enc (ptK xs n i) cl0) (g := fun e => take' 9 (drop' (e * 9) ((Cl.enc (xs.getD i cl0)).map .v))) (fun e he => rfl) (by simp [Cl.enc, take', drop', iv]) e (by simpa using he)
     show _ = SC.renL _ ((Cl.enc ((ptK xs n (i + 1)).getD e cl0)).map .v)
     rw [renL_v]
     exact this
    ·have hb : objOf (xs.getD i cl0).op ≠ (n : Int) := by simpa using hb
     rw [if_neg hb] at hps
     rw [wr_succ (by omega)]
     exact backI ⟨i + 1, by omega⟩ (by simp only; omega) (le_ren id rfl rfl (by simp [TmpsLe, look, SV.ren, SC.ren, idσ, SV.okN, SC.okN, hps]) (by simp [OwnLe, BlkLeO, BlkLe, atN, look, Fm.get, idσ, SC.renL, SC.ren, SC.okL, SC.okN, ren_ats, ok_ats, renL_v, okL_v, hps]) (by simp [ArrsLe, ArrLeO, atN, look, Fm.get, idσ, arrLe_of, arrLe_0]) rfl)
   ·rw [decide_eq_false_iff_not] at hge
    have hin : i = xs.length := by omega
    subst hin
    have hpe : ptK xs n xs.length = xs.filter fun c => decide (objOf c.op = (n : Int)) := by unfold ptK; rw [List.take_length]
    have hns : nsE (ptK xs n xs.length) = 0 := by rw [hpe]; exact ns_sub List.filter_sublist he
    have hpl := ptK_len xs n xs.length
    refine callV (.tup [(false, [.bo (decide (findE (ptK xs n xs.length) = 0))]), (false, [.v (.bool true)])]) (.tuple #[.bool (decide (findE (ptK xs n xs.length) = 0)), .bool true]) (fun E => rfl) (fun E a w' hs => found_calls w' _ (ptK xs n xs.length) (by omega) hns (own_at (d := cl0) hs 1 _ rfl rfl)) ?_
    simp (maxSteps := 2000000) only [go_sem, ↓condS, ↓exitS, ↓gateS, ↓runOp, ↓gateD, ↓runD, ↓imp_ft, ↓imp_tf, ↓imp_tt, ↓imp_ff, ↓imp_fn, ↓imp_tn, ↓imp_fy, ↓imp_ty, ↓reduceIte, Nat.reduceLT, Nat.reduceLeDiff, Nat.reduceAdd, Nat.reduceSub, Nat.reduceMul, Nat.reduceEqDiff, reduceCtorEq, Int.reduceToNat, Int.reduceEq, Int.reduceBEq, Int.reduceBNe, Int.reduceLT, Int.reduceLE, Int.reduceNeg, Int.reduceAdd, Int.reduceSub, Int.reduceMul, Int.reduceGE, Int.reduceGT, Cl.enc, iv, endO]
    have hpb := partsB_succ xs n hn1
    rw [← hpe] at hpb
    rw [wr_succ (by omega)]
    have hpb2 : (if partsB xs n = true then decide (findE (ptK xs n xs.length) = 0) else false) = partsB xs (n + 1) := by rw [hpb]; cases partsB xs n <;> simp
    rw [hpb2]
    exact backI ⟨n + 1, by omega, by omega⟩ (by simp only; omega) (le_ren id rfl rfl (by simp [TmpsLe, look, SV.ren, SC.ren, idσ, SV.okN, SC.okN]) (by simp [OwnLe]) (by simp [ArrsLe, ArrLeO, atN, look, Fm.get, idσ, arrLe_of, arrLe_0]) rfl)
  ·rw [decide_eq_false_iff_not] at hgt
   have hn : n = 6 := by omega
   subst hn
   have hlf := local_find he
   exact retV fun E => by
    have e : partsB xs 6 = decide (findE xs = 0) := by
     unfold partsB
     by_cases hf : findE xs = 0
     ·rw [decide_eq_true hf]
      exact pB_t.2 fun k h1 h2 => hlf.1 hf k h1 (by omega)
     ·rw [decide_eq_false hf]
      exact pB_f.2 fun hq => hf (hlf.2 fun k h1 h2 => hq k h1 (by omega))
    simp [SV.den, SC.den, e]
 ·refine callV (.c (.v (.bool false))) (.bool false) (fun E => rfl) (fun E a w' hs => by
   have := searched_calls w' _ xs (by omega) (arr_at (d := cl0) hs 0 rfl)
   rw [decide_eq_false he] at this
   exact this) ?_
  simp (maxSteps := 2000000) only [go_sem, ↓condS, ↓exitS, ↓gateS, ↓runOp, ↓gateD, ↓runD, ↓imp_ft, ↓imp_tf, ↓imp_tt, ↓imp_ff, ↓imp_fn, ↓imp_tn, ↓imp_fy, ↓imp_ty, ↓reduceIte, Nat.reduceLT, Nat.reduceLeDiff, Nat.reduceAdd, Nat.reduceSub, Nat.reduceMul, Nat.reduceEqDiff, reduceCtorEq, Int.reduceToNat, Int.reduceEq, Int.reduceBEq, Int.reduceBNe, Int.reduceLT, Int.reduceLE, Int.reduceNeg, Int.reduceAdd, Int.reduceSub, Int.reduceMul, Int.reduceGE, Int.reduceGT, Cl.enc, iv, endO]
  exact retV fun E => by simp [SV.den, SC.den]
end Go.Proofs.Ytkjeedlkkpgopaa.Z
namespace Go.Proofs.Ytkjeedlkkpgopaa.Z
open Go Go.RowKit Go.ChangeShapes Go.WideShapes Go.ChangeAt
theorem own : ownKnob Try.prog.godebug = none := by kernel_rfl
theorem laidOut : laidOutB Try.prog = true := by kernel_rfl
theorem leavesCl : leavesIn Try.prog 9 53 = some [3, 48, 3, 3, 3, 3, 3, 49, 3] := by kernel_rfl
theorem cellsCl : Try.prog.cellsOf 53 = 9 := by kernel_rfl
theorem bytesCl : Try.prog.bytesOf 53 = 72 := by kernel_rfl
section
variable {H : Type} {enc : TypeId × Value → H} {w : World}
theorem leavesCs : leavesIn Try.prog 9 22 = some [22] := by kernel_rfl
theorem reach_len {α : Type} {x : List α} {s : Nat} {ws : List Nat} (hr : ∀ k ∈ ws, k ≤ reachBytes) (h : x = [] ∨ ∃ k ∈ ws, x.length * s ≤ k) : x.length * s ≤ 140737488351232 := by
 rcases h with rfl | ⟨k, hk, h⟩
 ·simp
 ·have := hr k hk
  unfold reachBytes at this
  omega
theorem lit_rng {n : Int} (h : (Lit.int .i64 n).wf = true) : -9223372036854775808 ≤ n ∧ n ≤ 9223372036854775807 := by
 simp [Lit.wf, IntKind.min, IntKind.max, IntKind.signed, IntKind.bits] at h
 omega
def ClR (c : Cl) : Prop := c.beg ≤ 9223372036854775807 ∧ c.fin ≤ 9223372036854775807 ∧ c.point ≤ 9223372036854775807
theorem leaf_calls {b : Nat} {ws : List Nat} {c : Value} (h : LeafAt enc Try.prog w 0 (fun _ => true) true b ws 22 c) :
  ∃ xs : List Cl, Arr w Cl.enc 9 c xs ∧ (∀ c ∈ xs, ClR c) ∧ xs.length + 1 ≤ b ∧ (xs = [] ∨ ∃ k ∈ ws, xs.length * 72 ≤ k) := by
 obtain ⟨xs, h1, h4, h2, h3⟩ := h.slice (α := Cl) Try.underlying22 (by decide) cellsCl Cl.enc ClR (fun m cs y hl ht => by
  match cs, hl with
  | [c0, c1, c2, c3, c4, c5, c6, c7, c8], _ =>
   have L := leaf_of 9 _ _ leavesCl m _ _ ht
   obtain ⟨x0, rfl, _⟩ := (L 0 _ c0 rfl rfl).int Try.underlying3
   obtain ⟨x1, rfl, _⟩ := (L 1 _ c1 rfl rfl).int Try.underlying48
   obtain ⟨x2, rfl, _⟩ := (L 2 _ c2 rfl rfl).int Try.underlying3
   obtain ⟨x3, rfl, _⟩ := (L 3 _ c3 rfl rfl).int Try.underlying3
   obtain ⟨x4, rfl, r4⟩ := (L 4 _ c4 rfl rfl).int Try.underlying3
   obtain ⟨x5, rfl, r5⟩ := (L 5 _ c5 rfl rfl).int Try.underlying3
   obtain ⟨x6, rfl, r6⟩ := (L 6 _ c6 rfl rfl).int Try.underlying3
   obtain ⟨x7, rfl, _⟩ := (L 7 _ c7 rfl rfl).int Try.underlying49
   obtain ⟨x8, rfl, _⟩ := (L 8 _ c8 rfl rfl).int Try.underlying3
   exact ⟨⟨x0, x1, x2, x3, x4, x5, x6, x7, x8⟩, rfl, (lit_rng r4).2, (lit_rng r5).2, (lit_rng r6).2⟩)
 rw [bytesCl] at h3
 exact ⟨xs, h1, h4, h2, h3⟩
set_option maxRecDepth 100000 in
theorem open_callsR {base : Nat} {v : Value} {d : DataW H} {p : List MemPlace} (hv : Value.okWide Try.prog w .any base 22 v) (h : DataW.Trod enc Try.prog w 0 (fun _ => true) true 22 v d p) :
  ∃ xs, Arr w Cl.enc 9 v xs ∧ (∀ c ∈ xs, ClR c) ∧ ((∀ k ∈ d.weights Try.prog 22, k ≤ reachBytes) → xs.length * 72 ≤ 140737488351232) := by
 obtain ⟨ba, len, cap, rfl⟩ := okWide_slice Try.underlying22 hv
 obtain ⟨fuel, hf⟩ := h
 obtain ⟨xs, h1, h4, _, h2⟩ := leaf_calls (leaf_of 9 _ _ leavesCs fuel _ _ hf 0 22 _ rfl rfl)
 exact ⟨xs, h1, h4, fun hr => reach_len hr h2⟩
end
end Go.Proofs.Ytkjeedlkkpgopaa.Z
