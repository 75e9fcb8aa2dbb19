
/- Marks by their moves: by halves. No statement of the program. -/
import Derived.Test.YtkjeedlkkpgopaaWD
namespace Go.Proofs.Ytkjeedlkkpgopaa.Z
open Go Go.RowKit
set_option linter.unusedSimpArgs false
set_option linter.unusedVariables false

def ir57 : IR := (.seq (.ops [⟨(some 2), (.mv (.k (.c (.v (.slice none 0 0))))), none⟩]) (.kill [1, 2, 3, 4, 5, 6, 7, 8, 9, 10, 11] (.seq (.seq (.ops [⟨(some 8), (.mv (.t 0)), none⟩, ⟨(some 9), (.len (.t 8)), none⟩, ⟨(some 10), (.bin .lss (.t 9) (.k (.c (.v (.int .i64 2))))), none⟩]) (.kill [8, 9] (.cond (.t 10) (.seq (.ops [⟨(some 11), (.mv (.t 0)), none⟩, ⟨(some 2), (.mv (.t 11)), none⟩]) (.kill [0, 10, 11] .ret)) .skip))) (.kill [2, 10] (.seq (.ops [⟨(some 12), (.mv (.t 0)), none⟩, ⟨(some 13), (.mv (.t 0)), none⟩, ⟨(some 14), (.len (.t 13)), none⟩, ⟨(some 15), (.bin .quo (.t 14) (.k (.c (.v (.int .i64 2))))), none⟩, ⟨(some 16), (.slc 2 (.t 12) none (some (.t 15)) none), none⟩, ⟨(some 17), (.call 57 [(.t 16)]), none⟩, ⟨(some 3), (.mv (.t 17)), none⟩]) (.kill [12, 13, 14, 15, 16, 17] (.seq (.ops [⟨(some 18), (.mv (.t 0)), none⟩, ⟨(some 19), (.mv (.t 0)), none⟩, ⟨(some 20), (.len (.t 19)), none⟩, ⟨(some 21), (.bin .quo (.t 20) (.k (.c (.v (.int .i64 2))))), none⟩, ⟨(some 22), (.slc 2 (.t 18) (some (.t 21)) none none), none⟩, ⟨(some 23), (.call 57 [(.t 22)]), none⟩, ⟨(some 4), (.mv (.t 23)), none⟩]) (.kill [0, 18, 19, 20, 21, 22, 23] (.seq (.ops [⟨(some 5), (.mv (.k (.c (.v (.slice none 0 0))))), none⟩]) (.seq (.ops [⟨(some 6), (.mv (.k (.c (.v (.int .i64 0))))), none⟩]) (.seq (.ops [⟨(some 7), (.mv (.k (.c (.v (.int .i64 0))))), none⟩]) (.seq (.blk 0 (.loop (.seq (.seq (.ops [⟨(some 24), (.mv (.t 6)), none⟩, ⟨(some 25), (.mv (.t 3)), none⟩, ⟨(some 26), (.len (.t 25)), none⟩, ⟨(some 27), (.bin .lss (.t 24) (.t 26)), none⟩, ⟨(some 28), (.mv (.t 27)), none⟩, ⟨(some 29), (.mv (.t 7)), (some (28, false))⟩, ⟨(some 30), (.mv (.t 4)), (some (28, false))⟩, ⟨(some 31), (.len (.t 30)), (some (28, false))⟩, ⟨(some 32), (.bin .lss (.t 29) (.t 31)), (some (28, false))⟩, ⟨(some 33), (.pick (.t 28) (.k (.c (.v (.bool true)))) (.t 32)), none⟩]) (.kill [24, 25, 26, 27, 28, 29, 30, 31, 32, 34, 35, 36, 37, 38, 39, 40, 41, 42, 43, 44, 45, 46, 47, 48, 49, 50, 51, 52, 53, 54, 55, 56, 57, 58, 59, 60, 61, 62, 63, 64, 65, 66, 67, 68, 69, 70, 71, 72, 73, 74] (.cond (.t 33) .skip (.exit 0)))) (.kill [33] (.blk 1 (.seq (.draw [(⟨(some 34), (.mv (.t 7)), none⟩, ([], [35, 36])), (⟨(some 35), (.mv (.t 4)), none⟩, ([0], [34])), (⟨(some 36), (.len (.t 35)), none⟩, ([0], [34])), (⟨(some 37), (.bin .eql (.t 34) (.t 36)), none⟩, ([], [])), (⟨(some 38), (.mv (.t 37)), none⟩, ([], [])), (⟨(some 39), (.mv (.t 6)), (some (38, false))⟩, ([], [40, 41])), (⟨(some 40), (.mv (.t 3)), (some (38, false))⟩, ([5], [39])), (⟨(some 41), (.len (.t 40)), (some (38, false))⟩, ([5], [39])), (⟨(some 42), (.bin .lss (.t 39) (.t 41)), (some (38, false))⟩, ([], [])), (⟨(some 43), (.mv (.t 42)), (some (38, false))⟩, ([], [])), (⟨(some 44), (.mv (.t 3)), (some (43, true))⟩, ([], [45, 49, 50, 51, 52, 53])), (⟨(some 45), (.mv (.t 6)), (some (43, true))⟩, ([10], [44, 49, 50, 51, 52, 53])), (⟨(some 46), (.ia 2 (.t 44) (.t 45)), (some (43, true))⟩, ([], [49, 50, 51, 52, 53])), (⟨(some 47), (.fa 0 (.t 46)), (some (43, true))⟩, ([], [49, 50, 51, 52, 53])), (⟨(some 48), (.ld false 1 (.t 47)), (some (43, true))⟩, ([], [49, 50, 51, 52, 53])), (⟨(some 49), (.mv (.t 4)), (some (43, true))⟩, ([10, 11, 12, 13, 14], [44, 45, 46, 47, 48, 50])), (⟨(some 50), (.mv (.t 7)), (some (43, true))⟩, ([10, 11, 12, 13, 14, 15], [44, 45, 46, 47, 48, 49])), (⟨(some 51), (.ia 2 (.t 49) (.t 50)), (some (43, true))⟩, ([10, 11, 12, 13, 14], [44, 45, 46, 47, 48])), (⟨(some 52), (.fa 0 (.t 51)), (some (43, true))⟩, ([10, 11, 12, 13, 14], [44, 45, 46, 47, 48])), (⟨(some 53), (.ld false 1 (.t 52)), (some (43, true))⟩, ([10, 11, 12, 13, 14], [44, 45, 46, 47, 48])), (⟨(some 54), (.bin .leq (.t 48) (.t 53)), (some (43, true))⟩, ([], [])), (⟨(some 55), (.pick (.t 43) (.t 54) (.k (.c (.v (.bool false))))), (some (38, false))⟩, ([], [])), (⟨(some 56), (.pick (.t 38) (.k (.c (.v (.bool true)))) (.t 55)), none⟩, ([], []))]) (.kill [34, 35, 36, 37, 38, 39, 40, 41, 42, 43, 44, 45, 46, 47, 48, 49, 50, 51, 52, 53, 54, 55] (.cond (.t 56) (.seq (.ops [⟨(some 57), (.mv (.t 5)), none⟩, ⟨(some 58), (.mv (.t 3)), none⟩, ⟨(some 59), (.mv (.t 6)), none⟩, ⟨(some 60), (.ia 2 (.t 58) (.t 59)), none⟩, ⟨(some 61), (.ld true 2 (.t 60)), none⟩, ⟨(some 62), (.mkSl 89 1 2 [(.v (.int .i64 0)), (.v (.int .i64 0))] [(0, (2, (.t 61)))]), none⟩, ⟨(some 63), (.app 89 2 16 [(.v (.int .i64 0)), (.v (.int .i64 0))] (.t 57) (.t 62)), none⟩, ⟨(some 5), (.mv (.t 63)), none⟩]) (.kill [56, 57, 58, 59, 60, 61, 62, 63] (.ops [⟨(some 64), (.mv (.t 6)), none⟩, ⟨(some 65), (.bin .add (.t 64) (.k (.c (.v (.int .i64 1))))), none⟩, ⟨(some 6), (.mv (.t 65)), none⟩]))) (.seq (.ops [⟨(some 66), (.mv (.t 5)), none⟩, ⟨(some 67), (.mv (.t 4)), none⟩, ⟨(some 68), (.mv (.t 7)), none⟩, ⟨(some 69), (.ia 2 (.t 67) (.t 68)), none⟩, ⟨(some 70), (.ld true 2 (.t 69)), none⟩, ⟨(some 71), (.mkSl 89 1 2 [(.v (.int .i64 0)), (.v (.int .i64 0))] [(0, (2, (.t 70)))]), none⟩, ⟨(some 72), (.app 89 2 16 [(.v (.int .i64 0)), (.v (.int .i64 0))] (.t 66) (.t 71)), none⟩, ⟨(some 5), (.mv (.t 72)), none⟩]) (.kill [56, 66, 67, 68, 69, 70, 71, 72] (.ops [⟨(some 73), (.mv (.t 7)), none⟩, ⟨(some 74), (.bin .add (.t 73) (.k (.c (.v (.int .i64 1))))), none⟩, ⟨(some 7), (.mv (.t 74)), none⟩]))))))))))) (.kill [3, 4, 6, 7, 24, 25, 26, 27, 28, 29, 30, 31, 32, 33, 34, 35, 36, 37, 38, 39, 40, 41, 42, 43, 44, 45, 46, 47, 48, 49, 50, 51, 52, 53, 54, 55, 56, 57, 58, 59, 60, 61, 62, 63, 64, 65, 66, 67, 68, 69, 70, 71, 72, 73, 74] (.seq (.ops [⟨(some 75), (.mv (.t 5)), none⟩, ⟨(some 2), (.mv (.t 75)), none⟩]) (.kill [5, 75] .ret)))))))))))))))
def rs57 : List RS := [(.t 2)]
def nt57 : Nat := 76

abbrev Mk := Int × Int
def mkE (m : Mk) : List Value := [iv m.1, iv m.2]
theorem mkE_ok : EncT mkE 2 := ⟨fun _ => rfl, fun x u hu => by simp [mkE, iv] at hu; rcases hu with rfl | rfl <;> rfl⟩
def mk0 : Mk := (0, 0)
def leM (a b : Mk) : Bool := decide (a.1 ≤ b.1)
/-- by halves, so deep -/
def srt : Nat → List Mk → List Mk
  | 0, l => l
  | n + 1, l => if l.length < 2 then l else List.merge (srt n (l.take (l.length / 2))) (srt n (l.drop (l.length / 2))) leM

theorem srt_perm : ∀ (n : Nat) (l : List Mk), (srt n l).Perm l
  | 0, l => .refl _
  | n + 1, l => by
    simp only [srt]
    split
    · exact .refl _
    · refine (List.merge_perm_append _).trans ?_
      refine ((srt_perm n _).append (srt_perm n _)).trans ?_
      rw [List.take_append_drop]
theorem srt_len (n : Nat) (l : List Mk) : (srt n l).length = l.length := (srt_perm n l).length_eq
theorem srt_sorted : ∀ (n : Nat) (l : List Mk), l.length ≤ n → (srt n l).Pairwise fun a b => leM a b = true
  | 0, l, h => by
    have : l = [] := List.eq_nil_of_length_eq_zero (by omega)
    subst this
    exact .nil
  | n + 1, l, h => by
    simp only [srt]
    split
    · next h2 =>
      match l, h2 with
      | [], _ => exact .nil
      | [x], _ => simp
    · next h2 =>
      refine List.pairwise_merge (fun a b c h1 h2 => ?_) (fun a b => ?_) _ _ (srt_sorted n _ (by simp; omega)) (srt_sorted n _ (by simp; omega))
      · simp only [leM, decide_eq_true_eq] at *; omega
      · simp only [leM, Bool.or_eq_true, decide_eq_true_eq]; omega

theorem quo2 {n : Nat} (h : n ≤ 9223372036854775807) : IntKind.i64.wrap ((n : Int).tdiv 2) = ((n / 2 : Nat) : Int) := by
  rw [IntWalk.i64_quo (n : Int) 2 ⟨by omega, by omega, by omega⟩]
  omega
theorem lt0 {n : Nat} : ∀ i ∈ [0], i < n + 1 := fun i hi => by simp only [List.mem_singleton] at hi; omega
theorem le_trans {C : Ctx} {S S' S'' : St} (h : Le C S S') (h' : Le C S' S'') : Le C S S'' := fun E a w hs => by
  obtain ⟨E', hs'⟩ := h E a w hs
  exact h' E' a w hs'
theorem merge_l {A B : List Mk} {i k : Nat} (hi : i < A.length) (hk : k < B.length → leM (A.getD i mk0) (B.getD k mk0) = true) : List.merge (A.drop i) (B.drop k) leM = A.getD i mk0 :: List.merge (A.drop (i + 1)) (B.drop k) leM := by
  rw [List.drop_eq_getElem_cons hi]
  have ha : A.getD i mk0 = A[i] := by simp [List.getD_eq_getElem?_getD, List.getElem?_eq_getElem hi]
  rw [ha] at hk ⊢
  rcases Nat.lt_or_ge k B.length with h | h
  · rw [List.drop_eq_getElem_cons h]
    have hb : B.getD k mk0 = B[k] := by simp [List.getD_eq_getElem?_getD, List.getElem?_eq_getElem h]
    have := hk h
    rw [hb] at this
    rw [List.cons_merge_cons, if_pos this]
  · rw [List.drop_eq_nil_of_le h, List.merge_right, List.merge_right]
theorem merge_r {A B : List Mk} {i k : Nat} (hk : k < B.length) (hi : i < A.length → leM (A.getD i mk0) (B.getD k mk0) = false) : List.merge (A.drop i) (B.drop k) leM = B.getD k mk0 :: List.merge (A.drop i) (B.drop (k + 1)) leM := by
  rw [List.drop_eq_getElem_cons hk]
  have hb : B.getD k mk0 = B[k] := by simp [List.getD_eq_getElem?_getD, List.getElem?_eq_getElem hk]
  rw [hb] at hi ⊢
  rcases Nat.lt_or_ge i A.length with h | h
  · rw [List.drop_eq_getElem_cons h]
    have ha : A.getD i mk0 = A[i] := by simp [List.getD_eq_getElem?_getD, List.getElem?_eq_getElem h]
    have := hi h
    rw [ha] at this
    rw [List.cons_merge_cons, if_neg (by rw [this]; simp)]
  · rw [List.drop_eq_nil_of_le h, List.nil_merge, List.nil_merge]
theorem ats_snoc {α : Type} {enc : α → List Value} {xs : List α} {d x : α} {f g : Nat → List SC} (hf : ∀ e, e < xs.length → f e = ats enc xs d e) (hg : g 0 = (enc x).map .v) {e : Nat} (he : e < xs.length + 1) : appAt xs.length f g e = ats enc (xs ++ [x]) d e := by
  unfold appAt
  by_cases h : e < xs.length
  · rw [if_pos h, hf e h]
    simp [ats, List.getD_eq_getElem?_getD, List.getElem?_append_left h]
  · have : e = xs.length := by omega
    subst this
    rw [if_neg h, Nat.sub_self, hg]
    simp [ats]
theorem ats_snoc' {α : Type} {enc : α → List Value} {xs : List α} {d x : α} {n : Nat} {f g : Nat → List SC} (hn : n = xs.length) (hf : ∀ e, e < xs.length → f e = ats enc xs d e) (hg : g 0 = (enc x).map .v) : ∀ e, e < (xs ++ [x]).length → appAt n f g e = ats enc (xs ++ [x]) d e := fun e he => by
  subst hn
  exact ats_snoc hf hg (by simpa using he)
/-- halves, merged so far -/
structure Mrg (A B : List Mk) where
  i : Nat
  k : Nat
  out : List Mk
  hi : i ≤ A.length
  hk : k ≤ B.length
  len : out.length = i + k
  eq : out ++ List.merge (A.drop i) (B.drop k) leM = List.merge A B leM

set_option maxRecDepth 100000 in
set_option maxHeartbeats 400000 in
theorem sorted_calls : ∀ (n : Nat) (w : World) (v : Value) (xs : List Mk), xs.length ≤ n + 1 → xs.length * 16 ≤ 140737488355328 → Arr w mkE 2 v xs → Calls Try.prog 57 #[v] w (RetA w (fun w'' => Arr w'' mkE 2 v xs) mkE 2 (srt (n + 1) xs)) := by
  intro n
  induction n using Nat.strongRecOn with
  | ind n ih0 =>
  intro w v xs hl hsz h
  refine calls_sym (c := ir57) (C := mkC Try.prog [] w rs57 (RetA w (fun w'' => Arr w'' mkE 2 v xs) mkE 2 (srt (n + 1) xs))) 1000 [.c (.xv (0, 0, 0))] 
    (E1 v) [] [(0, .one (arrOf mkE 2 xs mk0))] [fun E _ => E.χ (0, 0, 0) = v] 1 nt57 _ (mkTab_ok _ _) Try.func57 rfl (by kernel_rfl) (by kernel_rfl) rfl rfl rfl (E1_one (arr_one h))
    (fun E' hE' => ?_) (of_decide_eq_true rfl) (fun E' hE' => inOk_arrsF (fun w' hw' x A hA => ?_) (fun w' φ hφ => ?_)) ?_
  · have e0 := (hE' (0, 0, 0) (by decide)).2.2.2
    simp [SV.den, SC.den, e0, E1]
  · have e0 := (hE' (0, 0, 0) (by decide)).2.2.2
    rcases atN_one hA with ⟨rfl, rfl⟩ | hA
    · exact arr1 mkE_ok e0 h hw'
    exact (atN_nil hA).elim
  · simp only [List.mem_singleton] at hφ
    subst hφ
    exact (hE' (0, 0, 0) (by decide)).2.2.2
  have hlen := Z.Arr.lenM h
  simp only [maxLen] at hlen
  simp only [ir57, nt57, rs57, ex_nil, ex_skip, ex_ops, ex_draw, ex_seq, ex_cond, ex_blk, ex_loop, ex_exit, ex_ret, ex_mark, ex_kill, ex_pop, ex_onil, ex_op, ex_opg, ↓condS, ↓exitS, ↓gateS, ↓runOp, thenS, stepOut, St.ev, look, setL, mergeL, dropL, memB, atN, pkN, setN, Fm.get, Fm.pk, Fm.set, St.app, St.putT, St.skipT, St.setB, St.kill, St.call, St.setA, St.resS, specS, specO, specC, chain, chainP, inCh, resV, rsvP, resT, slot1, slotL, pureSlots, St.evW, resA1, resAP, resA, gB, specD, specDO, recG, pure1, pureO, SV.cells, SC.one, allOne, fillP, put, take', drop', len', nth, binI, eqCells, SC.bool?, SC.nil?, neg?, evs, evC, popTo, resL, resP, resSV, oneSV, finS, retS, dr_nil, dr_cons, ↓gateD, ↓runD, thenD, recOf, skipR, wrOk, wrFree, wkImp, St.weak, thenW, recW, fimp_mpe, newOk, outOk, St.appN, St.hid, St.only, keepK, useO, idX, idC, tchs, keyss, Rec.tch, keysL, ltAll, enumT, slSrc, slB, slM, SV.int?, segs, keyOf, intsOf, Value.oneCell', ↓imp_ft, ↓imp_tf, ↓imp_tt, ↓imp_ff, ↓imp_fn, ↓imp_tn, ↓imp_fy, ↓imp_ty, ↓reduceIte, Nat.reduceLT, Nat.reduceLeDiff, Nat.reduceAdd, Nat.reduceSub, Nat.reduceMul, Nat.reduceEqDiff, reduceCtorEq, and_self, and_true, true_and, and_false, false_and, not_true_eq_false, not_false_eq_true, List.map_cons, List.map_nil, List.cons_append, List.nil_append, List.append_nil, Option.bind_some, Option.bind_none, Int.reduceToNat, Int.reduceEq, Int.reduceBEq, Int.reduceBNe, Int.reduceLT, Int.reduceLE, Int.reduceNeg, Bool.true_and, Bool.and_true, Bool.false_and, Bool.and_false, Bool.not_true, Bool.not_false, Bool.not_not, Bool.true_beq, Bool.false_beq, Bool.bne_true, Bool.bne_false, Bool.true_bne, Bool.false_bne, Option.map_some, Option.map_none, beq_self_eq_true, bne_self_eq_false, Bool.false_eq_true, Bool.true_eq_false, Nat.zero_add, Nat.add_zero, forall_const, implies_true, true_implies, false_implies, Int.cast_ofNat_Int, Int.natCast_nonneg, Int.ofNat_lt, Int.toNat_natCast, mkC_rs, decide_true, decide_false, List.length_cons, List.length_nil, Prod.mk.injEq, Nat.reduceEqDiff, Option.some.injEq, arrOf_len, arrOf_size, arrOf_at, wr_lit, wr_litu, Int.reduceAdd, Int.reduceSub, Int.reduceMul, Int.reduceGE, Int.reduceGT, endO, Nat.sub_zero, Cl.enc, iv, ex_back]
  refine both (fun hlt => ?_) (fun hge => ?_)
  · rw [decide_eq_true_eq] at hlt
    have h2 : srt (n + 1) xs = xs := by simp only [srt]; rw [if_pos (by omega)]
    rw [h2]
    exact retA_arg (v0 := v) (List.mem_singleton.2 rfl) fun w'' h => h
  · rw [decide_eq_false_iff_not] at hge
    rw [quo2 (by omega)]
    simp only [Int.toNat_natCast, Nat.sub_zero]
    refine ⟨by decide, ⟨by omega, by omega, Or.inr trivial⟩, ?_⟩
    generalize hh : xs.length / 2 = hf
    have ih := ih0 (n - 1) (by omega)
    rw [show n - 1 + 1 = n by omega] at ih
    have hhf : hf < xs.length ∧ 0 < hf ∧ 2 * hf ≤ xs.length ∧ xs.length ≤ 2 * hf + 1 := by omega
    have lA : (xs.take hf).length = hf := by simp; omega
    have lB : (xs.drop hf).length = xs.length - hf := by simp
    refine callA (enc := mkE) (s := 2) (xs := xs.take hf) (ys := srt n (xs.take hf)) (d := mk0) mkE_ok (.xs (0, 0, 0) 2 0 hf none) [0] lt0 (fun E E2 hE => ?_) (fun E w'' hh => ?_) (fun w v hv => ih w v _ (by omega) (by omega) hv) ?_
    · simp only [SC.den, (hE (0, 0, 0) (by simp)).2.2.2]
    · have := arr_xs (o := 0) (n := hf) (hh.1 (0, 0, 0) _ rfl) (by omega)
      simpa using this
    simp only [ex_nil, ex_skip, ex_ops, ex_draw, ex_seq, ex_cond, ex_blk, ex_loop, ex_exit, ex_ret, ex_mark, ex_kill, ex_pop, ex_onil, ex_op, ex_opg, ↓condS, ↓exitS, ↓gateS, ↓runOp, thenS, stepOut, St.ev, look, setL, mergeL, dropL, memB, atN, pkN, setN, Fm.get, Fm.pk, Fm.set, St.app, St.putT, St.skipT, St.setB, St.kill, St.call, St.setA, St.resS, specS, specO, specC, chain, chainP, inCh, resV, rsvP, resT, slot1, slotL, pureSlots, St.evW, resA1, resAP, resA, gB, specD, specDO, recG, pure1, pureO, SV.cells, SC.one, allOne, fillP, put, take', drop', len', nth, binI, eqCells, SC.bool?, SC.nil?, neg?, evs, evC, popTo, resL, resP, resSV, oneSV, finS, retS, dr_nil, dr_cons, ↓gateD, ↓runD, thenD, recOf, skipR, wrOk, wrFree, wkImp, St.weak, thenW, recW, fimp_mpe, newOk, outOk, St.appN, St.hid, St.only, keepK, useO, idX, idC, tchs, keyss, Rec.tch, keysL, ltAll, enumT, slSrc, slB, slM, SV.int?, segs, keyOf, intsOf, Value.oneCell', ↓imp_ft, ↓imp_tf, ↓imp_tt, ↓imp_ff, ↓imp_fn, ↓imp_tn, ↓imp_fy, ↓imp_ty, ↓reduceIte, Nat.reduceLT, Nat.reduceLeDiff, Nat.reduceAdd, Nat.reduceSub, Nat.reduceMul, Nat.reduceEqDiff, reduceCtorEq, and_self, and_true, true_and, and_false, false_and, not_true_eq_false, not_false_eq_true, List.map_cons, List.map_nil, List.cons_append, List.nil_append, List.append_nil, Option.bind_some, Option.bind_none, Int.reduceToNat, Int.reduceEq, Int.reduceBEq, Int.reduceBNe, Int.reduceLT, Int.reduceLE, Int.reduceNeg, Bool.true_and, Bool.and_true, Bool.false_and, Bool.and_false, Bool.not_true, Bool.not_false, Bool.not_not, Bool.true_beq, Bool.false_beq, Bool.bne_true, Bool.bne_false, Bool.true_bne, Bool.false_bne, Option.map_some, Option.map_none, beq_self_eq_true, bne_self_eq_false, Bool.false_eq_true, Bool.true_eq_false, Nat.zero_add, Nat.add_zero, forall_const, implies_true, true_implies, false_implies, Int.cast_ofNat_Int, Int.natCast_nonneg, Int.ofNat_lt, Int.toNat_natCast, mkC_rs, decide_true, decide_false, List.length_cons, List.length_nil, Prod.mk.injEq, Nat.reduceEqDiff, Option.some.injEq, arrOf_len, arrOf_size, arrOf_at, wr_lit, wr_litu, Int.reduceAdd, Int.reduceSub, Int.reduceMul, Int.reduceGE, Int.reduceGT, endO, Nat.sub_zero, Cl.enc, iv, ex_back]
    rw [quo2 (by omega), hh]
    simp only [Int.toNat_natCast, Nat.sub_zero]
    refine ⟨by decide, ⟨by omega, by omega, by omega, Or.inl (by omega)⟩, ?_⟩
    refine callA (enc := mkE) (s := 2) (xs := xs.drop hf) (ys := srt n (xs.drop hf)) (d := mk0) mkE_ok (.xs (0, 0, 0) 2 hf (xs.length - hf) none) [0] lt0 (fun E E2 hE => ?_) (fun E w'' hh => ?_) (fun w v hv => ih w v _ (by omega) (by omega) hv) ?_
    · simp only [SC.den, (hE (0, 0, 0) (by simp)).2.2.2]
    · have := arr_xs (o := hf) (n := xs.length - hf) (hh.1 (0, 0, 0) _ rfl) (by omega)
      rwa [List.take_of_length_le (by simp)] at this
    simp only [ex_nil, ex_skip, ex_ops, ex_draw, ex_seq, ex_cond, ex_blk, ex_loop, ex_exit, ex_ret, ex_mark, ex_kill, ex_pop, ex_onil, ex_op, ex_opg, ↓condS, ↓exitS, ↓gateS, ↓runOp, thenS, stepOut, St.ev, look, setL, mergeL, dropL, memB, atN, pkN, setN, Fm.get, Fm.pk, Fm.set, St.app, St.putT, St.skipT, St.setB, St.kill, St.call, St.setA, St.resS, specS, specO, specC, chain, chainP, inCh, resV, rsvP, resT, slot1, slotL, pureSlots, St.evW, resA1, resAP, resA, gB, specD, specDO, recG, pure1, pureO, SV.cells, SC.one, allOne, fillP, put, take', drop', len', nth, binI, eqCells, SC.bool?, SC.nil?, neg?, evs, evC, popTo, resL, resP, resSV, oneSV, finS, retS, dr_nil, dr_cons, ↓gateD, ↓runD, thenD, recOf, skipR, wrOk, wrFree, wkImp, St.weak, thenW, recW, fimp_mpe, newOk, outOk, St.appN, St.hid, St.only, keepK, useO, idX, idC, tchs, keyss, Rec.tch, keysL, ltAll, enumT, slSrc, slB, slM, SV.int?, segs, keyOf, intsOf, Value.oneCell', ↓imp_ft, ↓imp_tf, ↓imp_tt, ↓imp_ff, ↓imp_fn, ↓imp_tn, ↓imp_fy, ↓imp_ty, ↓reduceIte, Nat.reduceLT, Nat.reduceLeDiff, Nat.reduceAdd, Nat.reduceSub, Nat.reduceMul, Nat.reduceEqDiff, reduceCtorEq, and_self, and_true, true_and, and_false, false_and, not_true_eq_false, not_false_eq_true, List.map_cons, List.map_nil, List.cons_append, List.nil_append, List.append_nil, Option.bind_some, Option.bind_none, Int.reduceToNat, Int.reduceEq, Int.reduceBEq, Int.reduceBNe, Int.reduceLT, Int.reduceLE, Int.reduceNeg, Bool.true_and, Bool.and_true, Bool.false_and, Bool.and_false, Bool.not_true, Bool.not_false, Bool.not_not, Bool.true_beq, Bool.false_beq, Bool.bne_true, Bool.bne_false, Bool.true_bne, Bool.false_bne, Option.map_some, Option.map_none, beq_self_eq_true, bne_self_eq_false, Bool.false_eq_true, Bool.true_eq_false, Nat.zero_add, Nat.add_zero, forall_const, implies_true, true_implies, false_implies, Int.cast_ofNat_Int, Int.natCast_nonneg, Int.ofNat_lt, Int.toNat_natCast, mkC_rs, decide_true, decide_false, List.length_cons, List.length_nil, Prod.mk.injEq, Nat.reduceEqDiff, Option.some.injEq, arrOf_len, arrOf_size, arrOf_at, wr_lit, wr_litu, Int.reduceAdd, Int.reduceSub, Int.reduceMul, Int.reduceGE, Int.reduceGT, endO, Nat.sub_zero, Cl.enc, iv, ex_back]
    have hres : srt (n + 1) xs = List.merge (srt n (xs.take hf)) (srt n (xs.drop hf)) leM := by
      simp only [srt]
      rw [if_neg (by omega), hh]
    have lA2 : (srt n (xs.take hf)).length = hf := by rw [srt_len, lA]
    have lB2 : (srt n (xs.drop hf)).length = xs.length - hf := by rw [srt_len, lB]
    rw [hres]
    generalize srt n (xs.take hf) = A at lA2
    generalize srt n (xs.drop hf) = B at lB2
    refine loopI (ι := Mrg A B) (fun m => ⟨76, [(3, .c (.xv (1, 0, 0))), (4, .c (.xv (2, 0, 0))), (5, .c (.sl (3, 0, 0) 2 0 m.out.length none)), (6, .c (.v (.int .i64 (m.i : Nat)))), (7, .c (.v (.int .i64 (m.k : Nat))))], [(3, .one (.ar m.out.length 2 (ats mkE m.out mk0) 89))], [(1, .one (arrOf mkE 2 A mk0)), (2, .one (arrOf mkE 2 B mk0))], [], 4⟩)
      (fun m => A.length + B.length - m.i - m.k) ⟨0, 0, [], by omega, by omega, rfl, rfl⟩ ?_ ?_
    · refine le_trans (le_nilown (tmps' := [(3, .c (.xv (1, 0, 0))), (4, .c (.xv (2, 0, 0))), (5, .c (.sl (3, 0, 0) 2 0 0 none)), (6, .c (.v (.int .i64 0))), (7, .c (.v (.int .i64 0)))]) 2 89 (ats mkE [] mk0) (by simp [TmpsNil, look]) rfl) (le_ren id rfl rfl (by simp [TmpsLe, look, SV.ren, SC.ren, idσ, SV.okN, SC.okN]) ⟨⟨show (3 : Nat) < 4 from by decide, arLe_of (Nat.le_refl _) fun e he => rfl⟩, trivial⟩ ⟨⟨show (1 : Nat) < 4 from by decide, arrLe_of⟩, ⟨show (2 : Nat) < 4 from by decide, arrLe_of⟩, trivial⟩ rfl)
    rintro ⟨i, k, out, hi, hk, hol, heq⟩
    simp only [ex_nil, ex_skip, ex_ops, ex_draw, ex_seq, ex_cond, ex_blk, ex_loop, ex_exit, ex_ret, ex_mark, ex_kill, ex_pop, ex_onil, ex_op, ex_opg, ↓condS, ↓exitS, ↓gateS, ↓runOp, thenS, stepOut, St.ev, look, setL, mergeL, dropL, memB, atN, pkN, setN, Fm.get, Fm.pk, Fm.set, St.app, St.putT, St.skipT, St.setB, St.kill, St.call, St.setA, St.resS, specS, specO, specC, chain, chainP, inCh, resV, rsvP, resT, slot1, slotL, pureSlots, St.evW, resA1, resAP, resA, gB, specD, specDO, recG, pure1, pureO, SV.cells, SC.one, allOne, fillP, put, take', drop', len', nth, binI, eqCells, SC.bool?, SC.nil?, neg?, evs, evC, popTo, resL, resP, resSV, oneSV, finS, retS, dr_nil, dr_cons, ↓gateD, ↓runD, thenD, recOf, skipR, wrOk, wrFree, wkImp, St.weak, thenW, recW, fimp_mpe, newOk, outOk, St.appN, St.hid, St.only, keepK, useO, idX, idC, tchs, keyss, Rec.tch, keysL, ltAll, enumT, slSrc, slB, slM, SV.int?, segs, keyOf, intsOf, Value.oneCell', ↓imp_ft, ↓imp_tf, ↓imp_tt, ↓imp_ff, ↓imp_fn, ↓imp_tn, ↓imp_fy, ↓imp_ty, ↓reduceIte, Nat.reduceLT, Nat.reduceLeDiff, Nat.reduceAdd, Nat.reduceSub, Nat.reduceMul, Nat.reduceEqDiff, reduceCtorEq, and_self, and_true, true_and, and_false, false_and, not_true_eq_false, not_false_eq_true, List.map_cons, List.map_nil, List.cons_append, List.nil_append, List.append_nil, Option.bind_some, Option.bind_none, Int.reduceToNat, Int.reduceEq, Int.reduceBEq, Int.reduceBNe, Int.reduceLT, Int.reduceLE, Int.reduceNeg, Bool.true_and, Bool.and_true, Bool.false_and, Bool.and_false, Bool.not_true, Bool.not_false, Bool.not_not, Bool.true_beq, Bool.false_beq, Bool.bne_true, Bool.bne_false, Bool.true_bne, Bool.false_bne, Option.map_some, Option.map_none, beq_self_eq_true, bne_self_eq_false, Bool.false_eq_true, Bool.true_eq_false, Nat.zero_add, Nat.add_zero, forall_const, implies_true, true_implies, false_implies, Int.cast_ofNat_Int, Int.natCast_nonneg, Int.ofNat_lt, Int.toNat_natCast, mkC_rs, decide_true, decide_false, List.length_cons, List.length_nil, Prod.mk.injEq, Nat.reduceEqDiff, Option.some.injEq, arrOf_len, arrOf_size, arrOf_at, wr_lit, wr_litu, Int.reduceAdd, Int.reduceSub, Int.reduceMul, Int.reduceGE, Int.reduceGT, endO, Nat.sub_zero, Cl.enc, iv, ex_back, mkE]
    have hab : A.length + B.length = xs.length := by omega
    refine both (fun hlp => ?_) (fun hend => ?_)
    · refine draw_vc (by kernel_rfl) (mkTab_ok _ _) (of_decide_eq_true rfl) (of_decide_eq_true rfl) ?_
      simp only [ex_nil, ex_skip, ex_ops, ex_draw, ex_seq, ex_cond, ex_blk, ex_loop, ex_exit, ex_ret, ex_mark, ex_kill, ex_pop, ex_onil, ex_op, ex_opg, ↓condS, ↓exitS, ↓gateS, ↓runOp, thenS, stepOut, St.ev, look, setL, mergeL, dropL, memB, atN, pkN, setN, Fm.get, Fm.pk, Fm.set, St.app, St.putT, St.skipT, St.setB, St.kill, St.call, St.setA, St.resS, specS, specO, specC, chain, chainP, inCh, resV, rsvP, resT, slot1, slotL, pureSlots, St.evW, resA1, resAP, resA, gB, specD, specDO, recG, pure1, pureO, SV.cells, SC.one, allOne, fillP, put, take', drop', len', nth, binI, eqCells, SC.bool?, SC.nil?, neg?, evs, evC, popTo, resL, resP, resSV, oneSV, finS, retS, dr_nil, dr_cons, ↓gateD, ↓runD, thenD, recOf, skipR, wrOk, wrFree, wkImp, St.weak, thenW, recW, fimp_mpe, newOk, outOk, St.appN, St.hid, St.only, keepK, useO, idX, idC, tchs, keyss, Rec.tch, keysL, ltAll, enumT, slSrc, slB, slM, SV.int?, segs, keyOf, intsOf, Value.oneCell', ↓imp_ft, ↓imp_tf, ↓imp_tt, ↓imp_ff, ↓imp_fn, ↓imp_tn, ↓imp_fy, ↓imp_ty, ↓reduceIte, Nat.reduceLT, Nat.reduceLeDiff, Nat.reduceAdd, Nat.reduceSub, Nat.reduceMul, Nat.reduceEqDiff, reduceCtorEq, and_self, and_true, true_and, and_false, false_and, not_true_eq_false, not_false_eq_true, List.map_cons, List.map_nil, List.cons_append, List.nil_append, List.append_nil, Option.bind_some, Option.bind_none, Int.reduceToNat, Int.reduceEq, Int.reduceBEq, Int.reduceBNe, Int.reduceLT, Int.reduceLE, Int.reduceNeg, Bool.true_and, Bool.and_true, Bool.false_and, Bool.and_false, Bool.not_true, Bool.not_false, Bool.not_not, Bool.true_beq, Bool.false_beq, Bool.bne_true, Bool.bne_false, Bool.true_bne, Bool.false_bne, Option.map_some, Option.map_none, beq_self_eq_true, bne_self_eq_false, Bool.false_eq_true, Bool.true_eq_false, Nat.zero_add, Nat.add_zero, forall_const, implies_true, true_implies, false_implies, Int.cast_ofNat_Int, Int.natCast_nonneg, Int.ofNat_lt, Int.toNat_natCast, mkC_rs, decide_true, decide_false, List.length_cons, List.length_nil, Prod.mk.injEq, Nat.reduceEqDiff, Option.some.injEq, arrOf_len, arrOf_size, arrOf_at, wr_lit, wr_litu, Int.reduceAdd, Int.reduceSub, Int.reduceMul, Int.reduceGE, Int.reduceGT, endO, Nat.sub_zero, Cl.enc, iv, ex_back, mkE]
      simp only [b_decR, b_decL, bt_ite, bf_ite, bt_dec, bf_dec, bt_int, bf_int, bt_nint, bf_nint, bt_bool, bf_bool, bt_nbool, bf_nbool, bt_not, bf_not, bt_and, bf_and, bt_or, bf_or, Bool.false_eq_true, Bool.true_eq_false, Bool.not_eq_true, Bool.not_eq_false, reduceCtorEq, false_iff, true_iff, iff_false, iff_true, and_true, true_and, and_false, false_and, or_true, true_or, or_false, false_or, not_true_eq_false, not_false_eq_true, ne_eq] at hlp
      have hin : (!(k : Int) == (B.length : Int) && decide (i < A.length)) = true → i < A.length ∧ k < B.length := fun h => by
        simp only [b_decR, b_decL, bt_ite, bf_ite, bt_dec, bf_dec, bt_int, bf_int, bt_nint, bf_nint, bt_bool, bf_bool, bt_nbool, bf_nbool, bt_not, bf_not, bt_and, bf_and, bt_or, bf_or, Bool.false_eq_true, Bool.true_eq_false, Bool.not_eq_true, Bool.not_eq_false, reduceCtorEq, false_iff, true_iff, iff_false, iff_true, and_true, true_and, and_false, false_and, or_true, true_or, or_false, false_or, not_true_eq_false, not_false_eq_true, ne_eq] at h
        omega
      refine ⟨fun h => (hin h).1, fun h => (hin h).1, fun h => (hin h).1, fun h => (hin h).2, fun h => (hin h).2, fun h => (hin h).2, fun hc => ?_, fun hc => ?_⟩
      · simp only [b_decR, b_decL, bt_ite, bf_ite, bt_dec, bf_dec, bt_int, bf_int, bt_nint, bf_nint, bt_bool, bf_bool, bt_nbool, bf_nbool, bt_not, bf_not, bt_and, bf_and, bt_or, bf_or, Bool.false_eq_true, Bool.true_eq_false, Bool.not_eq_true, Bool.not_eq_false, reduceCtorEq, false_iff, true_iff, iff_false, iff_true, and_true, true_and, and_false, false_and, or_true, true_or, or_false, false_or, not_true_eq_false, not_false_eq_true, ne_eq] at hc
        have hiA : i < A.length := by omega
        refine ⟨hiA, hiA, by decide, ⟨Nat.le_refl _, by omega, by simp only [maxLen]; omega⟩, ?_⟩
        rw [wr_succ (by omega)]
        refine backI ⟨i + 1, k, out ++ [A.getD i mk0], by omega, by omega, by simp; omega, by rw [← heq, merge_l hiA (fun h => by simp only [leM, decide_eq_true_eq]; omega), List.append_assoc]; rfl⟩ (by simp only; omega)
          (le_ren (fun i => if i = 3 then 5 else i) rfl rfl (by simp [TmpsLe, look, SV.ren, SC.ren, idσ, SV.okN, SC.okN]) ⟨⟨show (3 : Nat) < 4 from by decide, arLe_of (by simp) fun e he => ats_snoc (fun e he => rfl) rfl (by simpa using he)⟩, trivial⟩ ⟨⟨show (1 : Nat) < 4 from by decide, arrLe_of⟩, ⟨show (2 : Nat) < 4 from by decide, arrLe_of⟩, trivial⟩ rfl)
      · simp only [b_decR, b_decL, bt_ite, bf_ite, bt_dec, bf_dec, bt_int, bf_int, bt_nint, bf_nint, bt_bool, bf_bool, bt_nbool, bf_nbool, bt_not, bf_not, bt_and, bf_and, bt_or, bf_or, Bool.false_eq_true, Bool.true_eq_false, Bool.not_eq_true, Bool.not_eq_false, reduceCtorEq, false_iff, true_iff, iff_false, iff_true, and_true, true_and, and_false, false_and, or_true, true_or, or_false, false_or, not_true_eq_false, not_false_eq_true, ne_eq] at hc
        have hkB : k < B.length := by omega
        refine ⟨hkB, hkB, by decide, ⟨Nat.le_refl _, by omega, by simp only [maxLen]; omega⟩, ?_⟩
        rw [wr_succ (by omega)]
        refine backI ⟨i, k + 1, out ++ [B.getD k mk0], by omega, by omega, by simp; omega, by rw [← heq, merge_r hkB (fun h => by simp only [leM, decide_eq_false_iff_not]; omega), List.append_assoc]; rfl⟩ (by simp only; omega)
          (le_ren (fun i => if i = 3 then 5 else i) rfl rfl (by simp [TmpsLe, look, SV.ren, SC.ren, idσ, SV.okN, SC.okN]) ⟨⟨show (3 : Nat) < 4 from by decide, arLe_of (by simp) fun e he => ats_snoc (fun e he => rfl) rfl (by simpa using he)⟩, trivial⟩ ⟨⟨show (1 : Nat) < 4 from by decide, arrLe_of⟩, ⟨show (2 : Nat) < 4 from by decide, arrLe_of⟩, trivial⟩ rfl)
    · simp only [b_decR, b_decL, bt_ite, bf_ite, bt_dec, bf_dec, bt_int, bf_int, bt_nint, bf_nint, bt_bool, bf_bool, bt_nbool, bf_nbool, bt_not, bf_not, bt_and, bf_and, bt_or, bf_or, Bool.false_eq_true, Bool.true_eq_false, Bool.not_eq_true, Bool.not_eq_false, reduceCtorEq, false_iff, true_iff, iff_false, iff_true, and_true, true_and, and_false, false_and, or_true, true_or, or_false, false_or, not_true_eq_false, not_false_eq_true, ne_eq] at hend
      have e1 : i = A.length := by omega
      have e2 : k = B.length := by omega
      have hout : out = List.merge A B leM := by
        rw [← heq, e1, e2, List.drop_length, List.drop_length, List.merge_right, List.append_nil]
      subst hout
      exact retA_own 3 _ _ _ rfl rfl (Nat.le_refl _) fun e he => rfl
end Go.Proofs.Ytkjeedlkkpgopaa.Z
