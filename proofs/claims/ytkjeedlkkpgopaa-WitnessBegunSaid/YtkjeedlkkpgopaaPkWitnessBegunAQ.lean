/- WitnessBegunSaid: what its proof is made of. No condition. -/
import Derived.Test.YtkjeedlkkpgopaaPkWitnessBegunAP
set_option linter.unusedSimpArgs false
set_option linter.unusedVariables false
namespace Go.Proofs.Ytkjeedlkkpgopaa.Z
open Go Go.RowKit
def cyA (xs : List Cl) : List Cl := cys xs xs.length
def nmA (xs : List Cl) : List Nat := cidx xs xs.length
theorem cyA_len (xs : List Cl) : (cyA xs).length = (nmA xs).length := cys_len xs xs.length
theorem cyA_at (xs : List Cl) {i : Nat} (h : i < (nmA xs).length) : (cyA xs).getD i cl0 = xs.getD ((nmA xs).getD i 0) cl0 := by
 simp only [cyA, cys, nmA] at h ⊢
 rw [List.getD_eq_getElem?_getD, List.getElem?_map, List.getElem?_eq_getElem h, List.getD_eq_getElem?_getD (l := cidx xs xs.length), List.getElem?_eq_getElem h]
 rfl
theorem nmA_mem {xs : List Cl} {j : Nat} (h : j ∈ nmA xs) : j < xs.length ∧ cntB (xs.getD j cl0) = true := by
 have := List.mem_filter.1 h
 exact ⟨List.mem_range.1 this.1, this.2⟩
theorem cyA_op (xs : List Cl) : ∀ i, i < (cyA xs).length → objOf ((cyA xs).getD i cl0).op ≠ 0 := fun i hi => by
 rw [cyA_len] at hi
 rw [cyA_at xs hi]
 have := (nmA_mem (getD_mem (d := 0) hi)).2
 simpa [cntB] using this
theorem nsE_0 {xs : List Cl} (h : nsE xs = 0) : (cyA xs).length ≤ 8 := by
 unfold nsE at h
 split at h
 ·split at h
  ·rw [cyA_len]; assumption
  ·cases h
 ·cases h
def allY (xs : List Cl) : List (List Nat) := (hY (cyA xs)).srch (cY (cyA xs)) ((hY (cyA xs)).mayW (cY (cyA xs))) 9 [] mc0
noncomputable def cntW (xs : List Cl) : Int := if nsE xs = 0 then ((allY xs).length : Nat) else 0
noncomputable def findE (xs : List Cl) : Int := if nsE xs = 0 then (if (allY xs).head?.isSome = true then 0 else 124) else nsE xs
def nmL (xs : List Cl) (x : List Nat) : List Int := oI (x.map fun i => (nmA xs).getD i 0)
noncomputable def findL (xs : List Cl) : List Int := if nsE xs = 0 then (match (allY xs).head? with | some x => nmL xs x | none => []) else []
theorem call_nid {C : Ctx} {f : Nat} {vs : List SV} {dst : Option Nat} {K : St → Prop} {nt : Nat} {tmps : List (Nat × SV)} {own : Own} {arrs : List (Nat × Fm ArrF)} {facts : List (Env → World → Prop)} {nid : Nat} (nid' : Nat) (h : nid ≤ nid') (hk : CallVC C f vs dst ⟨nt, tmps, own, arrs, facts, nid'⟩ K) : CallVC C f vs dst ⟨nt, tmps, own, arrs, facts, nid⟩ K := fun E a w hs =>
 hk E a w ⟨hs.1, fun E' hE' ho' => by
  have q := hs.2 E' (fun x hx => hE' x (Nat.lt_of_lt_of_le hx h)) ho'
  exact ⟨q.size, q.defers, q.one, q.tmps, q.frame, q.mem⟩⟩
theorem sr_own {C : Ctx} {S : St} {E : Env} {a : Act} {w : World} {ys : List Cl} {nms : List Int} {ty n i : Nat} (hs : Sat C.B C.W C.w0 E S a w) (h0 : look S.own i = some (.one (.bk [.sl (i + 1, 0, 0) 9 0 n none, .sl (i + 2, 0, 0) 1 0 n none, .mp (i + 3, 0, 0)] ty))) (t1 t2 : Nat) (h1 : look S.own (i + 1) = some (.one (.ar n 9 (ats Cl.enc ys cl0) t1))) (h2 : look S.own (i + 2) = some (.one (.ar n 1 (ats eI nms 0) t2)))
  (hy : ys.length = n) (hn : nms.length = n) : Sr w ((SC.ptr (i, 0, 0) 0).den E) ys nms (E.ρ (i + 3, 0, 0)) := by
 obtain ⟨H, hH, _⟩ := hs.mem
 have hat : atN S.own (i, 0, 0) = some (.bk [.sl (i + 1, 0, 0) 9 0 n none, .sl (i + 2, 0, 0) 1 0 n none, .mp (i + 3, 0, 0)] ty) := by simp [atN, h0, Fm.get]
 have hc := bk_cell hH hat
 refine ⟨⟨E.ρ (i, 0, 0), 0, (SC.sl (i + 1, 0, 0) 9 0 n none).den E, (SC.sl (i + 2, 0, 0) 1 0 n none).den E, by simp [SC.den], ?_, ?_, ?_, ?_, ?_⟩⟩
 ·rw [hc]; rfl
 ·rw [hc]; rfl
 ·rw [hc]; simp [SC.den]
 ·exact arr_own (d := cl0) hs (i + 1) n n _ h1 hy.symm (by omega) fun e he => rfl
 ·exact arr_own (d := 0) hs (i + 2) n n _ h2 hn.symm (by omega) fun e he => rfl
def ir28 : IR := (.seq (.ops [⟨(some 2), (.mv (.k (.c (.v (.int .i64 0))))), none⟩, ⟨(some 3), (.mv (.k (.c (.v (.int .i64 0))))), none⟩]) (.kill [1, 2, 3, 4, 5, 6, 7, 8, 9, 10, 11] (.seq (.ops [⟨(some 7), (.mv (.t 0)), none⟩, ⟨(some 8), (.call 49 [(.t 7)]), none⟩, ⟨(some 6), (.mv (.t 8)), none⟩, ⟨(some 9), (.ext 0 (.t 6)), none⟩, ⟨(some 10), (.ext 1 (.t 6)), none⟩, ⟨(some 4), (.mv (.t 9)), none⟩, ⟨(some 5), (.mv (.t 10)), none⟩]) (.kill [0, 6, 7, 8, 9, 10] (.seq (.seq (.ops [⟨(some 11), (.mv (.t 5)), none⟩, ⟨(some 12), (.bin .neq (.t 11) (.k (.c (.v (.int .i64 0))))), none⟩]) (.kill [11] (.cond (.t 12) (.seq (.ops [⟨(some 13), (.mv (.t 5)), none⟩, ⟨(some 2), (.mv (.k (.c (.v (.int .i64 0))))), none⟩, ⟨(some 3), (.mv (.t 13)), none⟩]) (.kill [4, 5, 12, 13] .ret)) .skip))) (.kill [2, 3, 5, 12] (.seq (.ops [⟨(some 14), (.mv (.t 4)), none⟩, ⟨(some 15), (.build [(.v (.slice none 0 0)), (.v (.slice none 0 0)), (.v (.slice none 0 0)), (.v (.slice none 0 0)), (.v (.slice none 0 0))] []), none⟩, ⟨(some 16), (.call 53 [(.t 14), (.k (.c (.v (.slice none 0 0)))), (.t 15)]), none⟩, ⟨(some 2), (.mv (.t 16)), none⟩, ⟨(some 3), (.mv (.k (.c (.v (.int .i64 0))))), none⟩]) (.kill [4, 14, 15, 16] .ret))))))))
def rs28 : List RS := [(.t 2), (.t 3)]
def nt28 : Nat := 17
def ir26 : IR := (.seq (.ops [⟨(some 2), (.mv (.k (.c (.v (.slice none 0 0))))), none⟩, ⟨(some 3), (.mv (.k (.c (.v (.int .i64 0))))), none⟩]) (.kill [1, 2, 3, 4, 5, 6, 7, 8, 9, 10, 11] (.seq (.ops [⟨(some 12), (.mv (.t 0)), none⟩, ⟨(some 13), (.call 49 [(.t 12)]), none⟩, ⟨(some 11), (.mv (.t 13)), none⟩, ⟨(some 14), (.ext 0 (.t 11)), none⟩, ⟨(some 15), (.ext 1 (.t 11)), none⟩, ⟨(some 4), (.mv (.t 14)), none⟩, ⟨(some 5), (.mv (.t 15)), none⟩]) (.kill [0, 11, 12, 13, 14, 15] (.seq (.seq (.ops [⟨(some 16), (.mv (.t 5)), none⟩, ⟨(some 17), (.bin .neq (.t 16) (.k (.c (.v (.int .i64 0))))), none⟩]) (.kill [16] (.cond (.t 17) (.seq (.ops [⟨(some 18), (.mv (.t 5)), none⟩, ⟨(some 2), (.mv (.k (.c (.v (.slice none 0 0))))), none⟩, ⟨(some 3), (.mv (.t 18)), none⟩]) (.kill [4, 5, 17, 18] .ret)) .skip))) (.kill [2, 3, 5, 17] (.seq (.ops [⟨(some 20), (.mv (.t 4)), none⟩, ⟨(some 21), (.build [(.v (.slice none 0 0)), (.v (.slice none 0 0)), (.v (.slice none 0 0)), (.v (.slice none 0 0)), (.v (.slice none 0 0))] []), none⟩, ⟨(some 22), (.call 50 [(.t 20), (.k (.c (.v (.slice none 0 0)))), (.t 21)]), none⟩, ⟨(some 19), (.mv (.t 22)), none⟩, ⟨(some 23), (.ext 0 (.t 19)), none⟩, ⟨(some 24), (.ext 1 (.t 19)), none⟩, ⟨(some 6), (.mv (.t 23)), none⟩, ⟨(some 7), (.mv (.t 24)), none⟩]) (.kill [19, 20, 21, 22, 23, 24] (.seq (.seq (.ops [⟨(some 25), (.mv (.t 7)), none⟩, ⟨(some 26), (.un .not (.t 25)), none⟩]) (.kill [7, 25] (.cond (.t 26) (.seq (.ops [⟨(some 2), (.mv (.k (.c (.v (.slice none 0 0))))), none⟩, ⟨(some 3), (.mv (.k (.c (.v (.int .i64 124))))), none⟩]) (.kill [4, 6, 26] .ret)) .skip))) (.kill [2, 3, 26] (.seq (.ops [⟨(some 8), (.mv (.k (.c (.v (.slice none 0 0))))), none⟩]) (.seq (.seq (.ops [⟨(some 27), (.mv (.t 6)), none⟩, ⟨(some 28), (.len (.t 27)), none⟩, ⟨(some 29), (.mv (.k (.c (.v (.int .i64 0))))), none⟩]) (.kill [6] (.blk 0 (.loop (.seq (.ops [⟨(some 30), (.bin .lss (.t 29) (.t 28)), none⟩]) (.kill [10, 31, 32, 33, 34, 35, 36, 37, 38, 39, 40, 41, 42, 43] (.seq (.cond (.t 30) .skip (.exit 0)) (.kill [30] (.seq (.blk 1 (.seq (.ops [⟨(some 31), (.ia 1 (.t 27) (.t 29)), none⟩, ⟨(some 32), (.ld false 1 (.t 31)), none⟩, ⟨(some 10), (.mv (.t 32)), none⟩]) (.kill [31, 32] (.ops [⟨(some 33), (.mv (.t 8)), none⟩, ⟨(some 34), (.mv (.t 4)), none⟩, ⟨(some 35), (.nilck (.t 34)), none⟩, ⟨(some 36), (.fa 1 (.t 35)), none⟩, ⟨(some 37), (.ld false 1 (.t 36)), none⟩, ⟨(some 38), (.mv (.t 10)), none⟩, ⟨(some 39), (.ia 1 (.t 37) (.t 38)), none⟩, ⟨(some 40), (.ld false 1 (.t 39)), none⟩, ⟨(some 41), (.mkSl 3 1 1 [(.v (.int .i64 0))] [(0, (1, (.t 40)))]), none⟩, ⟨(some 42), (.app 3 1 8 [(.v (.int .i64 0))] (.t 33) (.t 41)), none⟩, ⟨(some 8), (.mv (.t 42)), none⟩])))) (.kill [10, 31, 32, 33, 34, 35, 36, 37, 38, 39, 40, 41, 42] (.ops [⟨(some 43), (.bin .add (.t 29) (.k (.c (.v (.int .i64 1))))), none⟩, ⟨(some 29), (.mv (.t 43)), none⟩]))))))))))) (.kill [4, 10, 27, 28, 29, 30, 31, 32, 33, 34, 35, 36, 37, 38, 39, 40, 41, 42, 43] (.seq (.ops [⟨(some 44), (.mv (.t 8)), none⟩, ⟨(some 2), (.mv (.t 44)), none⟩, ⟨(some 3), (.mv (.k (.c (.v (.int .i64 0))))), none⟩]) (.kill [8, 44] .ret)))))))))))))))
def rs26 : List RS := [(.t 2), (.t 3)]
def nt26 : Nat := 45
set_option maxRecDepth 100000 in
set_option maxHeartbeats 400000 in
theorem countW_calls (w : World) (v : Value) (xs : List Cl) (hsz : xs.length * 72 ≤ 140737488355328) (h : Arr w Cl.enc 9 v xs) : Calls Try.prog 28 #[v] w (RetV w (.tuple #[.int .i64 (cntW xs), .int .i64 (nsE xs)])) := by
 refine enter1 (A := []) (c := ir28) (rs := rs28) (nt := nt28) cl0 cl_ok h [.c (.xv (0, 0, 0))] _ Try.func28 rfl (by kernel_rfl) (by kernel_rfl) rfl (fun E' h0 => by simp [SV.den, SC.den, h0]) (of_decide_eq_true rfl) ?_
 simp (maxSteps := 2000000) only [ir28, nt28, rs28, go_sem, ↓condS, ↓exitS, ↓gateS, ↓runOp, ↓gateD, ↓runD, ↓imp_ft, ↓imp_tf, ↓imp_tt, ↓imp_ff, ↓imp_fn, ↓imp_tn, ↓imp_fy, ↓imp_ty, ↓reduceIte, Nat.reduceLT, Nat.reduceLeDiff, Nat.reduceAdd, Nat.reduceSub, Nat.reduceMul, Nat.reduceEqDiff, reduceCtorEq, Int.reduceToNat, Int.reduceEq, Int.reduceBEq, Int.reduceBNe, Int.reduceLT, Int.reduceLE, Int.reduceNeg, Int.reduceAdd, Int.reduceSub, Int.reduceMul, Int.reduceGE, Int.reduceGT, Cl.enc, iv, endO]
 by_cases he : nsE xs = 0
 ·refine callN 4 (nsT 0) (nsO xs) (fun E a w' hs => newSearch_ok w' _ xs hsz he (arr_at (d := cl0) hs 0 rfl)) ?_
  simp (maxSteps := 2000000) only [go_sem, ↓condS, ↓exitS, ↓gateS, ↓runOp, ↓gateD, ↓runD, ↓imp_ft, ↓imp_tf, ↓imp_tt, ↓imp_ff, ↓imp_fn, ↓imp_tn, ↓imp_fy, ↓imp_ty, ↓reduceIte, Nat.reduceLT, Nat.reduceLeDiff, Nat.reduceAdd, Nat.reduceSub, Nat.reduceMul, Nat.reduceEqDiff, reduceCtorEq, Int.reduceToNat, Int.reduceEq, Int.reduceBEq, Int.reduceBNe, Int.reduceLT, Int.reduceLE, Int.reduceNeg, Int.reduceAdd, Int.reduceSub, Int.reduceMul, Int.reduceGE, Int.reduceGT, Cl.enc, iv, endO, nsT, nsO]
  have h8 := nsE_0 he
  refine callV (.c (.v (.int .i64 ((allY xs).length : Nat)))) _ (fun E => rfl) (fun E a w' hs => by
   have hsr := sr_own (ys := cyA xs) (nms := oI (nmA xs)) hs (i := 1) rfl _ _ rfl rfl rfl (by rw [oI_len]; exact (cyA_len xs).symm)
   have := count_calls 9 w' _ (.slice none 0 0) _ (cyA xs) (oI (nmA xs)) _ [] mc0 (by omega) h8 (cyA_op xs) hsr (Arr.nil _ _ _) (cont_0 w') mc0_may (by simp [MC.upto, mc0]) (by simp; omega) List.nodup_nil (fun i hi => by cases hi)
   show Calls Try.prog _ _ _ _
   simpa [SV.den, SC.den, allY] using this) ?_
  simp (maxSteps := 2000000) only [go_sem, ↓condS, ↓exitS, ↓gateS, ↓runOp, ↓gateD, ↓runD, ↓imp_ft, ↓imp_tf, ↓imp_tt, ↓imp_ff, ↓imp_fn, ↓imp_tn, ↓imp_fy, ↓imp_ty, ↓reduceIte, Nat.reduceLT, Nat.reduceLeDiff, Nat.reduceAdd, Nat.reduceSub, Nat.reduceMul, Nat.reduceEqDiff, reduceCtorEq, Int.reduceToNat, Int.reduceEq, Int.reduceBEq, Int.reduceBNe, Int.reduceLT, Int.reduceLE, Int.reduceNeg, Int.reduceAdd, Int.reduceSub, Int.reduceMul, Int.reduceGE, Int.reduceGT, Cl.enc, iv, endO]
  exact retV fun E => by simp [SV.den, den1, SC.den, cntW, he]
 ·refine callV (.tup [(false, [.v (.pointer none)]), (false, [.v (.int .i64 (nsE xs))])]) _ (fun E => rfl) (fun E a w' hs => newSearch_no w' _ xs hsz he (arr_at (d := cl0) hs 0 rfl)) ?_
  simp (maxSteps := 2000000) only [go_sem, ↓condS, ↓exitS, ↓gateS, ↓runOp, ↓gateD, ↓runD, ↓imp_ft, ↓imp_tf, ↓imp_tt, ↓imp_ff, ↓imp_fn, ↓imp_tn, ↓imp_fy, ↓imp_ty, ↓reduceIte, Nat.reduceLT, Nat.reduceLeDiff, Nat.reduceAdd, Nat.reduceSub, Nat.reduceMul, Nat.reduceEqDiff, reduceCtorEq, Int.reduceToNat, Int.reduceEq, Int.reduceBEq, Int.reduceBNe, Int.reduceLT, Int.reduceLE, Int.reduceNeg, Int.reduceAdd, Int.reduceSub, Int.reduceMul, Int.reduceGE, Int.reduceGT, Cl.enc, iv, endO]
  refine both (fun hb => ?_) (fun hb => ?_)
  ·exact retV fun E => by simp [SV.den, den1, SC.den, cntW, he]
  ·simp at hb; exact absurd hb he
theorem cr_lsC {C : Ctx} {S : St} {f : Nat} {vs : List SV} {u : Value} {r : Option (List Nat)} {g g' : Mem} (h9 : look S.own 9 = some (.one (.mp (.arr 8 .i8) .i64 g))) (hr : r.isSome = true)
  (hc : ∀ E a w, Sat C.B C.W C.w0 E S a w → Calls C.P f (vs.map (SV.den E)).toArray w (LsP w (E.ρ (9, 0, 0)) u true r g')) : CR C f vs S [9] (.tup [(false, [.v u]), (false, [.v (.bool true)])]) 0 [(9, .one (.mp (.arr 8 .i8) .i64 g'))] [] := by
 intro E a w hs
 refine (hc E a w hs).mono ?_
 rintro e w' ⟨v, rfl, hb, hm, hv, _⟩
 refine ⟨_, rfl, E, hs.one, fun E2 hs2 hk _ => ⟨?_, ?_⟩⟩
 ·rw [hv rfl, hr]
  simp only [SV.den, den1, List.map_cons, List.map_nil, SC.den]
 ·have e9 := (hk (9, 0, 0) (by simp)).1
  exact fits_map h9 (by rw [e9]; exact hb) (by rw [e9]; exact hm) fun w'' _ x A hA => (atN_nil hA).elim
theorem hY_ended (ys : List Cl) : ∀ i j, (hY ys).ah i j = true → (hY ys).ended i = true := fun i j h => by
 simp only [hY, aheadB] at h ⊢
 split at h
 ·assumption
 ·cases h
theorem closed_nil {σ : Type} {h : Hist σ} {cand : List Nat} : h.Closed cand [] := fun i hi => by cases hi
theorem lst_all {xs : List Cl} (h8 : (cyA xs).length ≤ 8) : ((hY (cyA xs)).lstF (cY (cyA xs)) wrM 9 [] mc0 fun _ => none).1 = (allY xs).head? :=
 (lstF_ok wrM (by simpa [cY] using h8) (hY_ended _) 9 [] mc0 _ (Hist.Pre.nil mc0) closed_nil (by simp [cY]; omega) (inv_nil (s0 := mc0))).1
theorem all_expl {xs : List Cl} (h8 : (cyA xs).length ≤ 8) {x : List Nat} : x ∈ allY xs ↔ (hY (cyA xs)).Expl (cY (cyA xs)) mc0 x := by
 unfold allY
 rw [srch_eq (hY_ended _) 9 [] mc0 (Hist.Pre.nil mc0) closed_nil (by simp [cY]; omega), mem_srchR 9 [] mc0 (Hist.Pre.nil mc0) (by simp [cY]; omega)]
 exact ⟨fun h => h.1, fun h => ⟨h, List.nil_prefix⟩⟩
theorem head_mem {α : Type} {l : List α} {x : α} (h : l.head? = some x) : x ∈ l := by
 cases l with
 | nil => cases h
 | cons a l => simp at h; simp [h]
set_option maxRecDepth 100000 in
set_option maxHeartbeats 400000 in
theorem find_calls (w : World) (v : Value) (xs : List Cl) (hsz : xs.length * 72 ≤ 140737488355328) (h : Arr w Cl.enc 9 v xs) : Calls Try.prog 26 #[v] w (RetN w 1 (leT 1 (findL xs).length (findE xs)) (lsO 3 1 eI (findL xs) 0)) := by
 refine enter1 (A := []) (c := ir26) (rs := rs26) (nt := nt26) cl0 cl_ok h [.c (.xv (0, 0, 0))] _ Try.func26 rfl (by kernel_rfl) (by kernel_rfl) rfl (fun E' h0 => by simp [SV.den, SC.den, h0]) (of_decide_eq_true rfl) ?_
 simp (maxSteps := 2000000) only [ir26, nt26, rs26, go_sem, ↓condS, ↓exitS, ↓gateS, ↓runOp, ↓gateD, ↓runD, ↓imp_ft, ↓imp_tf, ↓imp_tt, ↓imp_ff, ↓imp_fn, ↓imp_tn, ↓imp_fy, ↓imp_ty, ↓reduceIte, Nat.reduceLT, Nat.reduceLeDiff, Nat.reduceAdd, Nat.reduceSub, Nat.reduceMul, Nat.reduceEqDiff, reduceCtorEq, Int.reduceToNat, Int.reduceEq, Int.reduceBEq, Int.reduceBNe, Int.reduceLT, Int.reduceLE, Int.reduceNeg, Int.reduceAdd, Int.reduceSub, Int.reduceMul, Int.reduceGE, Int.reduceGT, Cl.enc, iv, endO]
 by_cases he : nsE xs = 0
 ·refine call_nid 6 (by decide) ?_
  refine callN 4 (nsT 0) (nsO xs) (fun E a w' hs => newSearch_ok w' _ xs hsz he (arr_at (d := cl0) hs 0 rfl)) ?_
  simp (maxSteps := 2000000) only [go_sem, ↓condS, ↓exitS, ↓gateS, ↓runOp, ↓gateD, ↓runD, ↓imp_ft, ↓imp_tf, ↓imp_tt, ↓imp_ff, ↓imp_fn, ↓imp_tn, ↓imp_fy, ↓imp_ty, ↓reduceIte, Nat.reduceLT, Nat.reduceLeDiff, Nat.reduceAdd, Nat.reduceSub, Nat.reduceMul, Nat.reduceEqDiff, reduceCtorEq, Int.reduceToNat, Int.reduceEq, Int.reduceBEq, Int.reduceBNe, Int.reduceLT, Int.reduceLE, Int.reduceNeg, Int.reduceAdd, Int.reduceSub, Int.reduceMul, Int.reduceGE, Int.reduceGT, Cl.enc, iv, endO, nsT, nsO]
  have h8 := nsE_0 he
  have hl9 := cyA_len xs
  have hls := lst_all h8
  have hex := fun x => all_expl (x := x) h8
  have hlc : ∀ {C : Ctx} {E : Env} {S : St} {a : Act} {w' : World}, Sat C.B C.W C.w0 E S a w' → look S.own 6 = some (.one (.bk [.sl (7, 0, 0) 9 0 (cys xs xs.length).length none, .sl (8, 0, 0) 1 0 (cys xs xs.length).length none, .mp (9, 0, 0)] 83)) → look S.own 7 = some (.one (.ar (cys xs xs.length).length 9 (ats Cl.enc (cys xs xs.length) cl0) 53)) → look S.own 8 = some (.one (.ar (cys xs xs.length).length 1 (ats eI (oI (cidx xs xs.length)) 0) 3)) → look S.own 9 = some (.one (.mp (.arr 8 .i8) .i64 fun _ => none)) →
    Calls Try.prog 50 #[(SC.ptr (6, 0, 0) 0).den E, .slice none 0 0, .agg #[.slice none 0 0, .slice none 0 0, .slice none 0 0, .slice none 0 0, .slice none 0 0]] w' (LsP w' (E.ρ (9, 0, 0)) (.slice none 0 0) ((hY (cyA xs)).whole (cY (cyA xs)) []) ((hY (cyA xs)).lstF (cY (cyA xs)) wrM 9 [] mc0 fun _ => none).1 ((hY (cyA xs)).lstF (cY (cyA xs)) wrM 9 [] mc0 fun _ => none).2) := fun {C E S a w'} hs l6 l7 l8 l9 => by
   have hsr := sr_own (ys := cyA xs) (nms := oI (nmA xs)) hs (i := 6) l6 _ _ l7 l8 rfl (by rw [oI_len]; exact (cyA_len xs).symm)
   exact least_calls 9 w' _ (.slice none 0 0) _ (cyA xs) (oI (nmA xs)) _ [] mc0 _ (by omega) h8 (cyA_op xs) hsr (map_at hs l9).1 (Arr.nil _ _ _) (cont_0 w') mc0_may (by simp [MC.upto, mc0]) (by simp; omega) List.nodup_nil (fun i hi => by cases hi)
  by_cases hw : (hY (cyA xs)).whole (cY (cyA xs)) [] = true
  ·have hlk : (hY (cyA xs)).lstF (cY (cyA xs)) wrM 9 [] mc0 (fun _ => none) = (some [], fun _ => none) := by rw [lstY_succ, if_pos hw]
   rw [hlk] at hls hlc
   rw [hw] at hlc
   refine call_intro (cr_lsC (u := .slice none 0 0) (r := some []) (g' := fun _ => none) rfl rfl (fun E a w' hs => by
    have := hlc hs rfl rfl rfl rfl
    show Calls Try.prog _ _ _ _
    simpa [SV.den, SC.den] using this)) (fun k hk => by rw [List.mem_singleton] at hk; subst hk; exact Nat.lt_succ_self 9) ?_
   simp (maxSteps := 2000000) only [go_sem, ↓condS, ↓exitS, ↓gateS, ↓runOp, ↓gateD, ↓runD, ↓imp_ft, ↓imp_tf, ↓imp_tt, ↓imp_ff, ↓imp_fn, ↓imp_tn, ↓imp_fy, ↓imp_ty, ↓reduceIte, Nat.reduceLT, Nat.reduceLeDiff, Nat.reduceAdd, Nat.reduceSub, Nat.reduceMul, Nat.reduceEqDiff, reduceCtorEq, Int.reduceToNat, Int.reduceEq, Int.reduceBEq, Int.reduceBNe, Int.reduceLT, Int.reduceLE, Int.reduceNeg, Int.reduceAdd, Int.reduceSub, Int.reduceMul, Int.reduceGE, Int.reduceGT, Cl.enc, iv, endO]
   refine loop_unr 1 ?_
   intro ι I μ i hb
   simp (maxSteps := 2000000) only [go_sem, ↓condS, ↓exitS, ↓gateS, ↓runOp, ↓gateD, ↓runD, ↓imp_ft, ↓imp_tf, ↓imp_tt, ↓imp_ff, ↓imp_fn, ↓imp_tn, ↓imp_fy, ↓imp_ty, ↓reduceIte, Nat.reduceLT, Nat.reduceLeDiff, Nat.reduceAdd, Nat.reduceSub, Nat.reduceMul, Nat.reduceEqDiff, reduceCtorEq, Int.reduceToNat, Int.reduceEq, Int.reduceBEq, Int.reduceBNe, Int.reduceLT, Int.reduceLE, Int.reduceNeg, Int.reduceAdd, Int.reduceSub, Int.reduceMul, Int.reduceGE, Int.reduceGT, Cl.enc, iv, endO]
   have e1 : findL xs = [] := by unfold findL; rw [if_pos he, ← hls]; rfl
   have e2 : findE xs = 0 := by unfold findE; rw [if_pos he, ← hls]; rfl
   rw [e1, e2]
   exact retNE
  ·have hw : (hY (cyA xs)).whole (cY (cyA xs)) [] = false := by simpa using hw
   rw [hw] at hlc
   generalize (hY (cyA xs)).lstF (cY (cyA xs)) wrM 9 [] mc0 (fun _ => none) = p at hls hlc
   obtain ⟨r, f2⟩ := p
   simp only at hls hlc
   refine call_intro (cr_lsF (r := r) (g' := f2) (vo := fun _ => .slice none 0 0) rfl (fun E a w' hs => by
    have := hlc hs rfl rfl rfl rfl
    show Calls Try.prog _ _ _ _
    simpa [SV.den, SC.den] using this)) (fun k hk => by rw [List.mem_singleton] at hk; subst hk; exact Nat.lt_succ_self 9) ?_
   cases r with
   | none =>
    simp (maxSteps := 2000000) only [go_sem, ↓condS, ↓exitS, ↓gateS, ↓runOp, ↓gateD, ↓runD, ↓imp_ft, ↓imp_tf, ↓imp_tt, ↓imp_ff, ↓imp_fn, ↓imp_tn, ↓imp_fy, ↓imp_ty, ↓reduceIte, Nat.reduceLT, Nat.reduceLeDiff, Nat.reduceAdd, Nat.reduceSub, Nat.reduceMul, Nat.reduceEqDiff, reduceCtorEq, Int.reduceToNat, Int.reduceEq, Int.reduceBEq, Int.reduceBNe, Int.reduceLT, Int.reduceLE, Int.reduceNeg, Int.reduceAdd, Int.reduceSub, Int.reduceMul, Int.reduceGE, Int.reduceGT, Cl.enc, iv, endO, mkC_B, Option.isSome_none, Option.getD_none]
    have e1 : findL xs = [] := by unfold findL; rw [if_pos he, ← hls]
    have e2 : findE xs = 124 := by unfold findE; rw [if_pos he, ← hls]; rfl
    rw [e1, e2]
    exact retNE
   | some x =>
    simp (maxSteps := 2000000) only [go_sem, ↓condS, ↓exitS, ↓gateS, ↓runOp, ↓gateD, ↓runD, ↓imp_ft, ↓imp_tf, ↓imp_tt, ↓imp_ff, ↓imp_fn, ↓imp_tn, ↓imp_fy, ↓imp_ty, ↓reduceIte, Nat.reduceLT, Nat.reduceLeDiff, Nat.reduceAdd, Nat.reduceSub, Nat.reduceMul, Nat.reduceEqDiff, reduceCtorEq, Int.reduceToNat, Int.reduceEq, Int.reduceBEq, Int.reduceBNe, Int.reduceLT, Int.reduceLE, Int.reduceNeg, Int.reduceAdd, Int.reduceSub, Int.reduceMul, Int.reduceGE, Int.reduceGT, Cl.enc, iv, endO, mkC_B, Option.isSome_some, Option.getD_some]
    have e1 : findL xs = nmL xs x := by unfold findL; rw [if_pos he, ← hls]
    have e2 : findE xs = 0 := by unfold findE; rw [if_pos he, ← hls]; rfl
    rw [e1, e2]
    have hx := (hex x).1 (head_mem hls.symm)
    have hxn : ∀ i ∈ x, i < (nmA xs).length := fun i hi => by
     have := hx.sub i hi
     rw [← hl9]
     simpa [cY] using this
    have hx8 : x.length ≤ (nmA xs).length := o_len hx.nodup hxn
    have hol := oI_len x
    have hcl : (cys xs xs.length).length = (nmA xs).length := cys_len xs xs.length
    refine loopI (ι := { i : Nat // i ≤ x.length }) (fun i => ⟨45, [(4, .c (.ptr (6, 0, 0) 0)), (8, .c (.sl (11, 0, 0) 1 0 i.1 none)), (27, .c (.xv (10, 0, 0))), (28, .c (.v (.int .i64 (oI x).length))), (29, .c (.v (.int .i64 (i.1 : Nat))))],
     [(6, .one (.bk [.sl (7, 0, 0) 9 0 (cys xs xs.length).length none, .sl (8, 0, 0) 1 0 (cys xs xs.length).length none, .mp (9, 0, 0)] 83)), (8, .one (.ar (cys xs xs.length).length 1 (ats eI (oI (cidx xs xs.length)) 0) 3)), (11, .one (.ar i.1 1 (ats eI (nmL xs (x.take i.1)) 0) 3))], [(10, .one (arrOf eI 1 (oI x) 0))], [], 12⟩)
     (fun i => x.length - i.1) ⟨0, by omega⟩ ?_ ?_
    ·refine le_tr (le_nilown (tmps' := [(4, .c (.ptr (6, 0, 0) 0)), (8, .c (.sl (11, 0, 0) 1 0 0 none)), (27, .c (.xv (10, 0, 0))), (28, .c (.v (.int .i64 (oI x).length))), (29, .c (.v (.int .i64 0)))]) 1 3 (ats eI [] 0) (by simp [TmpsNil, look]) rfl) ?_
     exact le_ren id rfl rfl (by simp [TmpsLe, look, SV.ren, SC.ren, SC.renL, ren1L, ren1, idσ, SV.okN, SC.okN, SC.okL, ok1L]) (by simp [OwnLe, BlkLeO, BlkLe, atN, look, Fm.get, idσ, SC.renL, SC.ren, SC.okL, SC.okN, ren_ats, ok_ats, renL_v, okL_v]) (by simp [ArrsLe, ArrLeO, atN, look, Fm.get, idσ, arrLe_of, arrLe_0]) rfl
    rintro ⟨i, hi⟩
    simp (maxSteps := 2000000) only [go_sem, ↓condS, ↓exitS, ↓gateS, ↓runOp, ↓gateD, ↓runD, ↓imp_ft, ↓imp_tf, ↓imp_tt, ↓imp_ff, ↓imp_fn, ↓imp_tn, ↓imp_fy, ↓imp_ty, ↓reduceIte, Nat.reduceLT, Nat.reduceLeDiff, Nat.reduceAdd, Nat.reduceSub, Nat.reduceMul, Nat.reduceEqDiff, reduceCtorEq, Int.reduceToNat, Int.reduceEq, Int.reduceBEq, Int.reduceBNe, Int.reduceLT, Int.reduceLE, Int.reduceNeg, Int.reduceAdd, Int.reduceSub, Int.reduceMul, Int.reduceGE, Int.reduceGT, Cl.enc, iv, endO, eI, ats]
    refine both (fun hlt => ?_) (fun hge => ?_)
    ·rw [decide_eq_true_eq] at hlt
     have hlt : i < x.length := by omega
     have hxi : (oI x).getD i 0 = ((x.getD i 0 : Nat) : Int) := by simp [oI, List.getD_eq_getElem?_getD, List.getElem?_eq_getElem hlt]
     have hxm := hxn _ (getD_mem (d := 0) hlt)
     simp (maxSteps := 2000000) only [hxi, Int.toNat_natCast]
     have hf8 := fit_app8 (i + 1) (by omega)
     have hml : i + 1 ≤ maxLen := by simp only [maxLen]; omega
     have hone : 1 ≤ maxLen := by decide
     refine And.intro (by omega) (And.intro (by omega) (And.intro ⟨by omega, by omega, Nat.le_refl _⟩ (And.intro (by omega) (And.intro hone (And.intro ⟨Nat.le_refl _, hf8, hml⟩ ?_)))))
     clear hf8 hml hone
     have hnx : (oI (cidx xs xs.length)).getD (x.getD i 0) 0 = (((nmA xs).getD (x.getD i 0) 0 : Nat) : Int) := by
      simp only [nmA] at hxm ⊢
      generalize x.getD i 0 = q at hxm ⊢
      rw [List.getD_eq_getElem?_getD, List.getD_eq_getElem?_getD, oI, List.getElem?_map, List.getElem?_eq_getElem hxm]
      rfl
     have hpush : nmL xs (x.take (i + 1)) = nmL xs (x.take i) ++ [(((nmA xs).getD (x.getD i 0) 0 : Nat) : Int)] := by
      rw [List.take_succ_eq_append_getElem hlt, nmL, List.map_append, oI, List.map_append]
      simp [nmL, oI, List.getD_eq_getElem?_getD, List.getElem?_eq_getElem hlt]
     have hli : i = (nmL xs (x.take i)).length := by simp [nmL, oI]; omega
     rw [wr_succ (by omega)]
     refine backI ⟨i + 1, by omega⟩ (by simp only; omega) (le_ren (fun k => if k = 11 then 13 else k) rfl rfl (by simp [TmpsLe, look, SV.ren, SC.ren, SC.renL, ren1L, ren1, idσ, SV.okN, SC.okN, SC.okL, ok1L]) ⟨⟨of_decide_eq_true rfl, by simp [BlkLeO, BlkLe, atN, look, Fm.get, idσ, SC.renL, SC.ren, SC.okL, SC.okN]⟩, ⟨of_decide_eq_true rfl, by simp [BlkLeO, BlkLe, atN, look, Fm.get, idσ, ren_ats, ok_ats, ats, renL_v, okL_v]⟩,
      ⟨of_decide_eq_true rfl, ?_⟩, trivial⟩ (by simp [ArrsLe, ArrLeO, atN, look, Fm.get, idσ, arrLe_of, arrLe_0]) rfl)
     refine ⟨Nat.le_refl _, rfl, rfl, fun e he => ?_⟩
     have he : e < i + 1 := he
     have := ats_push (d := 0) (enc := eI) hpush hli (f := ats eI (nmL xs (x.take i)) 0) (g := fun e => take' 1 (drop' (e * 1) [.v (.int .i64 ((oI (cidx xs xs.length)).getD (x.getD i 0) 0))])) (fun e he => rfl) (by rw [hnx]; rfl) e (by rw [hpush]; simp; omega)
     refine ⟨?_, okL_v _ _⟩
     show _ = SC.renL _ ((eI ((nmL xs (x.take (i + 1))).getD e 0)).map .v)
     rw [renL_v]
     exact this
    ·rw [decide_eq_false_iff_not] at hge
     have hin : i = x.length := by omega
     subst hin
     rw [List.take_length]
     have hli : x.length = (nmL xs x).length := by simp [nmL, oI]
     exact retLE 11 _ _ rfl hli (by omega) (fun e he => rfl)
 ·refine callV (.tup [(false, [.v (.pointer none)]), (false, [.v (.int .i64 (nsE xs))])]) _ (fun E => rfl) (fun E a w' hs => newSearch_no w' _ xs hsz he (arr_at (d := cl0) hs 0 rfl)) ?_
  simp (maxSteps := 2000000) only [go_sem, ↓condS, ↓exitS, ↓gateS, ↓runOp, ↓gateD, ↓runD, ↓imp_ft, ↓imp_tf, ↓imp_tt, ↓imp_ff, ↓imp_fn, ↓imp_tn, ↓imp_fy, ↓imp_ty, ↓reduceIte, Nat.reduceLT, Nat.reduceLeDiff, Nat.reduceAdd, Nat.reduceSub, Nat.reduceMul, Nat.reduceEqDiff, reduceCtorEq, Int.reduceToNat, Int.reduceEq, Int.reduceBEq, Int.reduceBNe, Int.reduceLT, Int.reduceLE, Int.reduceNeg, Int.reduceAdd, Int.reduceSub, Int.reduceMul, Int.reduceGE, Int.reduceGT, Cl.enc, iv, endO]
  have e1 : findL xs = [] := by unfold findL; rw [if_neg he]
  have e2 : findE xs = nsE xs := by unfold findE; rw [if_neg he]
  rw [e1, e2]
  refine both (fun hb => ?_) (fun hb => ?_)
  ·exact retNE
  ·simp at hb; exact absurd hb he
end Go.Proofs.Ytkjeedlkkpgopaa.Z
namespace Go.Proofs.Ytkjeedlkkpgopaa.Z
open Go Go.RowKit
theorem nmA_nodup (xs : List Cl) : (nmA xs).Nodup := (List.nodup_range).sublist (List.filter_sublist)
theorem nmA_inj {xs : List Cl} {i j : Nat} (hi : i < (nmA xs).length) (hj : j < (nmA xs).length) (h : (nmA xs).getD i 0 = (nmA xs).getD j 0) : i = j := by
 rw [List.getD_eq_getElem?_getD, List.getD_eq_getElem?_getD, List.getElem?_eq_getElem hi, List.getElem?_eq_getElem hj] at h
 exact (List.getElem_inj (nmA_nodup xs)).1 h
theorem cAt_nm {xs : List Cl} {i : Nat} (hi : i < (nmA xs).length) : cAt xs (((nmA xs).getD i 0 : Nat) : Int) = (cyA xs).getD i cl0 := by
 rw [cAt, Int.toNat_natCast, cyA_at xs hi]
theorem nmL_eq (xs : List Cl) (x : List Nat) : nmL xs x = x.map fun i => (((nmA xs).getD i 0 : Nat) : Int) := by simp [nmL, oI]
theorem line_nm {xs : List Cl} {x : List Nat} (hx : ∀ i ∈ x, i < (nmA xs).length) : lineO xs (nmL xs x) = x.map fun i => (cyA xs).getD i cl0 := by
 rw [nmL_eq, lineO, List.map_map]
 exact List.map_congr_left fun i hi => cAt_nm (hx i hi)
theorem play_iff {ys : List Cl} : ∀ (x : List Nat) (m : MC) (i : Nat), (playM m i (x.map fun i => ys.getD i cl0)).2 = -1 ↔ ((hY ys).play m x).isSome = true
 | [], m, i => by simp [playM, Hist.play]
 | j :: x, m, i => by
  have ih := fun m' i' => play_iff (ys := ys) x m' i'
  have e : (hY ys).al m j = allowM m (ys.getD j cl0) := rfl
  rw [List.map_cons]
  unfold playM Hist.play
  rw [e]
  generalize allowM m (ys.getD j cl0) = a
  by_cases h : a.2 = true
  ·rw [if_pos h, if_pos h]
   exact ih _ _
  ·rw [if_neg h, if_neg h]
   simp; try omega
theorem mem_nmL {xs : List Cl} {x : List Nat} (hx : ∀ i ∈ x, i < (nmA xs).length) {i : Nat} (hi : i < (nmA xs).length) : (((nmA xs).getD i 0 : Nat) : Int) ∈ nmL xs x ↔ i ∈ x := by
 rw [nmL_eq, List.mem_map]
 constructor
 ·rintro ⟨j, hj, h⟩
  have := nmA_inj (hx j hj) hi (by omega)
  exact this ▸ hj
 ·intro h; exact ⟨i, h, rfl⟩
theorem nodup_map {α β : Type} {f : α → β} : ∀ {l : List α}, (∀ a ∈ l, ∀ b ∈ l, f a = f b → a = b) → l.Nodup → (l.map f).Nodup
 | [], _, _ => List.nodup_nil
 | a :: l, hi, hn => by
  rw [List.nodup_cons] at hn
  rw [List.map_cons, List.nodup_cons]
  refine ⟨fun hm => ?_, nodup_map (fun a ha b hb => hi a (by simp [ha]) b (by simp [hb])) hn.2⟩
  obtain ⟨b, hb, h⟩ := List.mem_map.1 hm
  exact hn.1 ((hi b (by simp [hb]) a (by simp) h) ▸ hb)
theorem chk_iff {xs : List Cl} {x : List Nat} (hm : mayQ xs = true) (hx : ∀ i ∈ x, i < (nmA xs).length) : chkE xs (nmL xs x) = 0 ↔ (hY (cyA xs)).Expl (cY (cyA xs)) mc0 x := by
 have hl := cyA_len xs
 have hsub : ∀ i ∈ x, i ∈ cY (cyA xs) := fun i hi => by simp only [cY, List.mem_range]; rw [hl]; exact hx i hi
 have hO : IsO xs (nmL xs x) ↔ x.Nodup ∧ (hY (cyA xs)).whole (cY (cyA xs)) x = true := by
  rw [whole_iff]
  constructor
  ·intro h
   refine ⟨?_, fun i hi he => ?_⟩
   ·have := h.nodup
    rw [nmL_eq] at this
    exact (List.pairwise_map.1 this).imp fun h e => h (by rw [e])
   ·have hi : i < (nmA xs).length := by rw [← hl]; simpa [cY] using hi
    have hj := nmA_mem (getD_mem (l := nmA xs) (d := 0) hi)
    refine (mem_nmL hx hi).1 (h.all _ hj.1 hj.2 ?_)
    simp only [hY, cyA_at xs hi] at he
    simpa using he
  ·rintro ⟨h1, h2⟩
   refine ⟨fun n hn => ?_, ?_, fun j hj hc hf => ?_⟩
   ·rw [nmL_eq] at hn
    obtain ⟨i, hi, rfl⟩ := List.mem_map.1 hn
    have := nmA_mem (getD_mem (l := nmA xs) (d := 0) (hx i hi))
    refine ⟨by omega, by omega, ?_⟩
    rw [cAt, Int.toNat_natCast]
    exact this.2
   ·rw [nmL_eq]
    exact nodup_map (fun a ha b hb h => nmA_inj (hx a ha) (hx b hb) (by omega)) h1
   ·have hjm : j ∈ nmA xs := List.mem_filter.2 ⟨List.mem_range.2 hj, hc⟩
    obtain ⟨i, hi, rfl⟩ := List.getElem_of_mem hjm
    have hg : (nmA xs).getD i 0 = (nmA xs)[i] := by rw [List.getD_eq_getElem?_getD, List.getElem?_eq_getElem hi]; rfl
    rw [← hg] at hf ⊢
    refine (mem_nmL hx hi).2 (h2 i (by simp only [cY, List.mem_range]; rw [hl]; exact hi) ?_)
    simp only [hY, cyA_at xs hi]
    simpa using hf
 have hT : InT xs (nmL xs x) ↔ (hY (cyA xs)).inTime x := by
  unfold InT Hist.inTime
  rw [nmL_eq, List.pairwise_map]
  constructor
  ·intro h
   refine h.imp_of_mem fun {a b} ha hb hab => ?_
   rw [cAt_nm (hx a ha), cAt_nm (hx b hb)] at hab
   exact hab
  ·intro h
   refine h.imp_of_mem fun {a b} ha hb hab => ?_
   rw [cAt_nm (hx a ha), cAt_nm (hx b hb)]
   exact hab
 have hP : (playM mc0 0 (lineO xs (nmL xs x))).2 = -1 ↔ ((hY (cyA xs)).play mc0 x).isSome = true := by
  rw [line_nm hx]
  exact play_iff x mc0 0
 have hM : pB (mayP xs) = true := by rw [← mayQ_pB]; exact hm
 unfold chkE
 rw [if_pos hM]
 constructor
 ·intro h
  split at h
  ·next h1 =>
   split at h
   ·next h2 =>
    split at h
    ·next h3 =>
     obtain ⟨g1, g2⟩ := hO.1 (pB_t.1 h1)
     exact ⟨g1, hsub, g2, hT.1 (pB_t.1 h2), hP.1 h3⟩
    ·cases h
   ·cases h
  ·cases h
 ·intro h
  rw [if_pos (pB_t.2 (hO.2 ⟨h.nodup, h.whole⟩)), if_pos (pB_t.2 (hT.2 h.inTime)), if_pos (hP.2 h.plays)]
theorem find_chk {xs : List Cl} (he : nsE xs = 0) (hf : findE xs = 0) : chkE xs (findL xs) = 0 ∧ 1 ≤ (allY xs).length := by
 have h8 := nsE_0 he
 have hm : mayQ xs = true := by
  unfold nsE at he
  by_cases e : mayQ xs = true
  ·exact e
  ·rw [if_neg e] at he; cases he
 unfold findE at hf
 rw [if_pos he] at hf
 split at hf
 ·next h1 =>
  obtain ⟨x, hx⟩ := Option.isSome_iff_exists.1 h1
  have hE := (all_expl h8).1 (head_mem hx)
  have e1 : findL xs = nmL xs x := by unfold findL; rw [if_pos he, hx]
  rw [e1]
  refine ⟨(chk_iff hm fun i hi => ?_).2 hE, List.length_pos_of_mem (head_mem hx)⟩
  have := hE.sub i hi
  rw [← cyA_len]; simpa [cY] using this
 ·cases hf
theorem find_no {xs : List Cl} (he : nsE xs = 0) (hf : findE xs ≠ 0) : findE xs = 124 ∧ findL xs = [] ∧ (allY xs).length = 0 := by
 unfold findE at hf ⊢
 rw [if_pos he] at hf ⊢
 split at hf
 ·exact absurd rfl hf
 ·next h1 =>
  have h2 : (allY xs).head? = none := by simpa using h1
  refine ⟨by rw [if_neg h1], by unfold findL; rw [if_pos he, h2], by rw [head_nil h2]; rfl⟩
end Go.Proofs.Ytkjeedlkkpgopaa.Z
namespace Go.Proofs.Ytkjeedlkkpgopaa.Z
open Go Go.RowKit
def nil5 : List SC := [.v (.slice none 0 0), .v (.slice none 0 0), .v (.slice none 0 0), .v (.slice none 0 0), .v (.slice none 0 0)]
theorem line_at {xs : List Cl} {o : List Int} {k : Nat} (h : k < o.length) : (lineO xs o).getD k cl0 = cAt xs (o.getD k 0) := by
 simp [lineO, List.getD_eq_getElem?_getD, List.getElem?_eq_getElem h]
theorem line_len {xs : List Cl} {o : List Int} : (lineO xs o).length = o.length := by simp [lineO]
def plM (p : MC × Int) : MC := if p.2 = -1 then p.1 else mc0
end Go.Proofs.Ytkjeedlkkpgopaa.Z
namespace Go.Proofs.Ytkjeedlkkpgopaa.Z
open Go Go.RowKit
theorem chkE_may {xs : List Cl} {o : List Int} (h : mayQ xs = false) : chkE xs o = 120 := by
 unfold chkE; rw [← mayQ_pB, h]; simp
theorem chkE_ord {xs : List Cl} {o : List Int} (h : mayQ xs = true) (h2 : pB (IsO xs o) = false) : chkE xs o = 121 := by
 unfold chkE; rw [← mayQ_pB, h, h2]; simp
theorem chkE_tim {xs : List Cl} {o : List Int} (h : mayQ xs = true) (h2 : pB (IsO xs o) = true) (h3 : pB (InT xs o) = false) : chkE xs o = 122 := by
 unfold chkE; rw [← mayQ_pB, h, h2, h3]; simp
theorem chkE_pl {xs : List Cl} {o : List Int} (h : mayQ xs = true) (h2 : pB (IsO xs o) = true) (h3 : pB (InT xs o) = true) : chkE xs o = if (playM mc0 0 (lineO xs o)).2 = -1 then 0 else 123 := by
 unfold chkE; rw [← mayQ_pB, h, h2, h3]; simp
theorem chkM_0 {xs : List Cl} {o : List Int} (h : chkE xs o ≠ 0) : chkM xs o = mc0 := by unfold chkM; rw [if_neg h]
theorem chkM_pl {xs : List Cl} {o : List Int} (h : mayQ xs = true) (h2 : pB (IsO xs o) = true) (h3 : pB (InT xs o) = true) : chkM xs o = plM (playM mc0 0 (lineO xs o)) := by
 unfold chkM plM
 rw [chkE_pl h h2 h3]
 by_cases e : (playM mc0 0 (lineO xs o)).2 = -1 <;> simp [e]
def lkT (e : Int) (b : Nat) : SV := .tup [(true, mcS b), (false, [.v (.int .i64 e)])]
theorem lkT_ok (c0 c1 c2 c3 c4 : SC) (e : Int) : ∀ b (E E2 : Env), E2.χ (b, 0, 0) = c0.den E → E2.χ (b + 1, 0, 0) = c1.den E → E2.χ (b + 2, 0, 0) = c2.den E → E2.χ (b + 3, 0, 0) = c3.den E → E2.χ (b + 4, 0, 0) = c4.den E →
  (SV.tup [(true, [c0, c1, c2, c3, c4]), (false, [.v (.int .i64 e)])]).den E = (lkT e b).den E2 := fun b E E2 e0 e1 e2 e3 e4 => by
 simp [lkT, mcS, SV.den, den1, SC.den, e0, e1, e2, e3, e4]
def ir54 : IR := (.seq (.ops [⟨(some 4), (.new 70 [(.v (.slice none 0 0)), (.v (.slice none 0 0)), (.v (.slice none 0 0)), (.v (.slice none 0 0)), (.v (.slice none 0 0))]), none⟩, ⟨(some 5), (.mv (.k (.c (.v (.int .i64 0))))), none⟩]) (.kill [2, 3, 5, 6, 7, 8, 9, 10, 11] (.seq (.seq (.ops [⟨(some 19), (.mv (.t 0)), none⟩, ⟨(some 20), (.call 15 [(.t 19)]), none⟩, ⟨(some 21), (.un .not (.t 20)), none⟩]) (.kill [19, 20] (.cond (.t 21) (.seq (.ops [⟨(some 22), (.build [(.v (.slice none 0 0)), (.v (.slice none 0 0)), (.v (.slice none 0 0)), (.v (.slice none 0 0)), (.v (.slice none 0 0))] []), none⟩, ⟨none, (.st 5 (.t 4) (.t 22)), none⟩, ⟨(some 5), (.mv (.k (.c (.v (.int .i64 120))))), none⟩]) (.kill [0, 1, 21, 22] .ret)) .skip))) (.kill [5, 21] (.seq (.ops [⟨(some 23), (.mv (.t 0)), none⟩, ⟨(some 24), (.len (.t 23)), none⟩, ⟨(some 25), (.mks 3 1 8 [(.v (.int .i64 0))] (.t 24) (.t 24)), none⟩, ⟨(some 6), (.mv (.t 25)), none⟩]) (.kill [23, 24, 25] (.seq (.seq (.ops [⟨(some 26), (.mv (.t 1)), none⟩, ⟨(some 27), (.len (.t 26)), none⟩, ⟨(some 28), (.mv (.k (.c (.v (.int .i64 0))))), none⟩]) (.blk 0 (.loop (.seq (.ops [⟨(some 29), (.bin .lss (.t 28) (.t 27)), none⟩]) (.kill [5, 8, 30, 31, 32, 33, 34, 35, 36, 37, 38, 39, 40, 41, 42, 43, 44, 45, 46, 47, 48, 49, 50, 51, 52, 53, 54, 55, 56, 57, 58, 59, 60, 61, 62] (.seq (.cond (.t 29) .skip (.exit 0)) (.kill [29] (.seq (.blk 1 (.seq (.ops [⟨(some 30), (.ia 1 (.t 26) (.t 28)), none⟩, ⟨(some 31), (.ld false 1 (.t 30)), none⟩, ⟨(some 8), (.mv (.t 31)), none⟩]) (.kill [30, 31] (.seq (.seq (.ops [⟨(some 32), (.mv (.t 8)), none⟩, ⟨(some 33), (.bin .lss (.t 32) (.k (.c (.v (.int .i64 0))))), none⟩, ⟨(some 34), (.mv (.t 33)), none⟩, ⟨(some 35), (.mv (.t 8)), (some (34, false))⟩, ⟨(some 36), (.mv (.t 0)), (some (34, false))⟩, ⟨(some 37), (.len (.t 36)), (some (34, false))⟩, ⟨(some 38), (.bin .geq (.t 35) (.t 37)), (some (34, false))⟩, ⟨(some 39), (.pick (.t 34) (.k (.c (.v (.bool true)))) (.t 38)), none⟩, ⟨(some 40), (.mv (.t 39)), none⟩, ⟨(some 41), (.mv (.t 0)), (some (40, false))⟩, ⟨(some 42), (.mv (.t 8)), (some (40, false))⟩, ⟨(some 43), (.ia 9 (.t 41) (.t 42)), (some (40, false))⟩, ⟨(some 44), (.ld true 9 (.t 43)), (some (40, false))⟩, ⟨(some 45), (.call 42 [(.t 44)]), (some (40, false))⟩, ⟨(some 46), (.un .not (.t 45)), (some (40, false))⟩, ⟨(some 47), (.pick (.t 40) (.k (.c (.v (.bool true)))) (.t 46)), none⟩, ⟨(some 48), (.mv (.t 47)), none⟩, ⟨(some 49), (.mv (.t 6)), (some (48, false))⟩, ⟨(some 50), (.mv (.t 8)), (some (48, false))⟩, ⟨(some 51), (.ia 1 (.t 49) (.t 50)), (some (48, false))⟩, ⟨(some 52), (.ld false 1 (.t 51)), (some (48, false))⟩, ⟨(some 53), (.bin .gtr (.t 52) (.k (.c (.v (.int .i64 0))))), (some (48, false))⟩, ⟨(some 54), (.pick (.t 48) (.k (.c (.v (.bool true)))) (.t 53)), none⟩]) (.kill [32, 33, 34, 35, 36, 37, 38, 39, 40, 41, 42, 43, 44, 45, 46, 47, 48, 49, 50, 51, 52, 53] (.cond (.t 54) (.seq (.ops [⟨(some 55), (.build [(.v (.slice none 0 0)), (.v (.slice none 0 0)), (.v (.slice none 0 0)), (.v (.slice none 0 0)), (.v (.slice none 0 0))] []), none⟩, ⟨none, (.st 5 (.t 4) (.t 55)), none⟩, ⟨(some 5), (.mv (.k (.c (.v (.int .i64 121))))), none⟩]) (.kill [0, 1, 6, 8, 26, 27, 28, 54, 55] .ret)) .skip))) (.kill [5, 54] (.ops [⟨(some 56), (.mv (.t 6)), none⟩, ⟨(some 57), (.mv (.t 8)), none⟩, ⟨(some 58), (.ia 1 (.t 56) (.t 57)), none⟩, ⟨(some 59), (.ld false 1 (.t 58)), none⟩, ⟨(some 60), (.bin .add (.t 59) (.k (.c (.v (.int .i64 1))))), none⟩, ⟨(some 61), (.ia 1 (.t 56) (.t 57)), none⟩, ⟨none, (.st 1 (.t 61) (.t 60)), none⟩])))))) (.kill [5, 8, 30, 31, 32, 33, 34, 35, 36, 37, 38, 39, 40, 41, 42, 43, 44, 45, 46, 47, 48, 49, 50, 51, 52, 53, 54, 55, 56, 57, 58, 59, 60, 61] (.ops [⟨(some 62), (.bin .add (.t 28) (.k (.c (.v (.int .i64 1))))), none⟩, ⟨(some 28), (.mv (.t 62)), none⟩])))))))))) (.kill [5, 8, 26, 27, 28, 29, 30, 31, 32, 33, 34, 35, 36, 37, 38, 39, 40, 41, 42, 43, 44, 45, 46, 47, 48, 49, 50, 51, 52, 53, 54, 55, 56, 57, 58, 59, 60, 61, 62] (.seq (.seq (.ops [⟨(some 63), (.mv (.t 0)), none⟩, ⟨(some 64), (.len (.t 63)), none⟩, ⟨(some 65), (.mv (.k (.c (.v (.int .i64 0))))), none⟩]) (.blk 2 (.loop (.seq (.ops [⟨(some 66), (.bin .lss (.t 65) (.t 64)), none⟩]) (.kill [5, 9, 10, 67, 68, 69, 70, 71, 72, 73, 74, 75, 76, 77, 78, 79, 80, 81, 82, 83, 84, 85] (.seq (.cond (.t 66) .skip (.exit 2)) (.kill [66] (.seq (.blk 3 (.seq (.ops [⟨(some 67), (.mv (.t 65)), none⟩, ⟨(some 68), (.ia 9 (.t 63) (.t 65)), none⟩, ⟨(some 69), (.ld true 9 (.t 68)), none⟩, ⟨(some 10), (.new 53 [(.v (.int .i64 0)), (.v (.int .i64 0)), (.v (.int .i64 0)), (.v (.int .i64 0)), (.v (.int .i64 0)), (.v (.int .i64 0)), (.v (.int .i64 0)), (.v (.int .i64 0)), (.v (.int .i64 0))]), none⟩, ⟨(some 9), (.mv (.t 67)), none⟩, ⟨none, (.st 9 (.t 10) (.t 69)), none⟩]) (.kill [67, 68, 69] (.seq (.ops [⟨(some 70), (.ld true 9 (.t 10)), none⟩, ⟨(some 71), (.call 42 [(.t 70)]), none⟩, ⟨(some 72), (.mv (.t 71)), none⟩, ⟨(some 73), (.fa 5 (.t 10)), (some (72, true))⟩, ⟨(some 74), (.ld false 1 (.t 73)), (some (72, true))⟩, ⟨(some 75), (.bin .neq (.t 74) (.k (.c (.v (.int .i64 (-1)))))), (some (72, true))⟩, ⟨(some 76), (.pick (.t 72) (.t 75) (.k (.c (.v (.bool false))))), none⟩, ⟨(some 77), (.mv (.t 76)), none⟩, ⟨(some 78), (.mv (.t 6)), (some (77, true))⟩, ⟨(some 79), (.mv (.t 9)), (some (77, true))⟩, ⟨(some 80), (.ia 1 (.t 78) (.t 79)), (some (77, true))⟩, ⟨(some 81), (.ld false 1 (.t 80)), (some (77, true))⟩, ⟨(some 82), (.bin .eql (.t 81) (.k (.c (.v (.int .i64 0))))), (some (77, true))⟩, ⟨(some 83), (.pick (.t 77) (.t 82) (.k (.c (.v (.bool false))))), none⟩]) (.kill [9, 10, 70, 71, 72, 73, 74, 75, 76, 77, 78, 79, 80, 81, 82] (.cond (.t 83) (.seq (.ops [⟨(some 84), (.build [(.v (.slice none 0 0)), (.v (.slice none 0 0)), (.v (.slice none 0 0)), (.v (.slice none 0 0)), (.v (.slice none 0 0))] []), none⟩, ⟨none, (.st 5 (.t 4) (.t 84)), none⟩, ⟨(some 5), (.mv (.k (.c (.v (.int .i64 121))))), none⟩]) (.kill [0, 1, 6, 63, 64, 65, 83, 84] .ret)) .skip)))))) (.kill [5, 9, 10, 67, 68, 69, 70, 71, 72, 73, 74, 75, 76, 77, 78, 79, 80, 81, 82, 83, 84] (.ops [⟨(some 85), (.bin .add (.t 65) (.k (.c (.v (.int .i64 1))))), none⟩, ⟨(some 65), (.mv (.t 85)), none⟩])))))))))) (.kill [5, 6, 9, 10, 63, 64, 65, 66, 67, 68, 69, 70, 71, 72, 73, 74, 75, 76, 77, 78, 79, 80, 81, 82, 83, 84, 85] (.seq (.ops [⟨(some 11), (.mv (.k (.c (.v (.slice none 0 0))))), none⟩]) (.seq (.ops [⟨(some 12), (.mv (.k (.c (.v (.int .i64 (-1)))))), none⟩]) (.seq (.seq (.ops [⟨(some 86), (.mv (.t 1)), none⟩, ⟨(some 87), (.len (.t 86)), none⟩, ⟨(some 88), (.mv (.k (.c (.v (.int .i64 0))))), none⟩]) (.kill [1] (.blk 4 (.loop (.seq (.ops [⟨(some 89), (.bin .lss (.t 88) (.t 87)), none⟩]) (.kill [5, 14, 15, 90, 91, 92, 93, 94, 95, 96, 97, 98, 99, 100, 101, 102, 103, 104, 105, 106, 107, 108, 109, 110, 111, 112, 113, 114, 115, 116, 117, 118, 119, 120] (.seq (.cond (.t 89) .skip (.exit 4)) (.kill [89] (.seq (.blk 5 (.seq (.ops [⟨(some 90), (.ia 1 (.t 86) (.t 88)), none⟩, ⟨(some 91), (.ld false 1 (.t 90)), none⟩, ⟨(some 14), (.mv (.t 91)), none⟩]) (.kill [90, 91] (.seq (.seq (.ops [⟨(some 92), (.mv (.t 0)), none⟩, ⟨(some 93), (.mv (.t 14)), none⟩, ⟨(some 94), (.ia 9 (.t 92) (.t 93)), none⟩, ⟨(some 95), (.ld true 9 (.t 94)), none⟩, ⟨(some 15), (.new 53 [(.v (.int .i64 0)), (.v (.int .i64 0)), (.v (.int .i64 0)), (.v (.int .i64 0)), (.v (.int .i64 0)), (.v (.int .i64 0)), (.v (.int .i64 0)), (.v (.int .i64 0)), (.v (.int .i64 0))]), none⟩, ⟨none, (.st 9 (.t 15) (.t 95)), none⟩]) (.kill [92, 93, 94, 95] (.seq (.ops [⟨(some 96), (.fa 5 (.t 15)), none⟩, ⟨(some 97), (.ld false 1 (.t 96)), none⟩, ⟨(some 98), (.bin .neq (.t 97) (.k (.c (.v (.int .i64 (-1)))))), none⟩, ⟨(some 99), (.mv (.t 98)), none⟩, ⟨(some 100), (.fa 5 (.t 15)), (some (99, true))⟩, ⟨(some 101), (.ld false 1 (.t 100)), (some (99, true))⟩, ⟨(some 102), (.mv (.t 12)), (some (99, true))⟩, ⟨(some 103), (.bin .lss (.t 101) (.t 102)), (some (99, true))⟩, ⟨(some 104), (.pick (.t 99) (.t 103) (.k (.c (.v (.bool false))))), none⟩]) (.kill [15, 96, 97, 98, 99, 100, 101, 102, 103] (.cond (.t 104) (.seq (.ops [⟨(some 105), (.build [(.v (.slice none 0 0)), (.v (.slice none 0 0)), (.v (.slice none 0 0)), (.v (.slice none 0 0)), (.v (.slice none 0 0))] []), none⟩, ⟨none, (.st 5 (.t 4) (.t 105)), none⟩, ⟨(some 5), (.mv (.k (.c (.v (.int .i64 122))))), none⟩]) (.kill [0, 11, 12, 14, 86, 87, 88, 104, 105] .ret)) .skip))))) (.kill [5, 104] (.seq (.ops [⟨(some 106), (.mv (.t 12)), none⟩, ⟨(some 107), (.mv (.t 0)), none⟩, ⟨(some 108), (.mv (.t 14)), none⟩, ⟨(some 109), (.ia 9 (.t 107) (.t 108)), none⟩, ⟨(some 110), (.fa 4 (.t 109)), none⟩, ⟨(some 111), (.ld false 1 (.t 110)), none⟩, ⟨(some 112), (.mm true (.t 106) (.t 111)), none⟩, ⟨(some 12), (.mv (.t 112)), none⟩]) (.kill [106, 107, 108, 109, 110, 111, 112] (.ops [⟨(some 113), (.mv (.t 11)), none⟩, ⟨(some 114), (.mv (.t 0)), none⟩, ⟨(some 115), (.mv (.t 14)), none⟩, ⟨(some 116), (.ia 9 (.t 114) (.t 115)), none⟩, ⟨(some 117), (.ld true 9 (.t 116)), none⟩, ⟨(some 118), (.mkSl 53 1 9 [(.v (.int .i64 0)), (.v (.int .i64 0)), (.v (.int .i64 0)), (.v (.int .i64 0)), (.v (.int .i64 0)), (.v (.int .i64 0)), (.v (.int .i64 0)), (.v (.int .i64 0)), (.v (.int .i64 0))] [(0, (9, (.t 117)))]), none⟩, ⟨(some 119), (.app 53 9 72 [(.v (.int .i64 0)), (.v (.int .i64 0)), (.v (.int .i64 0)), (.v (.int .i64 0)), (.v (.int .i64 0)), (.v (.int .i64 0)), (.v (.int .i64 0)), (.v (.int .i64 0)), (.v (.int .i64 0))] (.t 113) (.t 118)), none⟩, ⟨(some 11), (.mv (.t 119)), none⟩])))))))) (.kill [5, 14, 15, 90, 91, 92, 93, 94, 95, 96, 97, 98, 99, 100, 101, 102, 103, 104, 105, 106, 107, 108, 109, 110, 111, 112, 113, 114, 115, 116, 117, 118, 119] (.ops [⟨(some 120), (.bin .add (.t 88) (.k (.c (.v (.int .i64 1))))), none⟩, ⟨(some 88), (.mv (.t 120)), none⟩]))))))))))) (.kill [0, 5, 12, 14, 15, 86, 87, 88, 89, 90, 91, 92, 93, 94, 95, 96, 97, 98, 99, 100, 101, 102, 103, 104, 105, 106, 107, 108, 109, 110, 111, 112, 113, 114, 115, 116, 117, 118, 119, 120] (.seq (.ops [⟨(some 122), (.build [(.v (.slice none 0 0)), (.v (.slice none 0 0)), (.v (.slice none 0 0)), (.v (.slice none 0 0)), (.v (.slice none 0 0))] []), none⟩, ⟨(some 123), (.mv (.t 11)), none⟩, ⟨(some 124), (.call 71 [(.t 122), (.t 123)]), none⟩, ⟨(some 121), (.mv (.t 124)), none⟩, ⟨(some 125), (.ext 0 (.t 121)), none⟩, ⟨(some 126), (.ext 1 (.t 121)), none⟩, ⟨(some 127), (.ext 2 (.t 121)), none⟩, ⟨(some 16), (.new 70 [(.v (.slice none 0 0)), (.v (.slice none 0 0)), (.v (.slice none 0 0)), (.v (.slice none 0 0)), (.v (.slice none 0 0))]), none⟩, ⟨none, (.st 5 (.t 16) (.t 125)), none⟩, ⟨(some 17), (.mv (.t 126)), none⟩, ⟨(some 18), (.mv (.t 127)), none⟩]) (.kill [11, 121, 122, 123, 124, 125, 126, 127] (.seq (.seq (.ops [⟨(some 128), (.mv (.t 18)), none⟩, ⟨(some 129), (.bin .neq (.t 128) (.k (.c (.v (.int .i64 0))))), none⟩, ⟨(some 130), (.mv (.t 129)), none⟩, ⟨(some 131), (.mv (.t 17)), (some (130, false))⟩, ⟨(some 132), (.bin .geq (.t 131) (.k (.c (.v (.int .i64 0))))), (some (130, false))⟩, ⟨(some 133), (.pick (.t 130) (.k (.c (.v (.bool true)))) (.t 132)), none⟩]) (.kill [17, 18, 128, 129, 130, 131, 132] (.cond (.t 133) (.seq (.ops [⟨(some 134), (.build [(.v (.slice none 0 0)), (.v (.slice none 0 0)), (.v (.slice none 0 0)), (.v (.slice none 0 0)), (.v (.slice none 0 0))] []), none⟩, ⟨none, (.st 5 (.t 4) (.t 134)), none⟩, ⟨(some 5), (.mv (.k (.c (.v (.int .i64 123))))), none⟩]) (.kill [16, 133, 134] .ret)) .skip))) (.kill [5, 133] (.seq (.ops [⟨(some 135), (.ld true 5 (.t 16)), none⟩, ⟨none, (.st 5 (.t 4) (.t 135)), none⟩, ⟨(some 5), (.mv (.k (.c (.v (.int .i64 0))))), none⟩]) (.kill [16, 135] .ret))))))))))))))))))))
def rs54 : List RS := [(.cell 4 true 5), (.t 5)]
def nt54 : Nat := 136
def ir35 : IR := (.seq (.ops [⟨(some 4), (.mv (.k (.c (.v (.int .i64 0))))), none⟩]) (.kill [2, 3, 4, 5, 6, 7, 8, 9, 10, 11] (.seq (.ops [⟨(some 8), (.mv (.t 0)), none⟩, ⟨(some 9), (.mv (.t 1)), none⟩, ⟨(some 10), (.call 54 [(.t 8), (.t 9)]), none⟩, ⟨(some 7), (.mv (.t 10)), none⟩, ⟨(some 11), (.ext 0 (.t 7)), none⟩, ⟨(some 12), (.ext 1 (.t 7)), none⟩, ⟨(some 5), (.new 70 [(.v (.slice none 0 0)), (.v (.slice none 0 0)), (.v (.slice none 0 0)), (.v (.slice none 0 0)), (.v (.slice none 0 0))]), none⟩, ⟨none, (.st 5 (.t 5) (.t 11)), none⟩, ⟨(some 6), (.mv (.t 12)), none⟩]) (.kill [0, 1, 5, 7, 8, 9, 10, 11, 12] (.seq (.ops [⟨(some 13), (.mv (.t 6)), none⟩, ⟨(some 4), (.mv (.t 13)), none⟩]) (.kill [6, 13] .ret))))))
def rs35 : List RS := [(.t 4)]
def nt35 : Nat := 14
def latK (xs : List Cl) (o : List Int) : Nat → Int
 | 0 => -1
 | k + 1 => if (cAt xs (o.getD k 0)).beg > latK xs o k then (cAt xs (o.getD k 0)).beg else latK xs o k
theorem latK_ge {xs : List Cl} {o : List Int} : ∀ {k a : Nat}, a < k → (cAt xs (o.getD a 0)).beg ≤ latK xs o k
 | 0, a, h => by omega
 | k + 1, a, h => by
  simp only [latK]
  by_cases e : a = k
  ·subst e; split <;> omega
  ·have := latK_ge (xs := xs) (o := o) (show a < k by omega)
   split <;> omega
theorem latK_ex {xs : List Cl} {o : List Int} : ∀ {k : Nat}, latK xs o k = -1 ∨ ∃ a, a < k ∧ latK xs o k = (cAt xs (o.getD a 0)).beg
 | 0 => Or.inl rfl
 | k + 1 => by
  simp only [latK]
  split
  ·exact Or.inr ⟨k, by omega, rfl⟩
  ·rcases latK_ex (xs := xs) (o := o) (k := k) with h | ⟨a, h1, h2⟩
   ·exact Or.inl h
   ·exact Or.inr ⟨a, by omega, h2⟩
theorem line_succ {xs : List Cl} {o : List Int} {k : Nat} (h : k < o.length) : lineO xs (o.take (k + 1)) = lineO xs (o.take k) ++ [cAt xs (o.getD k 0)] := by
 rw [take_succ' h]; simp [lineO]
theorem fin_pos {xs : List Cl} (hm : mayP xs) {n : Int} (h : 0 ≤ n ∧ n < xs.length) : (cAt xs n).fin = -1 ∨ 0 ≤ (cAt xs n).fin := by
 have h1 := hm.1.shaped n.toNat (by omega)
 simp only [shapedB, decide_eq_true_eq] at h1
 simp only [cAt]
 by_cases e : (xs.getD n.toNat cl0).fin = -1
 ·exact Or.inl e
 ·have := h1.1.2.2.2 e
  exact Or.inr (by omega)
theorem playM_sgn : ∀ (cs : List Cl) (m : MC) (i : Nat), (playM m i cs).2 = -1 ∨ 0 ≤ (playM m i cs).2
 | [], m, i => Or.inl rfl
 | c :: r, m, i => by
  simp only [playM]
  split
  ·exact playM_sgn r _ _
  ·exact Or.inr (by simp)
def stN (l : List Int) (e : Int) : Int := if e ∈ l then 1 else 0
def stF (l : List Int) (e : Nat) : List SC := [.v (.int .i64 (stN l e))]
set_option maxRecDepth 100000 in
set_option maxHeartbeats 400000 in
theorem look_calls (w : World) (v v' : Value) (xs : List Cl) (o : List Int) (hsz : xs.length * 72 ≤ 140737488355328) (h : Arr w Cl.enc 9 v xs) (h' : Arr w eI 1 v' o) : Calls Try.prog 54 #[v, v'] w (RetB w (fun _ => True) 5 (lkT (chkE xs o)) (mcR (chkM xs o))) := by
 have hlen' := Z.Arr.lenM h'
 simp only [maxLen] at hlen'
 refine enter2 (A := []) (c := ir54) (rs := rs54) (nt := nt54) cl0 cl_ok h 0 eI_ok h' [.c (.xv (0, 0, 0)), .c (.xv (1, 0, 0))] _ Try.func54 rfl (by kernel_rfl) (by kernel_rfl) rfl (fun E' h0 h1 => by simp [SV.den, SC.den, h0, h1]) (of_decide_eq_true rfl) ?_
 simp (maxSteps := 2000000) only [ir54, nt54, rs54, go_sem, ↓condS, ↓exitS, ↓gateS, ↓runOp, ↓gateD, ↓runD, ↓imp_ft, ↓imp_tf, ↓imp_tt, ↓imp_ff, ↓imp_fn, ↓imp_tn, ↓imp_fy, ↓imp_ty, ↓reduceIte, Nat.reduceLT, Nat.reduceLeDiff, Nat.reduceAdd, Nat.reduceSub, Nat.reduceMul, Nat.reduceEqDiff, reduceCtorEq, Int.reduceToNat, Int.reduceEq, Int.reduceBEq, Int.reduceBNe, Int.reduceLT, Int.reduceLE, Int.reduceNeg, Int.reduceAdd, Int.reduceSub, Int.reduceMul, Int.reduceGE, Int.reduceGT, Cl.enc, iv, endO]
 refine callV (.c (.bo (mayQ xs))) _ (fun E => rfl) (fun E a w' hs => mayW w' _ xs (arr_at (d := cl0) hs 0 rfl)) ?_
 simp (maxSteps := 2000000) only [go_sem, ↓condS, ↓exitS, ↓gateS, ↓runOp, ↓gateD, ↓runD, ↓imp_ft, ↓imp_tf, ↓imp_tt, ↓imp_ff, ↓imp_fn, ↓imp_tn, ↓imp_fy, ↓imp_ty, ↓reduceIte, Nat.reduceLT, Nat.reduceLeDiff, Nat.reduceAdd, Nat.reduceSub, Nat.reduceMul, Nat.reduceEqDiff, reduceCtorEq, Int.reduceToNat, Int.reduceEq, Int.reduceBEq, Int.reduceBNe, Int.reduceLT, Int.reduceLE, Int.reduceNeg, Int.reduceAdd, Int.reduceSub, Int.reduceMul, Int.reduceGE, Int.reduceGT, Cl.enc, iv, endO]
 refine both (fun hm => ?_) (fun hm => ?_)
 ·rw [Bool.not_eq_true'] at hm
  have e1 := chkE_may (o := o) hm
  rw [e1, chkM_0 (by rw [e1]; decide)]
  exact retB5 _ _ _ _ _ rdN_nil rdN_nil rdN_nil rdN_nil rdN_nil (lkT_ok _ _ _ _ _ 120)
 rw [Bool.not_eq_false'] at hm
 repeat (with_reducible refine And.intro (by first | (simp only [maxLen]; omega) | omega | decide | (simp; done) | (simp [maxLen]; omega)) ?_)
 refine loopI (ι := { i : Nat // i ≤ o.length ∧ IsO1 xs o i }) (fun i => ⟨136, [(0, .c (.xv (0, 0, 0))), (1, .c (.xv (1, 0, 0))), (4, .c (.ptr (2, 0, 0) 0)), (6, .c (.sl (3, 0, 0) 1 0 xs.length none)), (26, .c (.xv (1, 0, 0))), (27, .c (.v (.int .i64 o.length))), (28, .c (.v (.int .i64 (i.1 : Nat))))],
  [(2, .one (.bk nil5 70)), (3, .one (.ar xs.length 1 (stF (o.take i.1)) 3))], [(0, .one (arrOf Cl.enc 9 xs cl0)), (1, .one (arrOf eI 1 o 0))], [], 4⟩)
  (fun i => o.length - i.1) ⟨0, by omega, by simp [IsO1]⟩ ?_ ?_
 ·simp only [nil5]
  exact le_ren id rfl rfl (by simp [TmpsLe, look, SV.ren, SC.ren, SC.renL, ren1L, ren1, idσ, SV.okN, SC.okN, SC.okL, ok1L]) (by simp [OwnLe, BlkLeO, BlkLe, atN, look, Fm.get, idσ, SC.renL, SC.ren, SC.okL, SC.okN, stF, stN]) (by simp [ArrsLe, ArrLeO, atN, look, Fm.get, idσ, arrLe_of, arrLe_0]) rfl
 rintro ⟨i, hi, hg⟩
 simp (maxSteps := 2000000) only [go_sem, ↓condS, ↓exitS, ↓gateS, ↓runOp, ↓gateD, ↓runD, ↓imp_ft, ↓imp_tf, ↓imp_tt, ↓imp_ff, ↓imp_fn, ↓imp_tn, ↓imp_fy, ↓imp_ty, ↓reduceIte, Nat.reduceLT, Nat.reduceLeDiff, Nat.reduceAdd, Nat.reduceSub, Nat.reduceMul, Nat.reduceEqDiff, reduceCtorEq, Int.reduceToNat, Int.reduceEq, Int.reduceBEq, Int.reduceBNe, Int.reduceLT, Int.reduceLE, Int.reduceNeg, Int.reduceAdd, Int.reduceSub, Int.reduceMul, Int.reduceGE, Int.reduceGT, Cl.enc, iv, endO, eI, nil5]
 refine both (fun hlt => ?_) (fun hge => ?_)
 ·rw [decide_eq_true_eq] at hlt
  have hlt : i < o.length := by omega
  have hfst := fun h : IsO xs o => h.fst hlt
  have hstep := IsO1.step hg hlt
  have htk := take_succ' hlt
  generalize hn : o.getD i 0 = n at hfst hstep htk ⊢
  refine ⟨hlt, hlt, fun h => ?_, fun h => ?_, ?_⟩
  ·simp only [b_decR, b_decL, bt_ite, bf_ite, bt_dec, bf_dec, bt_int, bf_int, bt_nint, bf_nint, bt_bool, bf_bool, bt_nbool, bf_nbool, bt_not, bf_not, bt_and, bf_and, bt_or, bf_or, Bool.false_eq_true, Bool.true_eq_false, Bool.not_eq_true, Bool.not_eq_false, reduceCtorEq, false_iff, true_iff, iff_false, iff_true, and_true, true_and, and_false, false_and, or_true, true_or, or_false, false_or, not_true_eq_false, not_false_eq_true, ne_eq] at h; omega
  ·simp only [b_decR, b_decL, bt_ite, bf_ite, bt_dec, bf_dec, bt_int, bf_int, bt_nint, bf_nint, bt_bool, bf_bool, bt_nbool, bf_nbool, bt_not, bf_not, bt_and, bf_and, bt_or, bf_or, Bool.false_eq_true, Bool.true_eq_false, Bool.not_eq_true, Bool.not_eq_false, reduceCtorEq, false_iff, true_iff, iff_false, iff_true, and_true, true_and, and_false, false_and, or_true, true_or, or_false, false_or, not_true_eq_false, not_false_eq_true, ne_eq] at h; omega
  refine guardW (.c (.bo (cntB (cAt xs n)))) _ (fun E => rfl) (fun E a w' _ => counts_calls w' (cAt xs n)) ?_
  simp (maxSteps := 2000000) only [go_sem, ↓condS, ↓exitS, ↓gateS, ↓runOp, ↓gateD, ↓runD, ↓imp_ft, ↓imp_tf, ↓imp_tt, ↓imp_ff, ↓imp_fn, ↓imp_tn, ↓imp_fy, ↓imp_ty, ↓reduceIte, Nat.reduceLT, Nat.reduceLeDiff, Nat.reduceAdd, Nat.reduceSub, Nat.reduceMul, Nat.reduceEqDiff, reduceCtorEq, Int.reduceToNat, Int.reduceEq, Int.reduceBEq, Int.reduceBNe, Int.reduceLT, Int.reduceLE, Int.reduceNeg, Int.reduceAdd, Int.reduceSub, Int.reduceMul, Int.reduceGE, Int.reduceGT, Cl.enc, iv, endO, stF]
  refine ⟨fun h => ?_, fun h => ?_, fun hb => ?_, fun hb => ?_⟩
  ·cases hc : cntB (cAt xs n) <;> simp only [b_decR, b_decL, bt_ite, bf_ite, bt_dec, bf_dec, bt_int, bf_int, bt_nint, bf_nint, bt_bool, bf_bool, bt_nbool, bf_nbool, bt_not, bf_not, bt_and, bf_and, bt_or, bf_or, Bool.false_eq_true, Bool.true_eq_false, Bool.not_eq_true, Bool.not_eq_false, reduceCtorEq, false_iff, true_iff, iff_false, iff_true, and_true, true_and, and_false, false_and, or_true, true_or, or_false, false_or, not_true_eq_false, not_false_eq_true, ne_eq, hc] at h <;> omega
  ·cases hc : cntB (cAt xs n) <;> simp only [b_decR, b_decL, bt_ite, bf_ite, bt_dec, bf_dec, bt_int, bf_int, bt_nint, bf_nint, bt_bool, bf_bool, bt_nbool, bf_nbool, bt_not, bf_not, bt_and, bf_and, bt_or, bf_or, Bool.false_eq_true, Bool.true_eq_false, Bool.not_eq_true, Bool.not_eq_false, reduceCtorEq, false_iff, true_iff, iff_false, iff_true, and_true, true_and, and_false, false_and, or_true, true_or, or_false, false_or, not_true_eq_false, not_false_eq_true, ne_eq, hc] at h <;> omega
  ·have e1 : chkE xs o = 121 := chkE_ord hm (pB_f.2 fun ho => by
    obtain ⟨⟨h1, h2, h3⟩, h4⟩ := hfst ho
    rw [Int.toNat_of_nonneg h1] at hb
    simp only [b_decR, b_decL, bt_ite, bf_ite, bt_dec, bf_dec, bt_int, bf_int, bt_nint, bf_nint, bt_bool, bf_bool, bt_nbool, bf_nbool, bt_not, bf_not, bt_and, bf_and, bt_or, bf_or, Bool.false_eq_true, Bool.true_eq_false, Bool.not_eq_true, Bool.not_eq_false, reduceCtorEq, false_iff, true_iff, iff_false, iff_true, and_true, true_and, and_false, false_and, or_true, true_or, or_false, false_or, not_true_eq_false, not_false_eq_true, ne_eq, h3, stN, if_neg h4] at hb
    omega)
   rw [e1, chkM_0 (by rw [e1]; decide)]
   exact retB5 _ _ _ _ _ rdN_nil rdN_nil rdN_nil rdN_nil rdN_nil (lkT_ok _ _ _ _ _ 121)
  ·have h0 : 0 ≤ n ∧ n < xs.length ∧ cntB (cAt xs n) = true := by
    cases hc : cntB (cAt xs n) with
    | true => simp only [b_decR, b_decL, bt_ite, bf_ite, bt_dec, bf_dec, bt_int, bf_int, bt_nint, bf_nint, bt_bool, bf_bool, bt_nbool, bf_nbool, bt_not, bf_not, bt_and, bf_and, bt_or, bf_or, Bool.false_eq_true, Bool.true_eq_false, Bool.not_eq_true, Bool.not_eq_false, reduceCtorEq, false_iff, true_iff, iff_false, iff_true, and_true, true_and, and_false, false_and, or_true, true_or, or_false, false_or, not_true_eq_false, not_false_eq_true, ne_eq, hc] at hb; exact ⟨by omega, by omega, rfl⟩
    | false => simp [hc] at hb
   have h4 : n ∉ o.take i := fun hin => by
    rw [Int.toNat_of_nonneg h0.1] at hb
    simp only [b_decR, b_decL, bt_ite, bf_ite, bt_dec, bf_dec, bt_int, bf_int, bt_nint, bf_nint, bt_bool, bf_bool, bt_nbool, bf_nbool, bt_not, bf_not, bt_and, bf_and, bt_or, bf_or, Bool.false_eq_true, Bool.true_eq_false, Bool.not_eq_true, Bool.not_eq_false, reduceCtorEq, false_iff, true_iff, iff_false, iff_true, and_true, true_and, and_false, false_and, or_true, true_or, or_false, false_or, not_true_eq_false, not_false_eq_true, ne_eq, h0.2.2, stN, if_pos hin] at hb
    omega
   repeat (with_reducible refine And.intro (by first | (simp only [maxLen]; omega) | omega | decide | (simp; done) | (simp [maxLen]; omega)) ?_)
   rw [wr_succ (by omega)]
   refine backI ⟨i + 1, by omega, hstep h0 h4⟩ (by simp only; omega) (le_ren id rfl rfl (by simp [TmpsLe, look, SV.ren, SC.ren, SC.renL, ren1L, ren1, idσ, SV.okN, SC.okN, SC.okL, ok1L]) ⟨⟨of_decide_eq_true rfl, by simp [BlkLeO, BlkLe, atN, look, Fm.get, idσ, nil5, SC.renL, SC.ren, SC.okL, SC.okN]⟩, ⟨of_decide_eq_true rfl, Nat.le_refl _, rfl, rfl, fun e he => ?_⟩, trivial⟩ (by simp [ArrsLe, ArrLeO, atN, look, Fm.get, idσ, arrLe_of, arrLe_0]) rfl)
   simp only [htk, setAt, stF, SC.renL, SC.ren, SC.okL, SC.okN, and_true, drop', take', List.nil_append]
   by_cases e1 : e = n.toNat
   ·subst e1
    rw [Int.toNat_of_nonneg h0.1, if_pos rfl]
    simp [stN, h4]
    decide
   ·have e2 : ¬ (e : Int) = n := by omega
    rw [if_neg e1]
    simp [stN, e2]
 ·rw [decide_eq_false_iff_not] at hge
  have hin : i = o.length := by omega
  subst hin
  rw [List.take_length]
  refine loopI (ι := { i : Nat // i ≤ xs.length ∧ IsO2 xs o i }) (fun i => ⟨136, [(0, .c (.xv (0, 0, 0))), (1, .c (.xv (1, 0, 0))), (4, .c (.ptr (2, 0, 0) 0)), (6, .c (.sl (3, 0, 0) 1 0 xs.length none)), (63, .c (.xv (0, 0, 0))), (64, .c (.v (.int .i64 xs.length))), (65, .c (.v (.int .i64 (i.1 : Nat))))],
   [(2, .one (.bk nil5 70)), (3, .one (.ar xs.length 1 (stF o) 3))], [(0, .one (arrOf Cl.enc 9 xs cl0)), (1, .one (arrOf eI 1 o 0))], [], 4⟩)
   (fun i => xs.length - i.1) ⟨0, by omega, fun k hk => by omega⟩ ?_ ?_
  ·simp only [nil5]
   exact le_ren id rfl rfl (by simp [TmpsLe, look, SV.ren, SC.ren, SC.renL, ren1L, ren1, idσ, SV.okN, SC.okN, SC.okL, ok1L]) (by simp [OwnLe, BlkLeO, BlkLe, atN, look, Fm.get, idσ, SC.renL, SC.ren, SC.okL, SC.okN, stF]) (by simp [ArrsLe, ArrLeO, atN, look, Fm.get, idσ, arrLe_of, arrLe_0]) rfl
  rintro ⟨k, hk, hg2⟩
  simp (maxSteps := 2000000) only [go_sem, ↓condS, ↓exitS, ↓gateS, ↓runOp, ↓gateD, ↓runD, ↓imp_ft, ↓imp_tf, ↓imp_tt, ↓imp_ff, ↓imp_fn, ↓imp_tn, ↓imp_fy, ↓imp_ty, ↓reduceIte, Nat.reduceLT, Nat.reduceLeDiff, Nat.reduceAdd, Nat.reduceSub, Nat.reduceMul, Nat.reduceEqDiff, reduceCtorEq, Int.reduceToNat, Int.reduceEq, Int.reduceBEq, Int.reduceBNe, Int.reduceLT, Int.reduceLE, Int.reduceNeg, Int.reduceAdd, Int.reduceSub, Int.reduceMul, Int.reduceGE, Int.reduceGT, Cl.enc, iv, endO, nil5]
  refine both (fun hlt => ?_) (fun hge => ?_)
  ·rw [decide_eq_true_eq] at hlt
   have hlt : k < xs.length := by omega
   generalize hck : xs.getD k cl0 = ck
   repeat (with_reducible refine And.intro (by first | (simp only [maxLen]; omega) | omega | decide | (simp; done) | (simp [maxLen]; omega)) ?_)
   refine callV (.c (.bo (cntB ck))) _ (fun E => rfl) (fun E a w' _ => counts_calls w' ck) ?_
   simp (maxSteps := 2000000) only [go_sem, ↓condS, ↓exitS, ↓gateS, ↓runOp, ↓gateD, ↓runD, ↓imp_ft, ↓imp_tf, ↓imp_tt, ↓imp_ff, ↓imp_fn, ↓imp_tn, ↓imp_fy, ↓imp_ty, ↓reduceIte, Nat.reduceLT, Nat.reduceLeDiff, Nat.reduceAdd, Nat.reduceSub, Nat.reduceMul, Nat.reduceEqDiff, reduceCtorEq, Int.reduceToNat, Int.reduceEq, Int.reduceBEq, Int.reduceBNe, Int.reduceLT, Int.reduceLE, Int.reduceNeg, Int.reduceAdd, Int.reduceSub, Int.reduceMul, Int.reduceGE, Int.reduceGT, Cl.enc, iv, endO, stF]
   rw [wr_succ (by omega)]
   refine ⟨fun _ => ⟨hlt, Nat.le_refl _⟩, fun _ => hlt, fun hb => ?_, fun hb => ?_⟩
   ·have hb : (cntB ck = true ∧ ck.fin ≠ -1) ∧ stN o k = 0 := by simpa using hb
    have e1 : chkE xs o = 121 := chkE_ord hm (pB_f.2 fun ho => by
     have := ho.all k hlt (by rw [hck]; exact hb.1.1) (by rw [hck]; exact hb.1.2)
     have h2 := hb.2
     simp [stN, this] at h2)
    rw [e1, chkM_0 (by rw [e1]; decide)]
    exact retB5 _ _ _ _ _ rdN_nil rdN_nil rdN_nil rdN_nil rdN_nil (lkT_ok _ _ _ _ _ 121)
   ·refine backI ⟨k + 1, by omega, fun j hj h1 h2 => ?_⟩ (by simp only; omega) (le_ren id rfl rfl (by simp [TmpsLe, look, SV.ren, SC.ren, SC.renL, ren1L, ren1, idσ, SV.okN, SC.okN, SC.okL, ok1L]) (by simp [OwnLe, BlkLeO, BlkLe, atN, look, Fm.get, idσ, nil5, SC.renL, SC.ren, SC.okL, SC.okN, stF]) (by simp [ArrsLe, ArrLeO, atN, look, Fm.get, idσ, arrLe_of, arrLe_0]) rfl)
    by_cases e : j = k
    ·subst e
     rw [hck] at h1 h2
     by_cases hin : (j : Int) ∈ o
     ·exact hin
     ·simp [h1, h2, stN, hin] at hb
    ·exact hg2 j (by omega) h1 h2
  ·rw [decide_eq_false_iff_not] at hge
   have hkn : k = xs.length := by omega
   subst hkn
   have hO : IsO xs o := by
    have hg1 := hg
    unfold IsO1 at hg1
    rw [List.take_length] at hg1
    exact ⟨hg1.1, hg1.2, hg2⟩
   have ho := pB_t.2 hO
   have hl := hO.len
   refine loopI (ι := { i : Nat // i ≤ o.length ∧ InT1 xs o i }) (fun i => ⟨136, [(0, .c (.xv (0, 0, 0))), (4, .c (.ptr (2, 0, 0) 0)), (11, .c (.sl (3, 0, 0) 9 0 (lineO xs (o.take i.1)).length none)), (12, .c (.v (.int .i64 (latK xs o i.1)))), (86, .c (.xv (1, 0, 0))), (87, .c (.v (.int .i64 o.length))), (88, .c (.v (.int .i64 (i.1 : Nat))))],
    [(2, .one (.bk nil5 70)), (3, .one (.ar (lineO xs (o.take i.1)).length 9 (ats Cl.enc (lineO xs (o.take i.1)) cl0) 53))], [(0, .one (arrOf Cl.enc 9 xs cl0)), (1, .one (arrOf eI 1 o 0))], [], 4⟩)
    (fun i => o.length - i.1) ⟨0, by omega, fun a b _ hb => by omega⟩ ?_ ?_
   ·refine le_tr (le_nilown (tmps' := [(0, .c (.xv (0, 0, 0))), (4, .c (.ptr (2, 0, 0) 0)), (11, .c (.sl (4, 0, 0) 9 0 0 none)), (12, .c (.v (.int .i64 (-1)))), (86, .c (.xv (1, 0, 0))), (87, .c (.v (.int .i64 o.length))), (88, .c (.v (.int .i64 0)))]) 9 53 (ats Cl.enc [] cl0) (by simp [TmpsNil, look]) rfl) ?_
    exact le_ren (fun i => if i = 3 then 4 else i) rfl rfl (by simp [TmpsLe, look, SV.ren, SC.ren, idσ, SV.okN, SC.okN, lineO, latK]) (by simp [OwnLe, BlkLeO, BlkLe, atN, look, Fm.get, idσ, nil5, SC.renL, SC.ren, SC.okL, SC.okN, lineO]) (by simp [ArrsLe, ArrLeO, atN, look, Fm.get, idσ, arrLe_of, arrLe_0]) rfl
   rintro ⟨i, hi, hgi⟩
   have hll : (lineO xs (o.take i)).length = i := by rw [line_len, List.length_take]; omega
   simp (maxSteps := 2000000) only [go_sem, ↓condS, ↓exitS, ↓gateS, ↓runOp, ↓gateD, ↓runD, ↓imp_ft, ↓imp_tf, ↓imp_tt, ↓imp_ff, ↓imp_fn, ↓imp_tn, ↓imp_fy, ↓imp_ty, ↓reduceIte, Nat.reduceLT, Nat.reduceLeDiff, Nat.reduceAdd, Nat.reduceSub, Nat.reduceMul, Nat.reduceEqDiff, reduceCtorEq, Int.reduceToNat, Int.reduceEq, Int.reduceBEq, Int.reduceBNe, Int.reduceLT, Int.reduceLE, Int.reduceNeg, Int.reduceAdd, Int.reduceSub, Int.reduceMul, Int.reduceGE, Int.reduceGT, Cl.enc, iv, endO, nil5, eI]
   refine both (fun hlt => ?_) (fun hge => ?_)
   ·rw [decide_eq_true_eq] at hlt
    have hlt : i < o.length := by omega
    have hon := hO.ok _ (getD_mem (d := 0) hlt)
    have hfp := fin_pos (mayQ_iff.1 hm) ⟨hon.1, hon.2.1⟩
    have hls := line_succ (xs := xs) hlt
    repeat (with_reducible refine And.intro (by first | (simp only [maxLen]; omega) | omega | decide | (simp; done) | (simp [maxLen]; omega)) ?_)
    change ((if ((cAt xs (o.getD i 0)).fin != -1) = true then decide ((cAt xs (o.getD i 0)).fin < latK xs o i) else false) = true → _) ∧ ((if ((cAt xs (o.getD i 0)).fin != -1) = true then decide ((cAt xs (o.getD i 0)).fin < latK xs o i) else false) = false → _)
    refine both (fun hb => ?_) (fun hb => ?_)
    ·have hb : (cAt xs (o.getD i 0)).fin ≠ -1 ∧ (cAt xs (o.getD i 0)).fin < latK xs o i := by simpa using hb
     have e1 : chkE xs o = 122 := chkE_tim hm ho (pB_f.2 fun ht => by
      rw [inT_iff] at ht
      rcases latK_ex (xs := xs) (o := o) (k := i) with e | ⟨a, h1, h2⟩
      ·have := hfp; omega
      ·have := ht a i h1 hlt
       simp only [aheadB] at this
       rw [if_pos (by simpa using hb.1)] at this
       simp only [decide_eq_false_iff_not] at this
       omega)
     rw [e1, chkM_0 (by rw [e1]; decide)]
     exact retB5 _ _ _ _ _ rdN_nil rdN_nil rdN_nil rdN_nil rdN_nil (lkT_ok _ _ _ _ _ 122)
    ·have hf := fit_app ((lineO xs (o.take i)).length + 1) (by rw [hll]; omega)
     have hml : (lineO xs (o.take i)).length + 1 ≤ maxLen := by rw [hll]; simp only [maxLen]; omega
     refine And.intro ⟨hon.1, hon.2.1⟩ (And.intro (by omega) (And.intro (by omega) (And.intro ⟨hon.1, hon.2.1⟩ (And.intro (by omega) (And.intro (by decide) (And.intro ⟨Nat.le_refl _, hf, hml⟩ ?_))))))
     clear hf hml
     rw [wr_succ (by omega)]
     have hlat : latK xs o (i + 1) = if (cAt xs (o.getD i 0)).beg > latK xs o i then (cAt xs (o.getD i 0)).beg else latK xs o i := rfl
     refine backI ⟨i + 1, by omega, fun a b hab hbi => ?_⟩ (by simp only; omega) (le_ren (fun i => if i = 3 then 6 else i) rfl rfl (by simp [TmpsLe, look, SV.ren, SC.ren, SC.renL, idσ, SV.okN, SC.okN, hlat, hls, cAt]) ⟨⟨of_decide_eq_true rfl, by simp [BlkLeO, BlkLe, atN, look, Fm.get, idσ, nil5, SC.renL, SC.ren, SC.okL, SC.okN]⟩, ⟨of_decide_eq_true rfl, arLe_of (by simp [hls]) (ats_push hls rfl (fun e he => rfl) rfl)⟩, trivial⟩ (by simp [ArrsLe, ArrLeO, atN, look, Fm.get, idσ, arrLe_of, arrLe_0]) rfl)
     by_cases e : b = i
     ·subst e
      simp only [aheadB]
      split
      ·next hne =>
       rw [if_pos (by simpa using hne), decide_eq_false_iff_not] at hb
       have := latK_ge (xs := xs) (o := o) hab
       simp only [decide_eq_false_iff_not]
       omega
      ·rfl
     ·exact hgi a b hab (by omega)
   ·rw [decide_eq_false_iff_not] at hge
    have hin : i = o.length := by omega
    subst hin
    rw [List.take_length]
    have ht := pB_t.2 (inT_iff.2 hgi)
    have hops : ∀ k, k < (lineO xs o).length → objOf ((lineO xs o).getD k cl0).op ≠ 0 := fun k hk => by
     rw [line_len] at hk
     rw [line_at hk]
     have := (hO.ok _ (getD_mem (d := 0) hk)).2.2
     simpa [cntB] using this
    have hpl : ∀ {E : Env} {S : St} {a : Act} {w' : World} {C : Ctx}, Sat C.B C.W C.w0 E S a w' → look S.own 3 = some (.one (.ar (lineO xs o).length 9 (ats Cl.enc (lineO xs o) cl0) 53)) →
     Calls Try.prog 71 #[.agg #[.slice none 0 0, .slice none 0 0, .slice none 0 0, .slice none 0 0, .slice none 0 0], (SC.sl (3, 0, 0) 9 0 (lineO xs o).length none).den E] w' (RetB w' (fun _ => True) 5 (plT (playM mc0 0 (lineO xs o))) (mcR (playM mc0 0 (lineO xs o)).1)) := fun {E S a w' C} hs h5 =>
     play_Z (w := w') (N := xs.length) (cont_0 w') (by simp [MC.upto, mc0]) (by omega) mc0_may (own_at (d := cl0) hs 3 (lineO xs o).length h5 rfl) (by rw [line_len]; exact hl) hops
    have e1 := chkE_pl hm ho ht
    have e2 := chkM_pl hm ho ht
    have hsg := playM_sgn (lineO xs o) mc0 0
    rw [e1, e2]
    generalize playM mc0 0 (lineO xs o) = p at hpl hsg ⊢
    obtain ⟨m', q⟩ := p
    simp only at hsg
    refine callL 5 (plT (m', q)) (mcR m') (mcR_sz m') (fun E a w' hs => by
     have := hpl hs rfl
     show Calls Try.prog _ _ _ _
     simpa [SV.den, SC.den] using this) ?_
    simp (maxSteps := 2000000) only [go_sem, ↓condS, ↓exitS, ↓gateS, ↓runOp, ↓gateD, ↓runD, ↓imp_ft, ↓imp_tf, ↓imp_tt, ↓imp_ff, ↓imp_fn, ↓imp_tn, ↓imp_fy, ↓imp_ty, ↓reduceIte, Nat.reduceLT, Nat.reduceLeDiff, Nat.reduceAdd, Nat.reduceSub, Nat.reduceMul, Nat.reduceEqDiff, reduceCtorEq, Int.reduceToNat, Int.reduceEq, Int.reduceBEq, Int.reduceBNe, Int.reduceLT, Int.reduceLE, Int.reduceNeg, Int.reduceAdd, Int.reduceSub, Int.reduceMul, Int.reduceGE, Int.reduceGT, Cl.enc, iv, endO, plT, mcS, low_mcR, mcA, mkC_B]
    by_cases hq : q = -1
    ·subst hq
     refine both (fun hb => ?_) (fun hb => ?_)
     ·simp at hb
     simp only [plM, if_true]
     exact retB5 _ _ _ _ _ (rdN_lo 4 rfl (Nat.le_refl _)) (rdN_lo 5 rfl (Nat.le_refl _)) (rdN_lo 6 rfl (Nat.le_refl _)) (rdN_lo 7 rfl (Nat.le_refl _)) (rdN_lo 8 rfl (Nat.le_refl _)) (lkT_ok _ _ _ _ _ 0)
    ·refine both (fun hb => ?_) (fun hb => ?_)
     ·simp only [plM, if_neg hq]
      exact retB5 _ _ _ _ _ rdN_nil rdN_nil rdN_nil rdN_nil rdN_nil (lkT_ok _ _ _ _ _ 123)
     ·simp at hb
      omega
def E3 (v0 v1 v2 : Value) : Env := ⟨fun _ => 0, fun _ => 0, fun _ => false, fun x => if x.1 = 2 then v2 else if x.1 = 1 then v1 else v0⟩
set_option maxRecDepth 100000 in
set_option maxHeartbeats 400000 in
theorem check_calls (w : World) (v v' : Value) (xs : List Cl) (o : List Int) (hsz : xs.length * 72 ≤ 140737488355328) (h : Arr w Cl.enc 9 v xs) (h' : Arr w eI 1 v' o) : Calls Try.prog 35 #[v, v'] w (RetV w (.int .i64 (chkE xs o))) := by
 refine enter2 (A := []) (c := ir35) (rs := rs35) (nt := nt35) cl0 cl_ok h 0 eI_ok h' [.c (.xv (0, 0, 0)), .c (.xv (1, 0, 0))] _ Try.func35 rfl (by kernel_rfl) (by kernel_rfl) rfl (fun E' h0 h1 => by simp [SV.den, SC.den, h0, h1]) (of_decide_eq_true rfl) ?_
 simp (maxSteps := 2000000) only [ir35, nt35, rs35, go_sem, ↓condS, ↓exitS, ↓gateS, ↓runOp, ↓gateD, ↓runD, ↓imp_ft, ↓imp_tf, ↓imp_tt, ↓imp_ff, ↓imp_fn, ↓imp_tn, ↓imp_fy, ↓imp_ty, ↓reduceIte, Nat.reduceLT, Nat.reduceLeDiff, Nat.reduceAdd, Nat.reduceSub, Nat.reduceMul, Nat.reduceEqDiff, reduceCtorEq, Int.reduceToNat, Int.reduceEq, Int.reduceBEq, Int.reduceBNe, Int.reduceLT, Int.reduceLE, Int.reduceNeg, Int.reduceAdd, Int.reduceSub, Int.reduceMul, Int.reduceGE, Int.reduceGT, Cl.enc, iv, endO]
 refine callB 5 (lkT (chkE xs o)) (mcR (chkM xs o)) (fun E a w' hs => look_calls w' _ _ xs o hsz (arr_at (d := cl0) hs 0 rfl) (arr_at (d := 0) hs 1 rfl)) ?_
 simp (maxSteps := 2000000) only [go_sem, ↓condS, ↓exitS, ↓gateS, ↓runOp, ↓gateD, ↓runD, ↓imp_ft, ↓imp_tf, ↓imp_tt, ↓imp_ff, ↓imp_fn, ↓imp_tn, ↓imp_fy, ↓imp_ty, ↓reduceIte, Nat.reduceLT, Nat.reduceLeDiff, Nat.reduceAdd, Nat.reduceSub, Nat.reduceMul, Nat.reduceEqDiff, reduceCtorEq, Int.reduceToNat, Int.reduceEq, Int.reduceBEq, Int.reduceBNe, Int.reduceLT, Int.reduceLE, Int.reduceNeg, Int.reduceAdd, Int.reduceSub, Int.reduceMul, Int.reduceGE, Int.reduceGT, Cl.enc, iv, endO, lkT, mcS, mcR, mcA]
 exact retV fun E => by rw [den_c, den_v]
end Go.Proofs.Ytkjeedlkkpgopaa.Z
