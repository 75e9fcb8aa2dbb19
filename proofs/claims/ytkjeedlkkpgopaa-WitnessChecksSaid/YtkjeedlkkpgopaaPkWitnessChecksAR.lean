/- WitnessChecksSaid: what its proof is made of. No condition. -/
import Derived.Test.YtkjeedlkkpgopaaPkWitnessChecksAQ
set_option linter.unusedSimpArgs false
set_option linter.unusedVariables false
namespace Go.Proofs.Ytkjeedlkkpgopaa.Z
open Go Go.RowKit
def cAt (xs : List Cl) (i : Int) : Cl := xs.getD i.toNat cl0
def cntB (c : Cl) : Bool := objOf c.op != 0
structure IsO (xs : List Cl) (o : List Int) : Prop where
 ok : ∀ n ∈ o, 0 ≤ n ∧ n < xs.length ∧ cntB (cAt xs n) = true
 nodup : o.Nodup
 all : ∀ i : Nat, i < xs.length → cntB (xs.getD i cl0) = true → (xs.getD i cl0).fin ≠ -1 → (i : Int) ∈ o
def InT (xs : List Cl) (o : List Int) : Prop := o.Pairwise fun a b => aheadB (cAt xs b) (cAt xs a) = false
def lineO (xs : List Cl) (o : List Int) : List Cl := o.map (cAt xs)
noncomputable def pB (p : Prop) : Bool := @decide p (Classical.propDecidable _)
theorem pB_t {p : Prop} : pB p = true ↔ p := by unfold pB; simp
theorem pB_f {p : Prop} : pB p = false ↔ ¬ p := by unfold pB; simp
noncomputable def chkE (xs : List Cl) (o : List Int) : Int := if pB (mayP xs) = true then (if pB (IsO xs o) = true then (if pB (InT xs o) = true then (if (playM mc0 0 (lineO xs o)).2 = -1 then 0 else 123) else 122) else 121) else 120
noncomputable def chkM (xs : List Cl) (o : List Int) : MC := if chkE xs o = 0 then (playM mc0 0 (lineO xs o)).1 else mc0
theorem mayQ_pB (xs : List Cl) : mayQ xs = pB (mayP xs) := rfl
theorem nodup_len {n : Nat} : ∀ {o : List Int}, o.Nodup → (∀ x ∈ o, 0 ≤ x ∧ x < n) → o.length ≤ n := by
 intro o hn hs
 have h1 := len_sub' (o := o) (c := (List.range n).map fun (i : Nat) => (i : Int)) hn fun i hi => by
  obtain ⟨h1, h2⟩ := hs i hi
  exact List.mem_map.2 ⟨i.toNat, List.mem_range.2 (by omega), by omega⟩
 simpa using h1
theorem IsO.len {xs : List Cl} {o : List Int} (h : IsO xs o) : o.length ≤ xs.length := nodup_len h.nodup fun x hx => ⟨(h.ok x hx).1, (h.ok x hx).2.1⟩
theorem getD_mem {α : Type} {l : List α} {i : Nat} {d : α} (h : i < l.length) : l.getD i d ∈ l := by rw [List.getD_eq_getElem?_getD, List.getElem?_eq_getElem h]; exact List.getElem_mem h
def ir72 : IR := (.seq (.ops [⟨(some 4), (.mv (.k (.c (.v (.bool false))))), none⟩]) (.kill [2, 3, 4, 5, 6, 7, 8, 9, 10, 11] (.seq (.seq (.ops [⟨(some 5), (.mv (.k (.c (.v (.int .i64 0))))), none⟩]) (.blk 0 (.loop (.seq (.seq (.ops [⟨(some 6), (.mv (.t 5)), none⟩, ⟨(some 7), (.mv (.t 0)), none⟩, ⟨(some 8), (.len (.t 7)), none⟩, ⟨(some 9), (.bin .lss (.t 6) (.t 8)), none⟩]) (.kill [4, 6, 7, 8, 10, 11, 12, 13, 14, 15, 16, 17] (.cond (.t 9) .skip (.exit 0)))) (.kill [9] (.seq (.blk 1 (.seq (.ops [⟨(some 12), (.mv (.t 0)), none⟩, ⟨(some 13), (.mv (.t 5)), none⟩, ⟨(some 14), (.ia 1 (.t 12) (.t 13)), none⟩, ⟨(some 15), (.ld false 1 (.t 14)), none⟩, ⟨(some 16), (.mv (.t 1)), none⟩, ⟨(some 17), (.bin .eql (.t 15) (.t 16)), none⟩]) (.kill [12, 13, 14, 15, 16] (.cond (.t 17) (.seq (.ops [⟨(some 4), (.mv (.k (.c (.v (.bool true))))), none⟩]) (.kill [0, 1, 5, 17] .ret)) .skip)))) (.kill [4, 12, 13, 14, 15, 16, 17] (.ops [⟨(some 10), (.mv (.t 5)), none⟩, ⟨(some 11), (.bin .add (.t 10) (.k (.c (.v (.int .i64 1))))), none⟩, ⟨(some 5), (.mv (.t 11)), none⟩])))))))) (.kill [0, 1, 4, 5, 6, 7, 8, 9, 10, 11, 12, 13, 14, 15, 16, 17] (.seq (.ops [⟨(some 4), (.mv (.k (.c (.v (.bool false))))), none⟩]) .ret)))))
def rs72 : List RS := [(.t 4)]
def nt72 : Nat := 18
def ir55 : IR := (.seq (.ops [⟨(some 4), (.mv (.k (.c (.v (.bool false))))), none⟩]) (.kill [2, 3, 4, 5, 6, 7, 8, 9, 10, 11] (.seq (.seq (.ops [⟨(some 5), (.mv (.k (.c (.v (.int .i64 0))))), none⟩]) (.blk 0 (.loop (.seq (.seq (.ops [⟨(some 8), (.mv (.t 5)), none⟩, ⟨(some 9), (.mv (.t 1)), none⟩, ⟨(some 10), (.len (.t 9)), none⟩, ⟨(some 11), (.bin .lss (.t 8) (.t 10)), none⟩]) (.kill [4, 6, 8, 9, 10, 12, 13, 14, 15, 16, 17, 18, 19, 20, 21, 22, 23, 24, 25, 26, 27, 28, 29, 30, 31, 32, 33, 34, 35, 36, 37, 38, 39, 40] (.cond (.t 11) .skip (.exit 0)))) (.kill [11] (.seq (.blk 1 (.seq (.ops [⟨(some 14), (.mv (.t 1)), none⟩, ⟨(some 15), (.mv (.t 5)), none⟩, ⟨(some 16), (.ia 1 (.t 14) (.t 15)), none⟩, ⟨(some 17), (.ld false 1 (.t 16)), none⟩, ⟨(some 6), (.mv (.t 17)), none⟩]) (.kill [14, 15, 16, 17] (.seq (.ops [⟨(some 18), (.mv (.t 6)), none⟩, ⟨(some 19), (.bin .lss (.t 18) (.k (.c (.v (.int .i64 0))))), none⟩, ⟨(some 20), (.mv (.t 19)), none⟩, ⟨(some 21), (.mv (.t 6)), (some (20, false))⟩, ⟨(some 22), (.mv (.t 0)), (some (20, false))⟩, ⟨(some 23), (.len (.t 22)), (some (20, false))⟩, ⟨(some 24), (.bin .geq (.t 21) (.t 23)), (some (20, false))⟩, ⟨(some 25), (.pick (.t 20) (.k (.c (.v (.bool true)))) (.t 24)), none⟩, ⟨(some 26), (.mv (.t 25)), none⟩, ⟨(some 27), (.mv (.t 0)), (some (26, false))⟩, ⟨(some 28), (.mv (.t 6)), (some (26, false))⟩, ⟨(some 29), (.ia 9 (.t 27) (.t 28)), (some (26, false))⟩, ⟨(some 30), (.ld true 9 (.t 29)), (some (26, false))⟩, ⟨(some 31), (.call 45 [(.t 30)]), (some (26, false))⟩, ⟨(some 32), (.un .not (.t 31)), (some (26, false))⟩, ⟨(some 33), (.pick (.t 26) (.k (.c (.v (.bool true)))) (.t 32)), none⟩, ⟨(some 34), (.mv (.t 33)), none⟩, ⟨(some 35), (.mv (.t 1)), (some (34, false))⟩, ⟨(some 36), (.mv (.t 5)), (some (34, false))⟩, ⟨(some 37), (.slc 1 (.t 35) none (some (.t 36)) none), (some (34, false))⟩, ⟨(some 38), (.mv (.t 6)), (some (34, false))⟩, ⟨(some 39), (.call 72 [(.t 37), (.t 38)]), (some (34, false))⟩, ⟨(some 40), (.pick (.t 34) (.k (.c (.v (.bool true)))) (.t 39)), none⟩]) (.kill [6, 18, 19, 20, 21, 22, 23, 24, 25, 26, 27, 28, 29, 30, 31, 32, 33, 34, 35, 36, 37, 38, 39] (.cond (.t 40) (.seq (.ops [⟨(some 4), (.mv (.k (.c (.v (.bool false))))), none⟩]) (.kill [0, 1, 5, 40] .ret)) .skip)))))) (.kill [4, 6, 14, 15, 16, 17, 18, 19, 20, 21, 22, 23, 24, 25, 26, 27, 28, 29, 30, 31, 32, 33, 34, 35, 36, 37, 38, 39, 40] (.ops [⟨(some 12), (.mv (.t 5)), none⟩, ⟨(some 13), (.bin .add (.t 12) (.k (.c (.v (.int .i64 1))))), none⟩, ⟨(some 5), (.mv (.t 13)), none⟩])))))))) (.kill [4, 5, 6, 8, 9, 10, 11, 12, 13, 14, 15, 16, 17, 18, 19, 20, 21, 22, 23, 24, 25, 26, 27, 28, 29, 30, 31, 32, 33, 34, 35, 36, 37, 38, 39, 40] (.seq (.seq (.ops [⟨(some 7), (.mv (.k (.c (.v (.int .i64 0))))), none⟩]) (.blk 2 (.loop (.seq (.seq (.ops [⟨(some 41), (.mv (.t 7)), none⟩, ⟨(some 42), (.mv (.t 0)), none⟩, ⟨(some 43), (.len (.t 42)), none⟩, ⟨(some 44), (.bin .lss (.t 41) (.t 43)), none⟩]) (.kill [4, 41, 42, 43, 45, 46, 47, 48, 49, 50, 51, 52, 53, 54, 55, 56, 57, 58, 59, 60, 61, 62, 63, 64, 65] (.cond (.t 44) .skip (.exit 2)))) (.kill [44] (.seq (.blk 3 (.seq (.ops [⟨(some 47), (.mv (.t 0)), none⟩, ⟨(some 48), (.mv (.t 7)), none⟩, ⟨(some 49), (.ia 9 (.t 47) (.t 48)), none⟩, ⟨(some 50), (.ld true 9 (.t 49)), none⟩, ⟨(some 51), (.call 45 [(.t 50)]), none⟩, ⟨(some 52), (.mv (.t 51)), none⟩, ⟨(some 53), (.mv (.t 0)), (some (52, true))⟩, ⟨(some 54), (.mv (.t 7)), (some (52, true))⟩, ⟨(some 55), (.ia 9 (.t 53) (.t 54)), (some (52, true))⟩, ⟨(some 56), (.fa 5 (.t 55)), (some (52, true))⟩, ⟨(some 57), (.ld false 1 (.t 56)), (some (52, true))⟩, ⟨(some 58), (.bin .neq (.t 57) (.k (.c (.v (.int .i64 (-1)))))), (some (52, true))⟩, ⟨(some 59), (.pick (.t 52) (.t 58) (.k (.c (.v (.bool false))))), none⟩, ⟨(some 60), (.mv (.t 59)), none⟩, ⟨(some 61), (.mv (.t 1)), (some (60, true))⟩, ⟨(some 62), (.mv (.t 7)), (some (60, true))⟩, ⟨(some 63), (.call 72 [(.t 61), (.t 62)]), (some (60, true))⟩, ⟨(some 64), (.un .not (.t 63)), (some (60, true))⟩, ⟨(some 65), (.pick (.t 60) (.t 64) (.k (.c (.v (.bool false))))), none⟩]) (.kill [47, 48, 49, 50, 51, 52, 53, 54, 55, 56, 57, 58, 59, 60, 61, 62, 63, 64] (.cond (.t 65) (.seq (.ops [⟨(some 4), (.mv (.k (.c (.v (.bool false))))), none⟩]) (.kill [0, 1, 7, 65] .ret)) .skip)))) (.kill [4, 47, 48, 49, 50, 51, 52, 53, 54, 55, 56, 57, 58, 59, 60, 61, 62, 63, 64, 65] (.ops [⟨(some 45), (.mv (.t 7)), none⟩, ⟨(some 46), (.bin .add (.t 45) (.k (.c (.v (.int .i64 1))))), none⟩, ⟨(some 7), (.mv (.t 46)), none⟩])))))))) (.kill [0, 1, 4, 7, 41, 42, 43, 44, 45, 46, 47, 48, 49, 50, 51, 52, 53, 54, 55, 56, 57, 58, 59, 60, 61, 62, 63, 64, 65] (.seq (.ops [⟨(some 4), (.mv (.k (.c (.v (.bool true))))), none⟩]) .ret)))))))
def rs55 : List RS := [(.t 4)]
def nt55 : Nat := 66
def ir56 : IR := (.seq (.ops [⟨(some 4), (.mv (.k (.c (.v (.bool false))))), none⟩]) (.kill [2, 3, 4, 5, 6, 7, 8, 9, 10, 11] (.seq (.seq (.ops [⟨(some 5), (.mv (.k (.c (.v (.int .i64 0))))), none⟩]) (.blk 0 (.loop (.seq (.seq (.ops [⟨(some 7), (.mv (.t 5)), none⟩, ⟨(some 8), (.mv (.t 1)), none⟩, ⟨(some 9), (.len (.t 8)), none⟩, ⟨(some 10), (.bin .lss (.t 7) (.t 9)), none⟩]) (.kill [4, 6, 7, 8, 9, 11, 12, 13, 14, 15, 16, 17, 18, 19, 20, 21, 22, 23, 24, 25, 26, 27] (.cond (.t 10) .skip (.exit 0)))) (.kill [10] (.seq (.blk 1 (.seq (.ops [⟨(some 6), (.mv (.k (.c (.v (.int .i64 0))))), none⟩]) (.blk 2 (.loop (.seq (.seq (.ops [⟨(some 13), (.mv (.t 6)), none⟩, ⟨(some 14), (.mv (.t 5)), none⟩, ⟨(some 15), (.bin .lss (.t 13) (.t 14)), none⟩]) (.kill [4, 13, 14, 16, 17, 18, 19, 20, 21, 22, 23, 24, 25, 26, 27] (.cond (.t 15) .skip (.exit 2)))) (.kill [15] (.seq (.blk 3 (.seq (.draw [(⟨(some 18), (.mv (.t 0)), none⟩, ([], [19, 20, 21, 22, 23, 24, 25, 26])), (⟨(some 19), (.mv (.t 1)), none⟩, ([0], [18, 20, 23, 24, 25, 26])), (⟨(some 20), (.mv (.t 5)), none⟩, ([0, 1], [18, 19, 23, 24, 25, 26])), (⟨(some 21), (.ia 1 (.t 19) (.t 20)), none⟩, ([0], [18, 23, 24, 25, 26])), (⟨(some 22), (.ld false 1 (.t 21)), none⟩, ([0], [18, 23, 24, 25, 26])), (⟨(some 23), (.mv (.t 1)), none⟩, ([0, 1, 2, 3, 4], [18, 19, 20, 21, 22, 24])), (⟨(some 24), (.mv (.t 6)), none⟩, ([0, 1, 2, 3, 4, 5], [18, 19, 20, 21, 22, 23])), (⟨(some 25), (.ia 1 (.t 23) (.t 24)), none⟩, ([0, 1, 2, 3, 4], [18, 19, 20, 21, 22])), (⟨(some 26), (.ld false 1 (.t 25)), none⟩, ([0, 1, 2, 3, 4], [18, 19, 20, 21, 22])), (⟨(some 27), (.call 41 [(.t 18), (.t 22), (.t 26)]), none⟩, ([], []))]) (.kill [18, 19, 20, 21, 22, 23, 24, 25, 26] (.cond (.t 27) (.seq (.ops [⟨(some 4), (.mv (.k (.c (.v (.bool false))))), none⟩]) (.kill [0, 1, 5, 6, 27] .ret)) .skip)))) (.kill [4, 18, 19, 20, 21, 22, 23, 24, 25, 26, 27] (.ops [⟨(some 16), (.mv (.t 6)), none⟩, ⟨(some 17), (.bin .add (.t 16) (.k (.c (.v (.int .i64 1))))), none⟩, ⟨(some 6), (.mv (.t 17)), none⟩]))))))))) (.kill [4, 6, 13, 14, 15, 16, 17, 18, 19, 20, 21, 22, 23, 24, 25, 26, 27] (.ops [⟨(some 11), (.mv (.t 5)), none⟩, ⟨(some 12), (.bin .add (.t 11) (.k (.c (.v (.int .i64 1))))), none⟩, ⟨(some 5), (.mv (.t 12)), none⟩])))))))) (.kill [0, 1, 4, 5, 6, 7, 8, 9, 10, 11, 12, 13, 14, 15, 16, 17, 18, 19, 20, 21, 22, 23, 24, 25, 26, 27] (.seq (.ops [⟨(some 4), (.mv (.k (.c (.v (.bool true))))), none⟩]) .ret)))))
def rs56 : List RS := [(.t 4)]
def nt56 : Nat := 28
set_option maxRecDepth 100000 in
set_option maxHeartbeats 400000 in
theorem has_calls (w : World) (v : Value) (l : List Int) (n : Int) (h : Arr w eI 1 v l) : Calls Try.prog 72 #[v, .int .i64 n] w (RetV w (.bool (decide (n ∈ l)))) := by
 have hlen := Z.Arr.lenM h
 simp only [maxLen] at hlen
 refine enter1 (A := []) (c := ir72) (rs := rs72) (nt := nt72) 0 eI_ok h [.c (.xv (0, 0, 0)), iA n] _ Try.func72 rfl (by kernel_rfl) (by kernel_rfl) rfl (fun E' h0 => by simp [SV.den, SC.den, iA, h0]) (of_decide_eq_true rfl) ?_
 simp (maxSteps := 2000000) only [ir72, nt72, rs72, go_sem, ↓condS, ↓exitS, ↓gateS, ↓runOp, ↓gateD, ↓runD, ↓imp_ft, ↓imp_tf, ↓imp_tt, ↓imp_ff, ↓imp_fn, ↓imp_tn, ↓imp_fy, ↓imp_ty, ↓reduceIte, Nat.reduceLT, Nat.reduceLeDiff, Nat.reduceAdd, Nat.reduceSub, Nat.reduceMul, Nat.reduceEqDiff, reduceCtorEq, Int.reduceToNat, Int.reduceEq, Int.reduceBEq, Int.reduceBNe, Int.reduceLT, Int.reduceLE, Int.reduceNeg, Int.reduceAdd, Int.reduceSub, Int.reduceMul, Int.reduceGE, Int.reduceGT, Cl.enc, iv, endO, iA]
 refine loopI (ι := { i : Nat // i ≤ l.length ∧ ∀ k, k < i → l.getD k 0 ≠ n }) (fun i => ⟨18, [(0, .c (.xv (0, 0, 0))), (1, .c (.v (.int .i64 n))), (5, .c (.v (.int .i64 (i.1 : Nat))))], [], [(0, .one (arrOf eI 1 l 0))], [], 1⟩)
  (fun i => l.length - i.1) ⟨0, by omega, fun k hk => by omega⟩ (le_tmps (by simp [TmpsSub, look])) ?_
 rintro ⟨i, hi, hg⟩
 simp (maxSteps := 2000000) only [go_sem, ↓condS, ↓exitS, ↓gateS, ↓runOp, ↓gateD, ↓runD, ↓imp_ft, ↓imp_tf, ↓imp_tt, ↓imp_ff, ↓imp_fn, ↓imp_tn, ↓imp_fy, ↓imp_ty, ↓reduceIte, Nat.reduceLT, Nat.reduceLeDiff, Nat.reduceAdd, Nat.reduceSub, Nat.reduceMul, Nat.reduceEqDiff, reduceCtorEq, Int.reduceToNat, Int.reduceEq, Int.reduceBEq, Int.reduceBNe, Int.reduceLT, Int.reduceLE, Int.reduceNeg, Int.reduceAdd, Int.reduceSub, Int.reduceMul, Int.reduceGE, Int.reduceGT, Cl.enc, iv, endO, eI]
 refine both (fun hlt => ?_) (fun hge => ?_)
 ·rw [decide_eq_true_eq] at hlt
  have hlt : i < l.length := by omega
  repeat (with_reducible refine And.intro (by first | (simp only [maxLen]; omega) | omega | decide | (simp; done) | (simp [maxLen]; omega)) ?_)
  refine both (fun he => ?_) (fun hne => ?_)
  ·refine retV fun E => ?_
   rw [den_c, den_v, Value.bool.injEq, eq_comm, decide_eq_true_eq]
   have : l.getD i 0 = n := by simpa using he
   exact this ▸ getD_mem hlt
  ·rw [wr_succ (by omega)]
   refine backI ⟨i + 1, by omega, fun k hk => ?_⟩ (by simp only; omega) (le_tmps (by simp [TmpsSub, look]))
   by_cases e : k = i
   ·subst e; simpa using hne
   ·exact hg k (by omega)
 ·rw [decide_eq_false_iff_not] at hge
  refine retV fun E => ?_
  rw [den_c, den_v, Value.bool.injEq, eq_comm, decide_eq_false_iff_not]
  intro hm
  obtain ⟨k, hk, rfl⟩ := List.getElem_of_mem hm
  refine hg k (by omega) ?_
  rw [List.getD_eq_getElem?_getD, List.getElem?_eq_getElem hk]; rfl
def IsO1 (xs : List Cl) (o : List Int) (i : Nat) : Prop := (∀ n ∈ o.take i, 0 ≤ n ∧ n < xs.length ∧ cntB (cAt xs n) = true) ∧ (o.take i).Nodup
def IsO2 (xs : List Cl) (o : List Int) (i : Nat) : Prop := ∀ k : Nat, k < i → cntB (xs.getD k cl0) = true → (xs.getD k cl0).fin ≠ -1 → (k : Int) ∈ o
theorem take_succ' {o : List Int} {i : Nat} (h : i < o.length) : o.take (i + 1) = o.take i ++ [o.getD i 0] := by
 rw [List.take_succ_eq_append_getElem h, List.getD_eq_getElem?_getD, List.getElem?_eq_getElem h]; rfl
theorem IsO1.step {xs : List Cl} {o : List Int} {i : Nat} (h : IsO1 xs o i) (hi : i < o.length) (h1 : 0 ≤ o.getD i 0 ∧ o.getD i 0 < xs.length ∧ cntB (cAt xs (o.getD i 0)) = true) (h2 : o.getD i 0 ∉ o.take i) : IsO1 xs o (i + 1) := by
 unfold IsO1
 rw [take_succ' hi]
 refine ⟨fun n hn => ?_, ?_⟩
 ·rcases List.mem_append.1 hn with hn | hn
  ·exact h.1 n hn
  ·rw [List.mem_singleton] at hn; rw [hn]; exact h1
 ·rw [List.nodup_append]
  refine ⟨h.2, by simp, fun a ha b hb => ?_⟩
  rw [List.mem_singleton] at hb
  exact fun e => h2 (by rw [← hb, ← e]; exact ha)
theorem IsO.fst {xs : List Cl} {o : List Int} (h : IsO xs o) {i : Nat} (hi : i < o.length) : (0 ≤ o.getD i 0 ∧ o.getD i 0 < xs.length ∧ cntB (cAt xs (o.getD i 0)) = true) ∧ o.getD i 0 ∉ o.take i := by
 refine ⟨h.ok _ (getD_mem hi), fun hm => ?_⟩
 have := h.nodup
 rw [← List.take_append_drop (i + 1) o, take_succ' hi, List.nodup_append, List.nodup_append] at this
 exact this.1.2.2 _ hm _ (by simp) rfl
set_option maxRecDepth 100000 in
set_option maxHeartbeats 400000 in
theorem isorder_calls (w : World) (v v' : Value) (xs : List Cl) (o : List Int) (h : Arr w Cl.enc 9 v xs) (h' : Arr w eI 1 v' o) : Calls Try.prog 55 #[v, v'] w (RetV w (.bool (pB (IsO xs o)))) := by
 have hlen := Z.Arr.lenM h
 have hlen' := Z.Arr.lenM h'
 simp only [maxLen] at hlen hlen'
 refine enter2 (A := []) (c := ir55) (rs := rs55) (nt := nt55) cl0 cl_ok h 0 eI_ok h' [.c (.xv (0, 0, 0)), .c (.xv (1, 0, 0))] _ Try.func55 rfl (by kernel_rfl) (by kernel_rfl) rfl (fun E' h0 h1 => by simp [SV.den, SC.den, h0, h1]) (of_decide_eq_true rfl) ?_
 simp (maxSteps := 2000000) only [ir55, nt55, rs55, go_sem, ↓condS, ↓exitS, ↓gateS, ↓runOp, ↓gateD, ↓runD, ↓imp_ft, ↓imp_tf, ↓imp_tt, ↓imp_ff, ↓imp_fn, ↓imp_tn, ↓imp_fy, ↓imp_ty, ↓reduceIte, Nat.reduceLT, Nat.reduceLeDiff, Nat.reduceAdd, Nat.reduceSub, Nat.reduceMul, Nat.reduceEqDiff, reduceCtorEq, Int.reduceToNat, Int.reduceEq, Int.reduceBEq, Int.reduceBNe, Int.reduceLT, Int.reduceLE, Int.reduceNeg, Int.reduceAdd, Int.reduceSub, Int.reduceMul, Int.reduceGE, Int.reduceGT, Cl.enc, iv, endO]
 refine loopI (ι := { i : Nat // i ≤ o.length ∧ IsO1 xs o i }) (fun i => ⟨66, [(0, .c (.xv (0, 0, 0))), (1, .c (.xv (1, 0, 0))), (5, .c (.v (.int .i64 (i.1 : Nat))))], [], [(0, .one (arrOf Cl.enc 9 xs cl0)), (1, .one (arrOf eI 1 o 0))], [], 2⟩)
  (fun i => o.length - i.1) ⟨0, by omega, by simp [IsO1]⟩ (le_tmps (by simp [TmpsSub, look])) ?_
 rintro ⟨i, hi, hg⟩
 simp (maxSteps := 2000000) only [go_sem, ↓condS, ↓exitS, ↓gateS, ↓runOp, ↓gateD, ↓runD, ↓imp_ft, ↓imp_tf, ↓imp_tt, ↓imp_ff, ↓imp_fn, ↓imp_tn, ↓imp_fy, ↓imp_ty, ↓reduceIte, Nat.reduceLT, Nat.reduceLeDiff, Nat.reduceAdd, Nat.reduceSub, Nat.reduceMul, Nat.reduceEqDiff, reduceCtorEq, Int.reduceToNat, Int.reduceEq, Int.reduceBEq, Int.reduceBNe, Int.reduceLT, Int.reduceLE, Int.reduceNeg, Int.reduceAdd, Int.reduceSub, Int.reduceMul, Int.reduceGE, Int.reduceGT, Cl.enc, iv, endO, eI]
 refine both (fun hlt => ?_) (fun hge => ?_)
 ·rw [decide_eq_true_eq] at hlt
  have hlt : i < o.length := by omega
  have hfst := fun h : IsO xs o => h.fst hlt
  have hstep := IsO1.step hg hlt
  generalize hn : o.getD i 0 = n at hfst hstep ⊢
  refine ⟨hlt, hlt, fun h => ?_, fun h => ?_, ?_⟩
  ·simp only [b_decR, b_decL, bt_ite, bf_ite, bt_dec, bf_dec, bt_int, bf_int, bt_nint, bf_nint, bt_bool, bf_bool, bt_nbool, bf_nbool, bt_not, bf_not, bt_and, bf_and, bt_or, bf_or, Bool.false_eq_true, Bool.true_eq_false, Bool.not_eq_true, Bool.not_eq_false, reduceCtorEq, false_iff, true_iff, iff_false, iff_true, and_true, true_and, and_false, false_and, or_true, true_or, or_false, false_or, not_true_eq_false, not_false_eq_true, ne_eq] at h; omega
  ·simp only [b_decR, b_decL, bt_ite, bf_ite, bt_dec, bf_dec, bt_int, bf_int, bt_nint, bf_nint, bt_bool, bf_bool, bt_nbool, bf_nbool, bt_not, bf_not, bt_and, bf_and, bt_or, bf_or, Bool.false_eq_true, Bool.true_eq_false, Bool.not_eq_true, Bool.not_eq_false, reduceCtorEq, false_iff, true_iff, iff_false, iff_true, and_true, true_and, and_false, false_and, or_true, true_or, or_false, false_or, not_true_eq_false, not_false_eq_true, ne_eq] at h; omega
  refine guardW (.c (.bo (cntB (cAt xs n)))) _ (fun E => rfl) (fun E a w' _ => rcounts_calls w' (cAt xs n)) ?_
  simp (maxSteps := 2000000) only [forkS, go_sem, ↓condS, ↓exitS, ↓gateS, ↓runOp, ↓gateD, ↓runD, ↓imp_ft, ↓imp_tf, ↓imp_tt, ↓imp_ff, ↓imp_fn, ↓imp_tn, ↓imp_fy, ↓imp_ty, ↓reduceIte, Nat.reduceLT, Nat.reduceLeDiff, Nat.reduceAdd, Nat.reduceSub, Nat.reduceMul, Nat.reduceEqDiff, reduceCtorEq, Int.reduceToNat, Int.reduceEq, Int.reduceBEq, Int.reduceBNe, Int.reduceLT, Int.reduceLE, Int.reduceNeg, Int.reduceAdd, Int.reduceSub, Int.reduceMul, Int.reduceGE, Int.reduceGT, Cl.enc, iv, endO]
  refine And.intro (fun hb => ?_) (fun hb => ?_)
  ·have h0 : 0 ≤ n ∧ n < xs.length ∧ cntB (cAt xs n) = true := by
    cases hc : cntB (cAt xs n) with
    | true => simp only [b_decR, b_decL, bt_ite, bf_ite, bt_dec, bf_dec, bt_int, bf_int, bt_nint, bf_nint, bt_bool, bf_bool, bt_nbool, bf_nbool, bt_not, bf_not, bt_and, bf_and, bt_or, bf_or, Bool.false_eq_true, Bool.true_eq_false, Bool.not_eq_true, Bool.not_eq_false, reduceCtorEq, false_iff, true_iff, iff_false, iff_true, and_true, true_and, and_false, false_and, or_true, true_or, or_false, false_or, not_true_eq_false, not_false_eq_true, ne_eq, hc] at hb; exact ⟨by omega, by omega, rfl⟩
    | false => simp only [b_decR, b_decL, bt_ite, bf_ite, bt_dec, bf_dec, bt_int, bf_int, bt_nint, bf_nint, bt_bool, bf_bool, bt_nbool, bf_nbool, bt_not, bf_not, bt_and, bf_and, bt_or, bf_or, Bool.false_eq_true, Bool.true_eq_false, Bool.not_eq_true, Bool.not_eq_false, reduceCtorEq, false_iff, true_iff, iff_false, iff_true, and_true, true_and, and_false, false_and, or_true, true_or, or_false, false_or, not_true_eq_false, not_false_eq_true, ne_eq, hc] at hb
   repeat (with_reducible refine And.intro (by first | (simp only [maxLen]; omega) | omega | decide | (simp; done) | (simp [maxLen]; omega)) ?_)
   refine callV (.c (.bo (decide (n ∈ o.take i)))) _ (fun E => rfl) (fun E a w' hs => has_calls w' _ (o.take i) n (arr_xs (o := 0) (n := i) (xs := o) (d := 0) (l := 0) ((holds_of hs).1 (1, 0, 0) _ rfl) (show 0 + i ≤ o.length by omega))) ?_
   simp (maxSteps := 2000000) only [go_sem, ↓condS, ↓exitS, ↓gateS, ↓runOp, ↓gateD, ↓runD, ↓imp_ft, ↓imp_tf, ↓imp_tt, ↓imp_ff, ↓imp_fn, ↓imp_tn, ↓imp_fy, ↓imp_ty, ↓reduceIte, Nat.reduceLT, Nat.reduceLeDiff, Nat.reduceAdd, Nat.reduceSub, Nat.reduceMul, Nat.reduceEqDiff, reduceCtorEq, Int.reduceToNat, Int.reduceEq, Int.reduceBEq, Int.reduceBNe, Int.reduceLT, Int.reduceLE, Int.reduceNeg, Int.reduceAdd, Int.reduceSub, Int.reduceMul, Int.reduceGE, Int.reduceGT, Cl.enc, iv, endO]
   rw [wr_succ (by omega)]
   refine both (fun hb => ?_) (fun hb => ?_)
   ·refine retV fun E => ?_
    rw [den_c, den_v, Value.bool.injEq, eq_comm, pB_f]
    intro ho
    exact (hfst ho).2 (by simpa using hb)
   ·exact backI ⟨i + 1, by omega, hstep h0 (by simpa using hb)⟩ (by simp only; omega) (le_tmps (by simp [TmpsSub, look]))
  ·refine retV fun E => ?_
   rw [den_c, den_v, Value.bool.injEq, eq_comm, pB_f]
   intro ho
   obtain ⟨⟨h1, h2, h3⟩, h4⟩ := hfst ho
   simp only [b_decR, b_decL, bt_ite, bf_ite, bt_dec, bf_dec, bt_int, bf_int, bt_nint, bf_nint, bt_bool, bf_bool, bt_nbool, bf_nbool, bt_not, bf_not, bt_and, bf_and, bt_or, bf_or, Bool.false_eq_true, Bool.true_eq_false, Bool.not_eq_true, Bool.not_eq_false, reduceCtorEq, false_iff, true_iff, iff_false, iff_true, and_true, true_and, and_false, false_and, or_true, true_or, or_false, false_or, not_true_eq_false, not_false_eq_true, ne_eq, h3] at hb
   omega
 ·rw [decide_eq_false_iff_not] at hge
  have hin : i = o.length := by omega
  subst hin
  refine loopI (ι := { i : Nat // i ≤ xs.length ∧ IsO2 xs o i }) (fun i => ⟨66, [(0, .c (.xv (0, 0, 0))), (1, .c (.xv (1, 0, 0))), (7, .c (.v (.int .i64 (i.1 : Nat))))], [], [(0, .one (arrOf Cl.enc 9 xs cl0)), (1, .one (arrOf eI 1 o 0))], [], 2⟩)
   (fun i => xs.length - i.1) ⟨0, by omega, fun k hk => by omega⟩ (le_tmps (by simp [TmpsSub, look])) ?_
  rintro ⟨k, hk, hg2⟩
  simp (maxSteps := 2000000) only [go_sem, ↓condS, ↓exitS, ↓gateS, ↓runOp, ↓gateD, ↓runD, ↓imp_ft, ↓imp_tf, ↓imp_tt, ↓imp_ff, ↓imp_fn, ↓imp_tn, ↓imp_fy, ↓imp_ty, ↓reduceIte, Nat.reduceLT, Nat.reduceLeDiff, Nat.reduceAdd, Nat.reduceSub, Nat.reduceMul, Nat.reduceEqDiff, reduceCtorEq, Int.reduceToNat, Int.reduceEq, Int.reduceBEq, Int.reduceBNe, Int.reduceLT, Int.reduceLE, Int.reduceNeg, Int.reduceAdd, Int.reduceSub, Int.reduceMul, Int.reduceGE, Int.reduceGT, Cl.enc, iv, endO, eI]
  refine both (fun hlt => ?_) (fun hge => ?_)
  ·rw [decide_eq_true_eq] at hlt
   have hlt : k < xs.length := by omega
   generalize hck : xs.getD k cl0 = ck
   repeat (with_reducible refine And.intro (by first | (simp only [maxLen]; omega) | omega | decide | (simp; done) | (simp [maxLen]; omega)) ?_)
   refine callV (.c (.bo (cntB ck))) _ (fun E => rfl) (fun E a w' _ => rcounts_calls w' ck) ?_
   simp (maxSteps := 2000000) only [go_sem, ↓condS, ↓exitS, ↓gateS, ↓runOp, ↓gateD, ↓runD, ↓imp_ft, ↓imp_tf, ↓imp_tt, ↓imp_ff, ↓imp_fn, ↓imp_tn, ↓imp_fy, ↓imp_ty, ↓reduceIte, Nat.reduceLT, Nat.reduceLeDiff, Nat.reduceAdd, Nat.reduceSub, Nat.reduceMul, Nat.reduceEqDiff, reduceCtorEq, Int.reduceToNat, Int.reduceEq, Int.reduceBEq, Int.reduceBNe, Int.reduceLT, Int.reduceLE, Int.reduceNeg, Int.reduceAdd, Int.reduceSub, Int.reduceMul, Int.reduceGE, Int.reduceGT, Cl.enc, iv, endO]
   rw [hck]
   refine ⟨fun _ => hlt, fun _ => hlt, fun _ => hlt, ?_⟩
   refine guardW (.c (.bo (decide ((k : Int) ∈ o)))) _ (fun E => rfl) (fun E a w' hs => has_calls w' _ o k (arr_at (d := 0) hs 1 rfl)) ?_
   simp (maxSteps := 2000000) only [go_sem, ↓condS, ↓exitS, ↓gateS, ↓runOp, ↓gateD, ↓runD, ↓imp_ft, ↓imp_tf, ↓imp_tt, ↓imp_ff, ↓imp_fn, ↓imp_tn, ↓imp_fy, ↓imp_ty, ↓reduceIte, Nat.reduceLT, Nat.reduceLeDiff, Nat.reduceAdd, Nat.reduceSub, Nat.reduceMul, Nat.reduceEqDiff, reduceCtorEq, Int.reduceToNat, Int.reduceEq, Int.reduceBEq, Int.reduceBNe, Int.reduceLT, Int.reduceLE, Int.reduceNeg, Int.reduceAdd, Int.reduceSub, Int.reduceMul, Int.reduceGE, Int.reduceGT, Cl.enc, iv, endO]
   rw [wr_succ (by omega)]
   refine both (fun hb => ?_) (fun hb => ?_)
   ·refine retV fun E => ?_
    rw [den_c, den_v, Value.bool.injEq, eq_comm, pB_f]
    intro ho
    have hb : (cntB ck = true ∧ ck.fin ≠ -1) ∧ (k : Int) ∉ o := by simpa using hb
    exact hb.2 (ho.all k hlt (by rw [hck]; exact hb.1.1) (by rw [hck]; exact hb.1.2))
   ·refine backI ⟨k + 1, by omega, fun j hj h1 h2 => ?_⟩ (by simp only; omega) (le_tmps (by simp [TmpsSub, look]))
    by_cases e : j = k
    ·subst e
     rw [hck] at h1 h2
     simpa [h1, h2] using hb
    ·exact hg2 j (by omega) h1 h2
  ·rw [decide_eq_false_iff_not] at hge
   have hkn : k = xs.length := by omega
   subst hkn
   refine retV fun E => ?_
   rw [den_c, den_v, Value.bool.injEq, eq_comm, pB_t]
   have hg1 := hg
   unfold IsO1 at hg1
   rw [List.take_length] at hg1
   exact ⟨hg1.1, hg1.2, hg2⟩
def InT1 (xs : List Cl) (o : List Int) (i : Nat) : Prop := ∀ a b, a < b → b < i → aheadB (cAt xs (o.getD b 0)) (cAt xs (o.getD a 0)) = false
theorem inT_iff {xs : List Cl} {o : List Int} : InT xs o ↔ InT1 xs o o.length := by
 unfold InT InT1
 rw [List.pairwise_iff_getElem]
 constructor
 ·intro h a b hab hb
  have := h a b (by omega) hb hab
  rwa [List.getD_eq_getElem?_getD, List.getD_eq_getElem?_getD, List.getElem?_eq_getElem hb, List.getElem?_eq_getElem (show a < o.length by omega)]
 ·intro h a b ha hb hab
  have := h a b hab hb
  rwa [List.getD_eq_getElem?_getD, List.getD_eq_getElem?_getD, List.getElem?_eq_getElem hb, List.getElem?_eq_getElem ha] at this
set_option maxRecDepth 100000 in
set_option maxHeartbeats 400000 in
theorem intime_calls (w : World) (v v' : Value) (xs : List Cl) (o : List Int) (h : Arr w Cl.enc 9 v xs) (h' : Arr w eI 1 v' o) (hr : ∀ n ∈ o, 0 ≤ n ∧ n < xs.length) : Calls Try.prog 56 #[v, v'] w (RetV w (.bool (pB (InT xs o)))) := by
 have hlen' := Z.Arr.lenM h'
 simp only [maxLen] at hlen'
 refine enter2 (A := []) (c := ir56) (rs := rs56) (nt := nt56) cl0 cl_ok h 0 eI_ok h' [.c (.xv (0, 0, 0)), .c (.xv (1, 0, 0))] _ Try.func56 rfl (by kernel_rfl) (by kernel_rfl) rfl (fun E' h0 h1 => by simp [SV.den, SC.den, h0, h1]) (of_decide_eq_true rfl) ?_
 simp (maxSteps := 2000000) only [ir56, nt56, rs56, go_sem, ↓condS, ↓exitS, ↓gateS, ↓runOp, ↓gateD, ↓runD, ↓imp_ft, ↓imp_tf, ↓imp_tt, ↓imp_ff, ↓imp_fn, ↓imp_tn, ↓imp_fy, ↓imp_ty, ↓reduceIte, Nat.reduceLT, Nat.reduceLeDiff, Nat.reduceAdd, Nat.reduceSub, Nat.reduceMul, Nat.reduceEqDiff, reduceCtorEq, Int.reduceToNat, Int.reduceEq, Int.reduceBEq, Int.reduceBNe, Int.reduceLT, Int.reduceLE, Int.reduceNeg, Int.reduceAdd, Int.reduceSub, Int.reduceMul, Int.reduceGE, Int.reduceGT, Cl.enc, iv, endO]
 refine loopI (ι := { i : Nat // i ≤ o.length ∧ InT1 xs o i }) (fun i => ⟨28, [(0, .c (.xv (0, 0, 0))), (1, .c (.xv (1, 0, 0))), (5, .c (.v (.int .i64 (i.1 : Nat))))], [], [(0, .one (arrOf Cl.enc 9 xs cl0)), (1, .one (arrOf eI 1 o 0))], [], 2⟩)
  (fun i => o.length - i.1) ⟨0, by omega, fun a b _ hb => by omega⟩ (le_tmps (by simp [TmpsSub, look])) ?_
 rintro ⟨i, hi, hg⟩
 simp (maxSteps := 2000000) only [go_sem, ↓condS, ↓exitS, ↓gateS, ↓runOp, ↓gateD, ↓runD, ↓imp_ft, ↓imp_tf, ↓imp_tt, ↓imp_ff, ↓imp_fn, ↓imp_tn, ↓imp_fy, ↓imp_ty, ↓reduceIte, Nat.reduceLT, Nat.reduceLeDiff, Nat.reduceAdd, Nat.reduceSub, Nat.reduceMul, Nat.reduceEqDiff, reduceCtorEq, Int.reduceToNat, Int.reduceEq, Int.reduceBEq, Int.reduceBNe, Int.reduceLT, Int.reduceLE, Int.reduceNeg, Int.reduceAdd, Int.reduceSub, Int.reduceMul, Int.reduceGE, Int.reduceGT, Cl.enc, iv, endO, eI]
 refine both (fun hlt => ?_) (fun hge => ?_)
 ·rw [decide_eq_true_eq] at hlt
  have hlt : i < o.length := by omega
  refine loopI (ι := { k : Nat // k ≤ i ∧ ∀ a, a < k → aheadB (cAt xs (o.getD i 0)) (cAt xs (o.getD a 0)) = false }) (fun k => ⟨28, [(0, .c (.xv (0, 0, 0))), (1, .c (.xv (1, 0, 0))), (5, .c (.v (.int .i64 (i : Nat)))), (6, .c (.v (.int .i64 (k.1 : Nat))))], [], [(0, .one (arrOf Cl.enc 9 xs cl0)), (1, .one (arrOf eI 1 o 0))], [], 2⟩)
   (fun k => i - k.1) ⟨0, by omega, fun a ha => by omega⟩ (le_tmps (by simp [TmpsSub, look])) ?_
  rintro ⟨k, hk, hgk⟩
  simp (maxSteps := 2000000) only [go_sem, ↓condS, ↓exitS, ↓gateS, ↓runOp, ↓gateD, ↓runD, ↓imp_ft, ↓imp_tf, ↓imp_tt, ↓imp_ff, ↓imp_fn, ↓imp_tn, ↓imp_fy, ↓imp_ty, ↓reduceIte, Nat.reduceLT, Nat.reduceLeDiff, Nat.reduceAdd, Nat.reduceSub, Nat.reduceMul, Nat.reduceEqDiff, reduceCtorEq, Int.reduceToNat, Int.reduceEq, Int.reduceBEq, Int.reduceBNe, Int.reduceLT, Int.reduceLE, Int.reduceNeg, Int.reduceAdd, Int.reduceSub, Int.reduceMul, Int.reduceGE, Int.reduceGT, Cl.enc, iv, endO, eI]
  refine both (fun hlk => ?_) (fun hge => ?_)
  ·rw [decide_eq_true_eq] at hlk
   have hlk : k < i := by omega
   refine draw_vc (by kernel_rfl) (mkTab_ok _ _) (of_decide_eq_true rfl) (of_decide_eq_true rfl) ?_
   repeat (first | simp (maxSteps := 2000000) only [go_sem, ↓condS, ↓exitS, ↓gateS, ↓runOp, ↓gateD, ↓runD, ↓imp_ft, ↓imp_tf, ↓imp_tt, ↓imp_ff, ↓imp_fn, ↓imp_tn, ↓imp_fy, ↓imp_ty, ↓reduceIte, Nat.reduceLT, Nat.reduceLeDiff, Nat.reduceAdd, Nat.reduceSub, Nat.reduceMul, Nat.reduceEqDiff, reduceCtorEq, Int.reduceToNat, Int.reduceEq, Int.reduceBEq, Int.reduceBNe, Int.reduceLT, Int.reduceLE, Int.reduceNeg, Int.reduceAdd, Int.reduceSub, Int.reduceMul, Int.reduceGE, Int.reduceGT, Cl.enc, iv, endO, eI] | rw [dr_cons])
   have h1 := hr _ (getD_mem (d := 0) hlt)
   have h2 := hr _ (getD_mem (d := 0) (show k < o.length by omega))
   repeat (with_reducible refine And.intro (by first | (simp only [maxLen]; omega) | omega | decide | (simp; done) | (simp [maxLen]; omega)) ?_)
   refine dcallV (.c (.bo (aheadB (cAt xs (o.getD i 0)) (cAt xs (o.getD k 0))))) _ (fun E => rfl) (fun E a w' hs => rahead_calls w' _ xs _ _ (arr_at (d := cl0) hs 0 rfl) h1 h2) ?_
   repeat (first | simp (maxSteps := 2000000) only [go_sem, ↓condS, ↓exitS, ↓gateS, ↓runOp, ↓gateD, ↓runD, ↓imp_ft, ↓imp_tf, ↓imp_tt, ↓imp_ff, ↓imp_fn, ↓imp_tn, ↓imp_fy, ↓imp_ty, ↓reduceIte, Nat.reduceLT, Nat.reduceLeDiff, Nat.reduceAdd, Nat.reduceSub, Nat.reduceMul, Nat.reduceEqDiff, reduceCtorEq, Int.reduceToNat, Int.reduceEq, Int.reduceBEq, Int.reduceBNe, Int.reduceLT, Int.reduceLE, Int.reduceNeg, Int.reduceAdd, Int.reduceSub, Int.reduceMul, Int.reduceGE, Int.reduceGT, Cl.enc, iv, endO, eI] | rw [dr_cons])
   refine both (fun hb => ?_) (fun hb => ?_)
   ·refine retV fun E => ?_
    rw [den_c, den_v, Value.bool.injEq, eq_comm, pB_f, inT_iff]
    intro ho
    have := ho k i hlk hlt
    rw [hb] at this; cases this
   ·rw [wr_succ (by omega)]
    refine backI ⟨k + 1, by omega, fun a ha => ?_⟩ (by simp only; omega) (le_tmps (by simp [TmpsSub, look]))
    by_cases e : a = k
    ·subst e; exact hb
    ·exact hgk a (by omega)
  ·rw [decide_eq_false_iff_not] at hge
   have hki : k = i := by omega
   subst hki
   rw [wr_succ (by omega)]
   refine backI ⟨k + 1, by omega, fun a b hab hb => ?_⟩ (by simp only; omega) (le_tmps (by simp [TmpsSub, look]))
   by_cases e : b = k
   ·subst e; exact hgk a hab
   ·exact hg a b hab (by omega)
 ·rw [decide_eq_false_iff_not] at hge
  have hin : i = o.length := by omega
  subst hin
  refine retV fun E => ?_
  rw [den_c, den_v, Value.bool.injEq, eq_comm, pB_t, inT_iff]
  exact hg
end Go.Proofs.Ytkjeedlkkpgopaa.Z
namespace Go.Proofs.Ytkjeedlkkpgopaa.Z
open Go Go.RowKit
def nil5 : List SC := [.v (.slice none 0 0), .v (.slice none 0 0), .v (.slice none 0 0), .v (.slice none 0 0), .v (.slice none 0 0)]
theorem atN_mcA0 {i l : Nat} {r : List (Nat × Fm ArrF)} {x : Nm} {A : ArrF} (h : atN (mcA i mc0 l ++ r) x = some A) : (i ≤ x.1 ∧ x.1 < i + 5 ∧ A.len = 0) ∨ atN r x = some A := by
 simp only [mcA, List.cons_append, List.nil_append] at h
 rcases atN_one h with ⟨rfl, rfl⟩ | h
 ·exact Or.inl ⟨by simp, by simp, rfl⟩
 rcases atN_one h with ⟨rfl, rfl⟩ | h
 ·exact Or.inl ⟨by simp, by simp, rfl⟩
 rcases atN_one h with ⟨rfl, rfl⟩ | h
 ·exact Or.inl ⟨by simp, by simp, rfl⟩
 rcases atN_one h with ⟨rfl, rfl⟩ | h
 ·exact Or.inl ⟨by simp, by simp, rfl⟩
 rcases atN_one h with ⟨rfl, rfl⟩ | h
 ·exact Or.inl ⟨by simp, by simp, rfl⟩
 exact Or.inr h
theorem le_nilmc {C : Ctx} {nt : Nat} {tmps : List (Nat × SV)} {own : Own} {arrs : List (Nat × Fm ArrF)} {facts : List (Env → World → Prop)} {nid : Nat} (j ty l : Nat) (hj : look own j = some (.one (.bk nil5 ty))) :
  Le C ⟨nt, tmps, own, arrs, facts, nid⟩ ⟨nt, tmps, setL own j (.one (.bk (mcS nid) ty)), mcA nid mc0 l ++ arrs, facts, nid + 5⟩ := by
 intro E a w hs
 refine ⟨⟨E.ρ, E.κ, E.ν, fun x => if nid ≤ x.1 then .slice none 0 0 else E.χ x⟩, fun x => ?_, fun E2 hE2 ho2 => ?_⟩
 ·simp only
  split
  ·rfl
  ·exact hs.1 x
 have hs2 := hs.2 E2 (fun x hx => by
  have hx : x.1 < nid := hx
  obtain ⟨h1, h2, h3, h4⟩ := hE2 x (show x.1 < nid + 5 by omega)
  exact ⟨h1, h2, h3, by rw [h4]; simp only; rw [if_neg (by omega)]⟩) ho2
 have hnil : ∀ x : Nm, nid ≤ x.1 → x.1 < nid + 5 → E2.χ x = .slice none 0 0 := fun x h1 h2 => by
  obtain ⟨_, _, _, h4⟩ := hE2 x (show x.1 < nid + 5 from h2)
  rw [h4]
  simp only
  rw [if_pos h1]
 obtain ⟨H, hH, hF⟩ := hs2.mem
 have hold : ∀ x b, atN (setL own j (.one (.bk (mcS nid) ty))) x = some b → (x = (j, 0, 0) ∧ b = .bk (mcS nid) ty) ∨ (x.1 ≠ j ∧ atN own x = some b) := by
  rintro ⟨k, p, q⟩ b hx
  simp only [atN, look_setL] at hx
  by_cases e : j = k
  ·subst e
   rw [if_pos rfl] at hx
   simp only [Fm.get] at hx
   split at hx
   ·next e => obtain ⟨rfl, rfl⟩ := e; cases hx; exact Or.inl ⟨rfl, rfl⟩
   ·cases hx
  ·rw [if_neg e] at hx
   exact Or.inr ⟨fun e2 => e e2.symm, hx⟩
 have hat : atN own (j, 0, 0) = some (.bk nil5 ty) := by simp [atN, hj, Fm.get]
 have hwas : ∀ x b, atN (setL own j (.one (.bk (mcS nid) ty))) x = some b → ∃ c, atN own x = some c := fun x b hx => by
  rcases hold x b hx with ⟨rfl, rfl⟩ | ⟨_, hx⟩
  ·exact ⟨_, hat⟩
  ·exact ⟨_, hx⟩
 refine ⟨hs2.size, hs2.defers, ho2, hs2.tmps, hs2.frame, H, ⟨?_, ?_, ?_⟩, ?_⟩
 ·intro x b hx
  rcases hold x b hx with ⟨rfl, rfl⟩ | ⟨_, hx⟩
  ·have := hH.den _ _ hat
   simp only [Blk.den, nil5, mcS, List.map_cons, List.map_nil, SC.den] at this ⊢
   rw [this, hnil (nid, 0, 0) (by simp) (by simp), hnil (nid + 1, 0, 0) (by simp) (by simp), hnil (nid + 2, 0, 0) (by simp) (by simp), hnil (nid + 3, 0, 0) (by simp) (by simp), hnil (nid + 4, 0, 0) (by simp) (by simp)]
  ·exact hH.den _ _ hx
 ·intro x y b c hx hy hne n
  obtain ⟨b', hx⟩ := hwas x b hx
  obtain ⟨c', hy⟩ := hwas y c hy
  exact hH.disj x y b' c' hx hy hne n
 ·intro x b hx n o hn
  obtain ⟨b', hx⟩ := hwas x b hx
  exact hH.sub x b' hx n o hn
 ·intro w' hw'
  have h0 := hF w' fun n hn hfr => hw' n hn fun x b hx => by
   obtain ⟨b', hx⟩ := hwas x b hx
   exact hfr x b' hx
  refine ⟨fun x A hA => ?_, h0.2⟩
  rcases atN_mcA0 hA with ⟨h1, h2, h3⟩ | hA
  ·exact ⟨none, 0, by rw [hnil x h1 h2, h3], by omega, by simp [maxLen], Or.inl h3⟩
  ·exact h0.1 x A hA
theorem line_at {xs : List Cl} {o : List Int} {k : Nat} (h : k < o.length) : (lineO xs o).getD k cl0 = cAt xs (o.getD k 0) := by
 simp [lineO, List.getD_eq_getElem?_getD, List.getElem?_eq_getElem h]
theorem line_len {xs : List Cl} {o : List Int} : (lineO xs o).length = o.length := by simp [lineO]
def plOk (p : MC × Int) : Bool := decide (p.2 = -1)
def plM (p : MC × Int) : MC := if p.2 = -1 then p.1 else mc0
def pokT (p : MC × Int) (b : Nat) : SV := .tup [(true, mcS b), (false, [.v (.bool (plOk p))])]
theorem pokT_ok (c0 c1 c2 c3 c4 : SC) (p : MC × Int) (q : Bool) (hq : plOk p = q) : ∀ b (E E2 : Env), E2.χ (b, 0, 0) = c0.den E → E2.χ (b + 1, 0, 0) = c1.den E → E2.χ (b + 2, 0, 0) = c2.den E → E2.χ (b + 3, 0, 0) = c3.den E → E2.χ (b + 4, 0, 0) = c4.den E →
  (SV.tup [(true, [c0, c1, c2, c3, c4]), (false, [.v (.bool q)])]).den E = (pokT p b).den E2 := fun b E E2 e0 e1 e2 e3 e4 => by
 simp [pokT, mcS, SV.den, den1, SC.den, e0, e1, e2, e3, e4, hq]
def ir47 : IR := (.seq (.ops [⟨(some 4), (.new 70 [(.v (.slice none 0 0)), (.v (.slice none 0 0)), (.v (.slice none 0 0)), (.v (.slice none 0 0)), (.v (.slice none 0 0))]), none⟩, ⟨(some 5), (.mv (.k (.c (.v (.bool false))))), none⟩]) (.kill [2, 3, 5, 6, 7, 8, 9, 10, 11] (.seq (.ops [⟨(some 6), (.new 70 [(.v (.slice none 0 0)), (.v (.slice none 0 0)), (.v (.slice none 0 0)), (.v (.slice none 0 0)), (.v (.slice none 0 0))]), none⟩]) (.seq (.seq (.ops [⟨(some 7), (.mv (.k (.c (.v (.int .i64 0))))), none⟩]) (.blk 0 (.loop (.seq (.seq (.ops [⟨(some 10), (.mv (.t 7)), none⟩, ⟨(some 11), (.mv (.t 1)), none⟩, ⟨(some 12), (.len (.t 11)), none⟩, ⟨(some 13), (.bin .lss (.t 10) (.t 12)), none⟩]) (.kill [5, 8, 9, 10, 11, 12, 14, 15, 16, 17, 18, 19, 20, 21, 22, 23, 24, 25, 26, 27, 28, 29, 30, 31] (.cond (.t 13) .skip (.exit 0)))) (.kill [13] (.seq (.blk 1 (.seq (.draw [(⟨(some 17), (.ld true 5 (.t 6)), none⟩, ([], [18, 19, 20, 21, 22, 23, 24, 8])), (⟨(some 18), (.mv (.t 0)), none⟩, ([0], [17, 19, 20, 21, 22, 8])), (⟨(some 19), (.mv (.t 1)), none⟩, ([0, 1], [17, 18, 20, 8])), (⟨(some 20), (.mv (.t 7)), none⟩, ([0, 1, 2], [17, 18, 19, 8])), (⟨(some 21), (.ia 1 (.t 19) (.t 20)), none⟩, ([0, 1], [17, 18, 8])), (⟨(some 22), (.ld false 1 (.t 21)), none⟩, ([0, 1], [17, 18, 8])), (⟨(some 23), (.ia 9 (.t 18) (.t 22)), none⟩, ([0], [17, 8])), (⟨(some 24), (.ld true 9 (.t 23)), none⟩, ([0], [17, 8])), (⟨(some 25), (.call 63 [(.t 17), (.t 24)]), none⟩, ([], [8])), (⟨(some 16), (.mv (.t 25)), none⟩, ([], [8])), (⟨(some 26), (.ext 0 (.t 16)), none⟩, ([], [27, 8])), (⟨(some 27), (.ext 1 (.t 16)), none⟩, ([10], [26, 8])), (⟨(some 8), (.new 70 [(.v (.slice none 0 0)), (.v (.slice none 0 0)), (.v (.slice none 0 0)), (.v (.slice none 0 0)), (.v (.slice none 0 0))]), none⟩, ([0, 1, 2, 3, 4, 5, 6, 7, 8, 9, 10, 11], [17, 18, 19, 20, 21, 22, 23, 24, 25, 16, 26, 27])), (⟨none, (.st 5 (.t 8) (.t 26)), none⟩, ([11], [27])), (⟨(some 9), (.mv (.t 27)), none⟩, ([], []))]) (.kill [16, 17, 18, 19, 20, 21, 22, 23, 24, 25, 26, 27] (.seq (.seq (.ops [⟨(some 28), (.mv (.t 9)), none⟩, ⟨(some 29), (.un .not (.t 28)), none⟩]) (.kill [9, 28] (.cond (.t 29) (.seq (.ops [⟨(some 30), (.build [(.v (.slice none 0 0)), (.v (.slice none 0 0)), (.v (.slice none 0 0)), (.v (.slice none 0 0)), (.v (.slice none 0 0))] []), none⟩, ⟨none, (.st 5 (.t 4) (.t 30)), none⟩, ⟨(some 5), (.mv (.k (.c (.v (.bool false))))), none⟩]) (.kill [0, 1, 6, 7, 8, 29, 30] .ret)) .skip))) (.kill [5, 29] (.ops [⟨(some 31), (.ld true 5 (.t 8)), none⟩, ⟨none, (.st 5 (.t 6) (.t 31)), none⟩])))))) (.kill [5, 8, 9, 16, 17, 18, 19, 20, 21, 22, 23, 24, 25, 26, 27, 28, 29, 30, 31] (.ops [⟨(some 14), (.mv (.t 7)), none⟩, ⟨(some 15), (.bin .add (.t 14) (.k (.c (.v (.int .i64 1))))), none⟩, ⟨(some 7), (.mv (.t 15)), none⟩])))))))) (.kill [0, 1, 5, 7, 8, 9, 10, 11, 12, 13, 14, 15, 16, 17, 18, 19, 20, 21, 22, 23, 24, 25, 26, 27, 28, 29, 30, 31] (.seq (.ops [⟨(some 32), (.ld true 5 (.t 6)), none⟩, ⟨none, (.st 5 (.t 4) (.t 32)), none⟩, ⟨(some 5), (.mv (.k (.c (.v (.bool true))))), none⟩]) (.kill [6, 32] .ret)))))))
def rs47 : List RS := [(.cell 4 true 5), (.t 5)]
def nt47 : Nat := 33
set_option maxRecDepth 100000 in
set_option maxHeartbeats 400000 in
theorem rplayO {w : World} {v v' : Value} {xs : List Cl} {o : List Int} {N : Nat} (hN : N ≤ 2000000000000) (h : Arr w Cl.enc 9 v xs) (h' : Arr w eI 1 v' o) (hx : o.length ≤ N) (ho : ∀ n ∈ o, 0 ≤ n ∧ n < xs.length ∧ cntB (cAt xs n) = true) :
  Calls Try.prog 47 #[v, v'] w (RetB w (fun _ => True) 5 (pokT (playM mc0 0 (lineO xs o))) (mcR (plM (playM mc0 0 (lineO xs o))))) := by
 refine enter2 (A := []) (c := ir47) (rs := rs47) (nt := nt47) cl0 cl_ok h 0 eI_ok h' [.c (.xv (0, 0, 0)), .c (.xv (1, 0, 0))] _ Try.func47 rfl (by kernel_rfl) (by kernel_rfl) rfl (fun E' h0 h1 => by simp [SV.den, SC.den, h0, h1]) (of_decide_eq_true rfl) ?_
 simp (maxSteps := 2000000) only [ir47, nt47, rs47, go_sem, ↓condS, ↓exitS, ↓gateS, ↓runOp, ↓gateD, ↓runD, ↓imp_ft, ↓imp_tf, ↓imp_tt, ↓imp_ff, ↓imp_fn, ↓imp_tn, ↓imp_fy, ↓imp_ty, ↓reduceIte, Nat.reduceLT, Nat.reduceLeDiff, Nat.reduceAdd, Nat.reduceSub, Nat.reduceMul, Nat.reduceEqDiff, reduceCtorEq, Int.reduceToNat, Int.reduceEq, Int.reduceBEq, Int.reduceBNe, Int.reduceLT, Int.reduceLE, Int.reduceNeg, Int.reduceAdd, Int.reduceSub, Int.reduceMul, Int.reduceGE, Int.reduceGT, Cl.enc, iv, endO]
 refine loopI (ι := Plg mc0 (lineO xs o) N) (fun g => ⟨33, [(0, .c (.xv (0, 0, 0))), (1, .c (.xv (1, 0, 0))), (4, .c (.ptr (2, 0, 0) 0)), (6, .c (.ptr (3, 0, 0) 0)), (7, .c (.v (.int .i64 (g.k : Nat))))],
  [(2, .one (.bk nil5 70)), (3, .one (.bk (mcS 4) 70))], mcA 4 g.m w.heap.size ++ [(0, .one (arrOf Cl.enc 9 xs cl0)), (1, .one (arrOf eI 1 o 0))], [], 9⟩)
  (fun g => o.length - g.k) ⟨0, mc0, by omega, mc0_may, by simp [MC.upto, mc0], rfl⟩ ?_ ?_
 ·refine le_tr (le_nilmc 3 70 w.heap.size rfl) ?_
  simp only [mcS, mcA, nil5, setL, List.cons_append, List.nil_append]
  exact (le_ren (id) rfl rfl (by simp [TmpsLe, look, SV.ren, SC.ren, SC.renL, ren1L, ren1, idσ, SV.okN, SC.okN, SC.okL, ok1L]) (by simp [OwnLe, BlkLeO, BlkLe, atN, look, Fm.get, idσ, SC.renL, SC.ren, SC.okL, SC.okN, renL_v, okL_v]) (by simp [ArrsLe, ArrLeO, atN, look, Fm.get, idσ, arrLe_of, arrLe_0]) rfl)
 rintro ⟨k, m', hk, may, up, eq⟩
 rw [line_len] at hk
 simp (maxSteps := 2000000) only [go_sem, ↓condS, ↓exitS, ↓gateS, ↓runOp, ↓gateD, ↓runD, ↓imp_ft, ↓imp_tf, ↓imp_tt, ↓imp_ff, ↓imp_fn, ↓imp_tn, ↓imp_fy, ↓imp_ty, ↓reduceIte, Nat.reduceLT, Nat.reduceLeDiff, Nat.reduceAdd, Nat.reduceSub, Nat.reduceMul, Nat.reduceEqDiff, reduceCtorEq, Int.reduceToNat, Int.reduceEq, Int.reduceBEq, Int.reduceBNe, Int.reduceLT, Int.reduceLE, Int.reduceNeg, Int.reduceAdd, Int.reduceSub, Int.reduceMul, Int.reduceGE, Int.reduceGT, Cl.enc, iv, endO, mcS, mcA, nil5, eI, List.cons_append, List.nil_append]
 have hdr : k < o.length → (lineO xs o).drop k = cAt xs (o.getD k 0) :: (lineO xs o).drop (k + 1) := fun hlt => by rw [List.drop_eq_getElem_cons (by rw [line_len]; exact hlt), ← line_at hlt, List.getD_eq_getElem?_getD, List.getElem?_eq_getElem (by rw [line_len]; exact hlt)]; rfl
 refine both (fun hlt => ?_) (fun hge => ?_)
 ·rw [decide_eq_true_eq] at hlt
  have hlt : k < o.length := by omega
  have hok' : MC.okR m' := up.okR (by omega)
  obtain ⟨q1, q2, q3⟩ := ho _ (getD_mem (d := 0) hlt)
  have q3 : objOf (cAt xs (o.getD k 0)).op ≠ 0 := by simpa [cntB] using q3
  refine draw_vc (by kernel_rfl) (mkTab_ok _ _) (of_decide_eq_true rfl) (of_decide_eq_true rfl) ?_
  repeat (first | simp (maxSteps := 2000000) only [go_sem, ↓condS, ↓exitS, ↓gateS, ↓runOp, ↓gateD, ↓runD, ↓imp_ft, ↓imp_tf, ↓imp_tt, ↓imp_ff, ↓imp_fn, ↓imp_tn, ↓imp_fy, ↓imp_ty, ↓reduceIte, Nat.reduceLT, Nat.reduceLeDiff, Nat.reduceAdd, Nat.reduceSub, Nat.reduceMul, Nat.reduceEqDiff, reduceCtorEq, Int.reduceToNat, Int.reduceEq, Int.reduceBEq, Int.reduceBNe, Int.reduceLT, Int.reduceLE, Int.reduceNeg, Int.reduceAdd, Int.reduceSub, Int.reduceMul, Int.reduceGE, Int.reduceGT, Cl.enc, iv, endO, eI] | rw [dr_cons])
  repeat (with_reducible refine And.intro (by first | (simp only [maxLen]; omega) | omega | decide | (simp; done) | (simp [maxLen]; omega)) ?_)
  refine dcallL 5 (ralT (allowM m' (cAt xs (o.getD k 0)))) (mcR (allowM m' (cAt xs (o.getD k 0))).1) (mcR_sz _) (fun E a w' hs => ral_Z (cAt xs (o.getD k 0)) (cont_at hs 4 rfl rfl rfl rfl rfl) hok' may q3) ?_ ?_
  ·simp [newOk, keysL, low_mcR, mcA]
  repeat (first | simp (maxSteps := 2000000) only [go_sem, ↓condS, ↓exitS, ↓gateS, ↓runOp, ↓gateD, ↓runD, ↓imp_ft, ↓imp_tf, ↓imp_tt, ↓imp_ff, ↓imp_fn, ↓imp_tn, ↓imp_fy, ↓imp_ty, ↓reduceIte, Nat.reduceLT, Nat.reduceLeDiff, Nat.reduceAdd, Nat.reduceSub, Nat.reduceMul, Nat.reduceEqDiff, reduceCtorEq, Int.reduceToNat, Int.reduceEq, Int.reduceBEq, Int.reduceBNe, Int.reduceLT, Int.reduceLE, Int.reduceNeg, Int.reduceAdd, Int.reduceSub, Int.reduceMul, Int.reduceGE, Int.reduceGT, Cl.enc, iv, endO, ralT, mcS, low_mcR, mcA, mkC_B] | rw [dr_cons])
  repeat (with_reducible refine And.intro (by first | (simp only [maxLen]; omega) | omega | decide | with_reducible exact Or.inl trivial | with_reducible exact Or.inr trivial | with_reducible exact ⟨Or.inl trivial, Or.inr trivial⟩) ?_)
  rw [hdr hlt] at eq
  have hup := allowM_upto (c := cAt xs (o.getD k 0)) up
  have hmy := allowM_may (c := cAt xs (o.getD k 0)) may
  simp only [playM] at eq
  generalize allowM m' (cAt xs (o.getD k 0)) = p at eq hup hmy ⊢
  obtain ⟨m2, b⟩ := p
  simp only at eq hup hmy
  refine both (fun hb => ?_) (fun hb => ?_)
  ·have hb : b = false := by simpa using hb
   rw [hb, if_neg (by simp)] at eq
   have heq : playM mc0 0 (lineO xs o) = (m', (k : Int)) := by rw [eq]
   have hk1 : ¬ (k : Int) = -1 := by omega
   rw [heq]
   simp only [plM, if_neg hk1]
   exact retB5 _ _ _ _ _ rdN_nil rdN_nil rdN_nil rdN_nil rdN_nil (pokT_ok _ _ _ _ _ (m', (k : Int)) false (by simp [plOk, hk1]))
  ·have hb : b = true := by simpa using hb
   rw [hb, if_pos rfl] at eq
   rw [wr_succ (by omega)]
   refine backI ⟨k + 1, m2, by rw [line_len]; exact hlt, hmy, by rw [show N + (k + 1) = N + k + 1 by omega]; exact hup, by rw [eq]⟩ (by simp only; omega) ?_
   simp only [mcS, mcA, nil5, List.cons_append, List.nil_append]
   exact (le_ren (fun i => if 4 ≤ i then i + 5 else i) rfl rfl (by simp [TmpsLe, look, SV.ren, SC.ren, SC.renL, ren1L, ren1, idσ, SV.okN, SC.okN, SC.okL, ok1L]) (by simp [OwnLe, BlkLeO, BlkLe, atN, look, Fm.get, idσ, SC.renL, SC.ren, SC.okL, SC.okN, renL_v, okL_v]) (by simp [ArrsLe, ArrLeO, atN, look, Fm.get, idσ, arrLe_of, arrLe_0]) rfl)
 ·rw [decide_eq_false_iff_not] at hge
  have hk' : k = (lineO xs o).length := by rw [line_len]; omega
  subst hk'
  rw [List.drop_length] at eq
  have heq : playM mc0 0 (lineO xs o) = (m', -1) := by rw [eq]; rfl
  rw [heq]
  simp only [plM, if_true]
  exact retB5 _ _ _ _ _ (rdN_lo 4 rfl (Nat.le_refl _)) (rdN_lo 5 rfl (Nat.le_refl _)) (rdN_lo 6 rfl (Nat.le_refl _)) (rdN_lo 7 rfl (Nat.le_refl _)) (rdN_lo 8 rfl (Nat.le_refl _)) (pokT_ok _ _ _ _ _ (m', -1) true rfl)
end Go.Proofs.Ytkjeedlkkpgopaa.Z
