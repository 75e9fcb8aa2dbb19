
/- Has no move of one call the number of one of another? No statement of the program. -/
import Derived.Test.YtkjeedlkkpgopaaWE
namespace Go.Proofs.Ytkjeedlkkpgopaa.Z
open Go Go.RowKit
set_option linter.unusedSimpArgs false
set_option linter.unusedVariables false

def ir39 : IR := (.seq (.ops [⟨(some 2), (.mv (.k (.c (.v (.bool false))))), none⟩]) (.kill [1, 2, 3, 4, 5, 6, 7, 8, 9, 10, 11] (.seq (.ops [⟨(some 3), (.mv (.k (.c (.v (.slice none 0 0))))), none⟩]) (.seq (.seq (.ops [⟨(some 4), (.mv (.k (.c (.v (.int .i64 0))))), none⟩]) (.blk 0 (.loop (.seq (.seq (.ops [⟨(some 6), (.mv (.t 4)), none⟩, ⟨(some 7), (.mv (.t 0)), none⟩, ⟨(some 8), (.len (.t 7)), none⟩, ⟨(some 9), (.bin .lss (.t 6) (.t 8)), none⟩]) (.kill [6, 7, 8, 10, 11, 12, 13, 14, 15, 16, 17, 18, 19, 20, 21, 22, 23, 24, 25, 26, 27, 28, 29, 30, 31, 32, 33, 34, 35, 36, 37, 38, 39, 40, 41, 42, 43, 44, 45, 46, 47, 48, 49, 50, 51, 52, 53] (.cond (.t 9) .skip (.exit 0)))) (.kill [9] (.seq (.blk 1 (.seq (.ops [⟨(some 12), (.mv (.t 3)), none⟩, ⟨(some 13), (.mv (.t 0)), none⟩, ⟨(some 14), (.mv (.t 4)), none⟩, ⟨(some 15), (.ia 9 (.t 13) (.t 14)), none⟩, ⟨(some 16), (.fa 4 (.t 15)), none⟩, ⟨(some 17), (.ld false 1 (.t 16)), none⟩, ⟨(some 18), (.mv (.t 4)), none⟩, ⟨(some 19), (.build [(.v (.int .i64 0)), (.v (.int .i64 0))] [(0, (1, (.t 17))), (1, (1, (.t 18)))]), none⟩, ⟨(some 20), (.mkSl 89 1 2 [(.v (.int .i64 0)), (.v (.int .i64 0))] [(0, (2, (.t 19)))]), none⟩, ⟨(some 21), (.app 89 2 16 [(.v (.int .i64 0)), (.v (.int .i64 0))] (.t 12) (.t 20)), none⟩, ⟨(some 3), (.mv (.t 21)), none⟩]) (.kill [12, 13, 14, 15, 16, 17, 18, 19, 20, 21] (.seq (.seq (.ops [⟨(some 22), (.mv (.t 0)), none⟩, ⟨(some 23), (.mv (.t 4)), none⟩, ⟨(some 24), (.ia 9 (.t 22) (.t 23)), none⟩, ⟨(some 25), (.fa 5 (.t 24)), none⟩, ⟨(some 26), (.ld false 1 (.t 25)), none⟩, ⟨(some 27), (.bin .neq (.t 26) (.k (.c (.v (.int .i64 (-1)))))), none⟩]) (.kill [22, 23, 24, 25, 26] (.cond (.t 27) (.ops [⟨(some 28), (.mv (.t 3)), none⟩, ⟨(some 29), (.mv (.t 0)), none⟩, ⟨(some 30), (.mv (.t 4)), none⟩, ⟨(some 31), (.ia 9 (.t 29) (.t 30)), none⟩, ⟨(some 32), (.fa 5 (.t 31)), none⟩, ⟨(some 33), (.ld false 1 (.t 32)), none⟩, ⟨(some 34), (.mv (.t 4)), none⟩, ⟨(some 35), (.build [(.v (.int .i64 0)), (.v (.int .i64 0))] [(0, (1, (.t 33))), (1, (1, (.t 34)))]), none⟩, ⟨(some 36), (.mkSl 89 1 2 [(.v (.int .i64 0)), (.v (.int .i64 0))] [(0, (2, (.t 35)))]), none⟩, ⟨(some 37), (.app 89 2 16 [(.v (.int .i64 0)), (.v (.int .i64 0))] (.t 28) (.t 36)), none⟩, ⟨(some 3), (.mv (.t 37)), none⟩]) .skip))) (.kill [27, 28, 29, 30, 31, 32, 33, 34, 35, 36, 37] (.seq (.ops [⟨(some 38), (.mv (.t 0)), none⟩, ⟨(some 39), (.mv (.t 4)), none⟩, ⟨(some 40), (.ia 9 (.t 38) (.t 39)), none⟩, ⟨(some 41), (.fa 6 (.t 40)), none⟩, ⟨(some 42), (.ld false 1 (.t 41)), none⟩, ⟨(some 43), (.bin .neq (.t 42) (.k (.c (.v (.int .i64 (-1)))))), none⟩]) (.kill [38, 39, 40, 41, 42] (.cond (.t 43) (.ops [⟨(some 44), (.mv (.t 3)), none⟩, ⟨(some 45), (.mv (.t 0)), none⟩, ⟨(some 46), (.mv (.t 4)), none⟩, ⟨(some 47), (.ia 9 (.t 45) (.t 46)), none⟩, ⟨(some 48), (.fa 6 (.t 47)), none⟩, ⟨(some 49), (.ld false 1 (.t 48)), none⟩, ⟨(some 50), (.mv (.t 4)), none⟩, ⟨(some 51), (.build [(.v (.int .i64 0)), (.v (.int .i64 0))] [(0, (1, (.t 49))), (1, (1, (.t 50)))]), none⟩, ⟨(some 52), (.mkSl 89 1 2 [(.v (.int .i64 0)), (.v (.int .i64 0))] [(0, (2, (.t 51)))]), none⟩, ⟨(some 53), (.app 89 2 16 [(.v (.int .i64 0)), (.v (.int .i64 0))] (.t 44) (.t 52)), none⟩, ⟨(some 3), (.mv (.t 53)), none⟩]) .skip)))))))) (.kill [12, 13, 14, 15, 16, 17, 18, 19, 20, 21, 22, 23, 24, 25, 26, 27, 28, 29, 30, 31, 32, 33, 34, 35, 36, 37, 38, 39, 40, 41, 42, 43, 44, 45, 46, 47, 48, 49, 50, 51, 52, 53] (.ops [⟨(some 10), (.mv (.t 4)), none⟩, ⟨(some 11), (.bin .add (.t 10) (.k (.c (.v (.int .i64 1))))), none⟩, ⟨(some 4), (.mv (.t 11)), none⟩])))))))) (.kill [0, 4, 6, 7, 8, 9, 10, 11, 12, 13, 14, 15, 16, 17, 18, 19, 20, 21, 22, 23, 24, 25, 26, 27, 28, 29, 30, 31, 32, 33, 34, 35, 36, 37, 38, 39, 40, 41, 42, 43, 44, 45, 46, 47, 48, 49, 50, 51, 52, 53] (.seq (.ops [⟨(some 54), (.mv (.t 3)), none⟩, ⟨(some 55), (.call 57 [(.t 54)]), none⟩, ⟨(some 3), (.mv (.t 55)), none⟩]) (.kill [54, 55] (.seq (.seq (.ops [⟨(some 5), (.mv (.k (.c (.v (.int .i64 1))))), none⟩]) (.blk 2 (.loop (.seq (.seq (.ops [⟨(some 56), (.mv (.t 5)), none⟩, ⟨(some 57), (.mv (.t 3)), none⟩, ⟨(some 58), (.len (.t 57)), none⟩, ⟨(some 59), (.bin .lss (.t 56) (.t 58)), none⟩]) (.kill [2, 56, 57, 58, 60, 61, 62, 63, 64, 65, 66, 67, 68, 69, 70, 71, 72, 73, 74, 75, 76, 77, 78, 79, 80, 81, 82, 83, 84, 85, 86, 87] (.cond (.t 59) .skip (.exit 2)))) (.kill [59] (.seq (.blk 3 (.seq (.draw [(⟨(some 62), (.mv (.t 3)), none⟩, ([], [63, 67, 68, 69, 70, 71, 72])), (⟨(some 63), (.mv (.t 5)), none⟩, ([0], [62, 67, 68, 69, 70, 71, 72])), (⟨(some 64), (.ia 2 (.t 62) (.t 63)), none⟩, ([], [67, 68, 69, 70, 71, 72])), (⟨(some 65), (.fa 0 (.t 64)), none⟩, ([], [67, 68, 69, 70, 71, 72])), (⟨(some 66), (.ld false 1 (.t 65)), none⟩, ([], [67, 68, 69, 70, 71, 72])), (⟨(some 67), (.mv (.t 3)), none⟩, ([0, 1, 2, 3, 4], [62, 63, 64, 65, 66, 68, 69])), (⟨(some 68), (.mv (.t 5)), none⟩, ([0, 1, 2, 3, 4, 5], [62, 63, 64, 65, 66, 67])), (⟨(some 69), (.bin .sub (.t 68) (.k (.c (.v (.int .i64 1))))), none⟩, ([0, 1, 2, 3, 4, 5], [62, 63, 64, 65, 66, 67])), (⟨(some 70), (.ia 2 (.t 67) (.t 69)), none⟩, ([0, 1, 2, 3, 4], [62, 63, 64, 65, 66])), (⟨(some 71), (.fa 0 (.t 70)), none⟩, ([0, 1, 2, 3, 4], [62, 63, 64, 65, 66])), (⟨(some 72), (.ld false 1 (.t 71)), none⟩, ([0, 1, 2, 3, 4], [62, 63, 64, 65, 66])), (⟨(some 73), (.bin .eql (.t 66) (.t 72)), none⟩, ([], [])), (⟨(some 74), (.mv (.t 73)), none⟩, ([], [])), (⟨(some 75), (.mv (.t 3)), (some (74, true))⟩, ([], [76, 80, 81, 82, 83, 84, 85])), (⟨(some 76), (.mv (.t 5)), (some (74, true))⟩, ([13], [75, 80, 81, 82, 83, 84, 85])), (⟨(some 77), (.ia 2 (.t 75) (.t 76)), (some (74, true))⟩, ([], [80, 81, 82, 83, 84, 85])), (⟨(some 78), (.fa 1 (.t 77)), (some (74, true))⟩, ([], [80, 81, 82, 83, 84, 85])), (⟨(some 79), (.ld false 1 (.t 78)), (some (74, true))⟩, ([], [80, 81, 82, 83, 84, 85])), (⟨(some 80), (.mv (.t 3)), (some (74, true))⟩, ([13, 14, 15, 16, 17], [75, 76, 77, 78, 79, 81, 82])), (⟨(some 81), (.mv (.t 5)), (some (74, true))⟩, ([13, 14, 15, 16, 17, 18], [75, 76, 77, 78, 79, 80])), (⟨(some 82), (.bin .sub (.t 81) (.k (.c (.v (.int .i64 1))))), (some (74, true))⟩, ([13, 14, 15, 16, 17, 18], [75, 76, 77, 78, 79, 80])), (⟨(some 83), (.ia 2 (.t 80) (.t 82)), (some (74, true))⟩, ([13, 14, 15, 16, 17], [75, 76, 77, 78, 79])), (⟨(some 84), (.fa 1 (.t 83)), (some (74, true))⟩, ([13, 14, 15, 16, 17], [75, 76, 77, 78, 79])), (⟨(some 85), (.ld false 1 (.t 84)), (some (74, true))⟩, ([13, 14, 15, 16, 17], [75, 76, 77, 78, 79])), (⟨(some 86), (.bin .neq (.t 79) (.t 85)), (some (74, true))⟩, ([], [])), (⟨(some 87), (.pick (.t 74) (.t 86) (.k (.c (.v (.bool false))))), none⟩, ([], []))]) (.kill [62, 63, 64, 65, 66, 67, 68, 69, 70, 71, 72, 73, 74, 75, 76, 77, 78, 79, 80, 81, 82, 83, 84, 85, 86] (.cond (.t 87) (.seq (.ops [⟨(some 2), (.mv (.k (.c (.v (.bool false))))), none⟩]) (.kill [3, 5, 87] .ret)) .skip)))) (.kill [2, 62, 63, 64, 65, 66, 67, 68, 69, 70, 71, 72, 73, 74, 75, 76, 77, 78, 79, 80, 81, 82, 83, 84, 85, 86, 87] (.ops [⟨(some 60), (.mv (.t 5)), none⟩, ⟨(some 61), (.bin .add (.t 60) (.k (.c (.v (.int .i64 1))))), none⟩, ⟨(some 5), (.mv (.t 61)), none⟩])))))))) (.kill [2, 3, 5, 56, 57, 58, 59, 60, 61, 62, 63, 64, 65, 66, 67, 68, 69, 70, 71, 72, 73, 74, 75, 76, 77, 78, 79, 80, 81, 82, 83, 84, 85, 86, 87] (.seq (.ops [⟨(some 2), (.mv (.k (.c (.v (.bool true))))), none⟩]) .ret))))))))))
def rs39 : List RS := [(.t 2)]
def nt39 : Nat := 88

def addM (l : List Mk) (t : Int) (i : Nat) : List Mk := if t = -1 then l else l ++ [(t, (i : Int))]
def marks (xs : List Cl) : Nat → List Mk
  | 0 => []
  | i + 1 => addM (addM (marks xs i ++ [((xs.getD i cl0).beg, (i : Int))]) (xs.getD i cl0).fin i) (xs.getD i cl0).point i
theorem addM_len (l : List Mk) (t : Int) (i : Nat) : (addM l t i).length ≤ l.length + 1 := by unfold addM; split <;> simp
theorem marks_len (xs : List Cl) : ∀ i, (marks xs i).length ≤ 3 * i
  | 0 => by simp [marks]
  | i + 1 => by
    have h1 := marks_len xs i
    have h2 := addM_len (addM (marks xs i ++ [((xs.getD i cl0).beg, (i : Int))]) (xs.getD i cl0).fin i) (xs.getD i cl0).point i
    have h3 := addM_len (marks xs i ++ [((xs.getD i cl0).beg, (i : Int))]) (xs.getD i cl0).fin i
    simp only [marks]
    simp only [List.length_append, List.length_cons, List.length_nil] at h3
    omega
theorem mem_addM {l : List Mk} {t : Int} {i : Nat} {m : Mk} : m ∈ addM l t i ↔ m ∈ l ∨ (t ≠ -1 ∧ m = (t, (i : Int))) := by
  unfold addM
  split
  · next h => simp [h]
  · next h => simp [h]
theorem mem_marks {xs : List Cl} (hb : ∀ k, k < xs.length → (xs.getD k cl0).beg ≠ -1) : ∀ {i : Nat}, i ≤ xs.length → ∀ {m : Mk}, m ∈ marks xs i ↔ ∃ j : Nat, j < i ∧ m.2 = j ∧ m.1 ∈ (xs.getD j cl0).moves ∧ m.1 ≠ -1
  | 0, _, m => by simp [marks]
  | i + 1, hi, m => by
    simp only [marks, mem_addM, List.mem_append, List.mem_singleton, mem_marks hb (Nat.le_of_succ_le hi)]
    have hbi := hb i (by omega)
    constructor
    · rintro (((⟨j, h1, h2⟩ | rfl) | ⟨h, rfl⟩) | ⟨h, rfl⟩)
      · exact ⟨j, by omega, h2⟩
      · exact ⟨i, by omega, rfl, by simp [Cl.moves], hbi⟩
      · exact ⟨i, by omega, rfl, by simp [Cl.moves], h⟩
      · exact ⟨i, by omega, rfl, by simp [Cl.moves], h⟩
    · rintro ⟨j, h1, h2, h3, h4⟩
      by_cases hji : j = i
      · subst hji
        obtain ⟨a, b⟩ := m
        simp only at h2 h3 h4
        subst h2
        simp only [Cl.moves, List.mem_cons, List.not_mem_nil, or_false] at h3
        rcases h3 with rfl | rfl | rfl
        · exact Or.inl (Or.inl (Or.inr rfl))
        · exact Or.inl (Or.inr ⟨h4, rfl⟩)
        · exact Or.inr ⟨h4, rfl⟩
      · exact Or.inl (Or.inl (Or.inl ⟨j, by omega, h2, h3, h4⟩))

/-- two that stand side by side: the same move of two calls -/
def clash (ys : List Mk) (p : Nat) : Prop := (ys.getD p mk0).1 = (ys.getD (p - 1) mk0).1 ∧ (ys.getD p mk0).2 ≠ (ys.getD (p - 1) mk0).2
theorem chain_eq {ys : List Mk} (hs : ys.Pairwise fun a b => leM a b = true) (hc : ∀ p, 1 ≤ p → p < ys.length → ¬ clash ys p) : ∀ (q p : Nat), p ≤ q → q < ys.length → (ys.getD p mk0).1 = (ys.getD q mk0).1 → (ys.getD p mk0).2 = (ys.getD q mk0).2
  | 0, p, hp, hq, h => by
    have : p = 0 := by omega
    subst this; rfl
  | q + 1, p, hp, hq, h => by
    by_cases e : p = q + 1
    · subst e; rfl
    · have le : ∀ a b, a < b → b < ys.length → (ys.getD a mk0).1 ≤ (ys.getD b mk0).1 := fun a b hab hb => by
        have := List.pairwise_iff_getElem.1 hs a b (by omega) hb hab
        simp only [leM, decide_eq_true_eq] at this
        simpa [List.getD_eq_getElem?_getD, List.getElem?_eq_getElem hb, List.getElem?_eq_getElem (show a < ys.length by omega)] using this
      have h1 : (ys.getD p mk0).1 ≤ (ys.getD q mk0).1 := by
        by_cases e2 : p = q
        · subst e2; exact Int.le_refl _
        · exact le p q (by omega) (by omega)
      have h2 := le q (q + 1) (by omega) hq
      have h3 : (ys.getD p mk0).1 = (ys.getD q mk0).1 := by omega
      rw [chain_eq hs hc q p (by omega) (by omega) h3]
      have := hc (q + 1) (by omega) hq
      simp only [clash, Nat.add_sub_cancel, not_and, Decidable.not_not] at this
      exact (this (by omega)).symm
theorem clash_bad {xs : List Cl} (hb : ∀ k, k < xs.length → (xs.getD k cl0).beg ≠ -1) {ys : List Mk} (hp : ys.Perm (marks xs xs.length)) {p : Nat} (h1 : 1 ≤ p) (h2 : p < ys.length) (h : clash ys p) : ¬ InvB xs xs.length := by
  have mem : ∀ q, q < ys.length → ys.getD q mk0 ∈ marks xs xs.length := fun q hq => by
    refine hp.mem_iff.1 ?_
    rw [List.getD_eq_getElem?_getD, List.getElem?_eq_getElem hq]
    exact List.getElem_mem hq
  obtain ⟨j, g1, g2, g3, g4⟩ := (mem_marks hb (Nat.le_refl _)).1 (mem p h2)
  obtain ⟨k, f1, f2, f3, f4⟩ := (mem_marks hb (Nat.le_refl _)).1 (mem (p - 1) (by omega))
  obtain ⟨e1, e2⟩ := h
  rw [← e1] at f3
  intro hB
  rcases Nat.lt_trichotomy j k with hjk | hjk | hjk
  · exact hB j k hjk f1 _ g4 g3 f3
  · exact e2 (by rw [g2, f2, hjk])
  · exact hB k j hjk g1 _ g4 f3 g3
theorem clash_good {xs : List Cl} (hb : ∀ k, k < xs.length → (xs.getD k cl0).beg ≠ -1) {ys : List Mk} (hp : ys.Perm (marks xs xs.length)) (hs : ys.Pairwise fun a b => leM a b = true) (h : ∀ p, 1 ≤ p → p < ys.length → ¬ clash ys p) : InvB xs xs.length := by
  intro j k hj hk t ht h1 h2
  have m1 := hp.mem_iff.2 ((mem_marks hb (Nat.le_refl _) (m := (t, (j : Int)))).2 ⟨j, by omega, rfl, h1, ht⟩)
  have m2 := hp.mem_iff.2 ((mem_marks hb (Nat.le_refl _) (m := (t, (k : Int)))).2 ⟨k, by omega, rfl, h2, ht⟩)
  obtain ⟨p, p1, p2⟩ := List.mem_iff_getElem.1 m1
  obtain ⟨q, q1, q2⟩ := List.mem_iff_getElem.1 m2
  have ep : ys.getD p mk0 = (t, (j : Int)) := by rw [List.getD_eq_getElem?_getD, List.getElem?_eq_getElem p1, p2]; rfl
  have eq : ys.getD q mk0 = (t, (k : Int)) := by rw [List.getD_eq_getElem?_getD, List.getElem?_eq_getElem q1, q2]; rfl
  rcases Nat.le_total p q with hpq | hpq
  · have := chain_eq hs h q p hpq q1 (by rw [ep, eq])
    rw [ep, eq] at this
    simp only at this
    omega
  · have := chain_eq hs h p q hpq p1 (by rw [ep, eq])
    rw [ep, eq] at this
    simp only at this
    omega

set_option maxRecDepth 100000 in
set_option maxHeartbeats 400000 in
theorem apart_calls (w : World) (v : Value) (xs : List Cl) (b : Bool) (hbt : InvB xs xs.length → b = true) (hbf : ¬ InvB xs xs.length → b = false) (hbe : ∀ k, k < xs.length → (xs.getD k cl0).beg ≠ -1) (hsz : xs.length * 72 ≤ 140737488355328) (h : Arr w Cl.enc 9 v xs) : Calls Try.prog 39 #[v] w (RetV w (.bool b)) := by
  refine calls_sym (c := ir39) (C := mkC Try.prog [] w rs39 (RetV w (.bool b))) 1000 [.c (.xv (0, 0, 0))] 
    (E1 v) [] [(0, .one (arrOf Cl.enc 9 xs cl0))] [] 1 nt39 _ (mkTab_ok _ _) Try.func39 rfl (by kernel_rfl) (by kernel_rfl) rfl rfl rfl (E1_one (arr_one h))
    (fun E' hE' => ?_) (of_decide_eq_true rfl) (fun E' hE' => inOk_arrs fun w' hw' x A hA => ?_) ?_
  · have e0 := (hE' (0, 0, 0) (by decide)).2.2.2
    simp [SV.den, SC.den, e0, E1]
  · have e0 := (hE' (0, 0, 0) (by decide)).2.2.2
    rcases atN_one hA with ⟨rfl, rfl⟩ | hA
    · exact arr1 cl_ok e0 h hw'
    exact (atN_nil hA).elim
  simp only [ir39, nt39, rs39, ex_nil, ex_skip, ex_ops, ex_draw, ex_seq, ex_cond, ex_blk, ex_loop, ex_exit, ex_ret, ex_mark, ex_kill, ex_pop, ex_onil, ex_op, ex_opg, ↓condS, ↓exitS, ↓gateS, ↓runOp, thenS, stepOut, St.ev, look, setL, mergeL, dropL, memB, atN, pkN, setN, Fm.get, Fm.pk, Fm.set, St.app, St.putT, St.skipT, St.setB, St.kill, St.call, St.setA, St.resS, specS, specO, specC, chain, chainP, inCh, resV, rsvP, resT, slot1, slotL, pureSlots, St.evW, resA1, resAP, resA, gB, specD, specDO, recG, pure1, pureO, SV.cells, SC.one, allOne, fillP, put, take', drop', len', nth, binI, eqCells, SC.bool?, SC.nil?, neg?, evs, evC, popTo, resL, resP, resSV, oneSV, finS, retS, dr_nil, dr_cons, ↓gateD, ↓runD, thenD, recOf, skipR, wrOk, wrFree, wkImp, St.weak, thenW, recW, fimp_mpe, newOk, outOk, St.appN, St.hid, St.only, keepK, useO, idX, idC, tchs, keyss, Rec.tch, keysL, ltAll, enumT, slSrc, slB, slM, SV.int?, segs, keyOf, intsOf, Value.oneCell', ↓imp_ft, ↓imp_tf, ↓imp_tt, ↓imp_ff, ↓imp_fn, ↓imp_tn, ↓imp_fy, ↓imp_ty, ↓reduceIte, Nat.reduceLT, Nat.reduceLeDiff, Nat.reduceAdd, Nat.reduceSub, Nat.reduceMul, Nat.reduceEqDiff, reduceCtorEq, and_self, and_true, true_and, and_false, false_and, not_true_eq_false, not_false_eq_true, List.map_cons, List.map_nil, List.cons_append, List.nil_append, List.append_nil, Option.bind_some, Option.bind_none, Int.reduceToNat, Int.reduceEq, Int.reduceBEq, Int.reduceBNe, Int.reduceLT, Int.reduceLE, Int.reduceNeg, Bool.true_and, Bool.and_true, Bool.false_and, Bool.and_false, Bool.not_true, Bool.not_false, Bool.not_not, Bool.true_beq, Bool.false_beq, Bool.bne_true, Bool.bne_false, Bool.true_bne, Bool.false_bne, Option.map_some, Option.map_none, beq_self_eq_true, bne_self_eq_false, Bool.false_eq_true, Bool.true_eq_false, Nat.zero_add, Nat.add_zero, forall_const, implies_true, true_implies, false_implies, Int.cast_ofNat_Int, Int.natCast_nonneg, Int.ofNat_lt, Int.toNat_natCast, mkC_rs, decide_true, decide_false, List.length_cons, List.length_nil, Prod.mk.injEq, Nat.reduceEqDiff, Option.some.injEq, arrOf_len, arrOf_size, arrOf_at, wr_lit, wr_litu, Int.reduceAdd, Int.reduceSub, Int.reduceMul, Int.reduceGE, Int.reduceGT, endO, Nat.sub_zero, Cl.enc, iv, ex_back]
  refine loopI (ι := { i : Nat // i ≤ xs.length }) (fun i => ⟨88, [(0, .c (.xv (0, 0, 0))), (3, .c (.sl (1, 0, 0) 2 0 (marks xs i.1).length none)), (4, .c (.v (.int .i64 (i.1 : Nat))))], [(1, .one (.ar (marks xs i.1).length 2 (ats mkE (marks xs i.1) mk0) 89))], [(0, .one (arrOf Cl.enc 9 xs cl0))], [], 2⟩)
    (fun i => xs.length - i.1) ⟨0, by omega⟩ ?_ ?_
  · refine le_nilown (tmps' := [(0, .c (.xv (0, 0, 0))), (3, .c (.sl (1, 0, 0) 2 0 0 none)), (4, .c (.v (.int .i64 0)))]) 2 89 (ats mkE [] mk0) (by simp [TmpsNil, look]) rfl
  rintro ⟨i, hi⟩
  simp only [ex_nil, ex_skip, ex_ops, ex_draw, ex_seq, ex_cond, ex_blk, ex_loop, ex_exit, ex_ret, ex_mark, ex_kill, ex_pop, ex_onil, ex_op, ex_opg, ↓condS, ↓exitS, ↓gateS, ↓runOp, thenS, stepOut, St.ev, look, setL, mergeL, dropL, memB, atN, pkN, setN, Fm.get, Fm.pk, Fm.set, St.app, St.putT, St.skipT, St.setB, St.kill, St.call, St.setA, St.resS, specS, specO, specC, chain, chainP, inCh, resV, rsvP, resT, slot1, slotL, pureSlots, St.evW, resA1, resAP, resA, gB, specD, specDO, recG, pure1, pureO, SV.cells, SC.one, allOne, fillP, put, take', drop', len', nth, binI, eqCells, SC.bool?, SC.nil?, neg?, evs, evC, popTo, resL, resP, resSV, oneSV, finS, retS, dr_nil, dr_cons, ↓gateD, ↓runD, thenD, recOf, skipR, wrOk, wrFree, wkImp, St.weak, thenW, recW, fimp_mpe, newOk, outOk, St.appN, St.hid, St.only, keepK, useO, idX, idC, tchs, keyss, Rec.tch, keysL, ltAll, enumT, slSrc, slB, slM, SV.int?, segs, keyOf, intsOf, Value.oneCell', ↓imp_ft, ↓imp_tf, ↓imp_tt, ↓imp_ff, ↓imp_fn, ↓imp_tn, ↓imp_fy, ↓imp_ty, ↓reduceIte, Nat.reduceLT, Nat.reduceLeDiff, Nat.reduceAdd, Nat.reduceSub, Nat.reduceMul, Nat.reduceEqDiff, reduceCtorEq, and_self, and_true, true_and, and_false, false_and, not_true_eq_false, not_false_eq_true, List.map_cons, List.map_nil, List.cons_append, List.nil_append, List.append_nil, Option.bind_some, Option.bind_none, Int.reduceToNat, Int.reduceEq, Int.reduceBEq, Int.reduceBNe, Int.reduceLT, Int.reduceLE, Int.reduceNeg, Bool.true_and, Bool.and_true, Bool.false_and, Bool.and_false, Bool.not_true, Bool.not_false, Bool.not_not, Bool.true_beq, Bool.false_beq, Bool.bne_true, Bool.bne_false, Bool.true_bne, Bool.false_bne, Option.map_some, Option.map_none, beq_self_eq_true, bne_self_eq_false, Bool.false_eq_true, Bool.true_eq_false, Nat.zero_add, Nat.add_zero, forall_const, implies_true, true_implies, false_implies, Int.cast_ofNat_Int, Int.natCast_nonneg, Int.ofNat_lt, Int.toNat_natCast, mkC_rs, decide_true, decide_false, List.length_cons, List.length_nil, Prod.mk.injEq, Nat.reduceEqDiff, Option.some.injEq, arrOf_len, arrOf_size, arrOf_at, wr_lit, wr_litu, Int.reduceAdd, Int.reduceSub, Int.reduceMul, Int.reduceGE, Int.reduceGT, endO, Nat.sub_zero, Cl.enc, iv, ex_back, mkE]
  refine both (fun hlt => ?_) (fun hge => ?_)
  · rw [decide_eq_true_eq] at hlt
    have hml := marks_len xs i
    have hmx : maxLen = 9223372036854775807 := by decide
    refine ⟨hlt, hlt, hlt, by decide, ⟨Nat.le_refl _, by omega, by omega⟩, hlt, hlt, hlt, fun hf => ?_, fun hf => ?_⟩
    · refine ⟨hlt, hlt, hlt, by decide, ⟨Nat.le_refl _, by omega, by omega⟩, hlt, hlt, hlt, fun hp => ?_, fun hp => ?_⟩
      · have hm : marks xs (i + 1) = marks xs i ++ [((xs.getD i cl0).beg, (i : Int))] ++ [((xs.getD i cl0).fin, (i : Int))] ++ [((xs.getD i cl0).point, (i : Int))] := by
          simp only [b_decR, b_decL, bt_ite, bf_ite, bt_dec, bf_dec, bt_int, bf_int, bt_nint, bf_nint, bt_bool, bf_bool, bt_nbool, bf_nbool, bt_not, bf_not, bt_and, bf_and, bt_or, bf_or, Bool.false_eq_true, Bool.true_eq_false, Bool.not_eq_true, Bool.not_eq_false, reduceCtorEq, false_iff, true_iff, iff_false, iff_true, and_true, true_and, and_false, false_and, or_true, true_or, or_false, false_or, not_true_eq_false, not_false_eq_true, ne_eq] at hf hp
          simp only [marks, addM]
          simp only [hf, hp, if_true, if_false, ↓reduceIte, not_true_eq_false]
        refine ⟨hlt, hlt, hlt, by decide, ⟨Nat.le_refl _, by omega, by omega⟩, ?_⟩
        refine backI ⟨i + 1, by omega⟩ (by simp only; omega) ?_
        rw [wr_succ (by omega)]
        simp only [hm]
        exact le_ren (fun i => if i = 1 then 7 else i) rfl rfl (by simp [TmpsLe, look, SV.ren, SC.ren, idσ, SV.okN, SC.okN]) ⟨⟨show (1 : Nat) < 2 from by decide, arLe_of (by simp) (ats_snoc' (by simp) (ats_snoc' (by simp) (ats_snoc' rfl (fun e he => rfl) rfl) rfl) rfl)⟩, trivial⟩ ⟨⟨show (0 : Nat) < 2 from by decide, arrLe_of⟩, trivial⟩ rfl
      · have hm : marks xs (i + 1) = marks xs i ++ [((xs.getD i cl0).beg, (i : Int))] ++ [((xs.getD i cl0).fin, (i : Int))] := by
          simp only [b_decR, b_decL, bt_ite, bf_ite, bt_dec, bf_dec, bt_int, bf_int, bt_nint, bf_nint, bt_bool, bf_bool, bt_nbool, bf_nbool, bt_not, bf_not, bt_and, bf_and, bt_or, bf_or, Bool.false_eq_true, Bool.true_eq_false, Bool.not_eq_true, Bool.not_eq_false, reduceCtorEq, false_iff, true_iff, iff_false, iff_true, and_true, true_and, and_false, false_and, or_true, true_or, or_false, false_or, not_true_eq_false, not_false_eq_true, ne_eq] at hf hp
          simp only [marks, addM]
          simp only [hf, hp, if_true, if_false, ↓reduceIte, not_true_eq_false]
        refine backI ⟨i + 1, by omega⟩ (by simp only; omega) ?_
        rw [wr_succ (by omega)]
        simp only [hm]
        exact le_ren (fun i => if i = 1 then 5 else i) rfl rfl (by simp [TmpsLe, look, SV.ren, SC.ren, idσ, SV.okN, SC.okN]) ⟨⟨show (1 : Nat) < 2 from by decide, arLe_of (by simp) (ats_snoc' (by simp) (ats_snoc' rfl (fun e he => rfl) rfl) rfl)⟩, trivial⟩ ⟨⟨show (0 : Nat) < 2 from by decide, arrLe_of⟩, trivial⟩ rfl
    · refine ⟨hlt, hlt, hlt, fun hp => ?_, fun hp => ?_⟩
      · have hm : marks xs (i + 1) = marks xs i ++ [((xs.getD i cl0).beg, (i : Int))] ++ [((xs.getD i cl0).point, (i : Int))] := by
          simp only [b_decR, b_decL, bt_ite, bf_ite, bt_dec, bf_dec, bt_int, bf_int, bt_nint, bf_nint, bt_bool, bf_bool, bt_nbool, bf_nbool, bt_not, bf_not, bt_and, bf_and, bt_or, bf_or, Bool.false_eq_true, Bool.true_eq_false, Bool.not_eq_true, Bool.not_eq_false, reduceCtorEq, false_iff, true_iff, iff_false, iff_true, and_true, true_and, and_false, false_and, or_true, true_or, or_false, false_or, not_true_eq_false, not_false_eq_true, ne_eq] at hf hp
          simp only [marks, addM]
          simp only [hf, hp, if_true, if_false, ↓reduceIte, not_true_eq_false]
        refine ⟨hlt, hlt, hlt, by decide, ⟨Nat.le_refl _, by omega, by omega⟩, ?_⟩
        refine backI ⟨i + 1, by omega⟩ (by simp only; omega) ?_
        rw [wr_succ (by omega)]
        simp only [hm]
        exact le_ren (fun i => if i = 1 then 5 else i) rfl rfl (by simp [TmpsLe, look, SV.ren, SC.ren, idσ, SV.okN, SC.okN]) ⟨⟨show (1 : Nat) < 2 from by decide, arLe_of (by simp) (ats_snoc' (by simp) (ats_snoc' rfl (fun e he => rfl) rfl) rfl)⟩, trivial⟩ ⟨⟨show (0 : Nat) < 2 from by decide, arrLe_of⟩, trivial⟩ rfl
      · have hm : marks xs (i + 1) = marks xs i ++ [((xs.getD i cl0).beg, (i : Int))] := by
          simp only [b_decR, b_decL, bt_ite, bf_ite, bt_dec, bf_dec, bt_int, bf_int, bt_nint, bf_nint, bt_bool, bf_bool, bt_nbool, bf_nbool, bt_not, bf_not, bt_and, bf_and, bt_or, bf_or, Bool.false_eq_true, Bool.true_eq_false, Bool.not_eq_true, Bool.not_eq_false, reduceCtorEq, false_iff, true_iff, iff_false, iff_true, and_true, true_and, and_false, false_and, or_true, true_or, or_false, false_or, not_true_eq_false, not_false_eq_true, ne_eq] at hf hp
          simp only [marks, addM]
          simp only [hf, hp, if_true, if_false, ↓reduceIte, not_true_eq_false]
        refine backI ⟨i + 1, by omega⟩ (by simp only; omega) ?_
        rw [wr_succ (by omega)]
        simp only [hm]
        exact le_ren (fun i => if i = 1 then 3 else i) rfl rfl (by simp [TmpsLe, look, SV.ren, SC.ren, idσ, SV.okN, SC.okN]) ⟨⟨show (1 : Nat) < 2 from by decide, arLe_of (by simp) (ats_snoc' rfl (fun e he => rfl) rfl)⟩, trivial⟩ ⟨⟨show (0 : Nat) < 2 from by decide, arrLe_of⟩, trivial⟩ rfl
  · rw [decide_eq_false_iff_not] at hge
    have hin : i = xs.length := by omega
    subst hin
    have hml := marks_len xs xs.length
    refine call_freeze [] 1 (marks xs xs.length).length 2 (marks xs xs.length).length 89 (ats mkE (marks xs xs.length) mk0) _ [.c (.xv (2, 0, 0))] rfl (Nat.le_refl _) (by decide) trivial (fun E E' hE hx => by simp only [List.map_cons, List.map_nil, den_c, SC.den, hx]) ?_
    have hperm := srt_perm ((marks xs xs.length).length + 1) (marks xs xs.length)
    have hsort := srt_sorted ((marks xs xs.length).length + 1) (marks xs xs.length) (by omega)
    have hmx : maxLen = 9223372036854775807 := by decide
    refine callA (enc := mkE) (s := 2) (xs := marks xs xs.length) (ys := srt ((marks xs xs.length).length + 1) (marks xs xs.length)) (d := mk0) mkE_ok (.xv (2, 0, 0)) [2] (fun i hi => by simp only [List.mem_singleton] at hi; subst hi; exact Nat.lt_succ_self _) (fun E E2 hE => ?_) (fun E w'' hh => ?_) (fun w v hv => sorted_calls _ w v _ (by omega) (by omega) hv) ?_
    · simp only [SC.den, (hE (2, 0, 0) (by simp)).2.2.2]
    · exact arr_of (d := mk0) (hh.1 (2, 0, 0) _ rfl)
    have hyl : (srt ((marks xs xs.length).length + 1) (marks xs xs.length)).length ≤ 3 * xs.length := by rw [srt_len]; exact hml
    generalize srt ((marks xs xs.length).length + 1) (marks xs xs.length) = ys at hperm hsort hyl
    simp only [ex_nil, ex_skip, ex_ops, ex_draw, ex_seq, ex_cond, ex_blk, ex_loop, ex_exit, ex_ret, ex_mark, ex_kill, ex_pop, ex_onil, ex_op, ex_opg, ↓condS, ↓exitS, ↓gateS, ↓runOp, thenS, stepOut, St.ev, look, setL, mergeL, dropL, memB, atN, pkN, setN, Fm.get, Fm.pk, Fm.set, St.app, St.putT, St.skipT, St.setB, St.kill, St.call, St.setA, St.resS, specS, specO, specC, chain, chainP, inCh, resV, rsvP, resT, slot1, slotL, pureSlots, St.evW, resA1, resAP, resA, gB, specD, specDO, recG, pure1, pureO, SV.cells, SC.one, allOne, fillP, put, take', drop', len', nth, binI, eqCells, SC.bool?, SC.nil?, neg?, evs, evC, popTo, resL, resP, resSV, oneSV, finS, retS, dr_nil, dr_cons, ↓gateD, ↓runD, thenD, recOf, skipR, wrOk, wrFree, wkImp, St.weak, thenW, recW, fimp_mpe, newOk, outOk, St.appN, St.hid, St.only, keepK, useO, idX, idC, tchs, keyss, Rec.tch, keysL, ltAll, enumT, slSrc, slB, slM, SV.int?, segs, keyOf, intsOf, Value.oneCell', ↓imp_ft, ↓imp_tf, ↓imp_tt, ↓imp_ff, ↓imp_fn, ↓imp_tn, ↓imp_fy, ↓imp_ty, ↓reduceIte, Nat.reduceLT, Nat.reduceLeDiff, Nat.reduceAdd, Nat.reduceSub, Nat.reduceMul, Nat.reduceEqDiff, reduceCtorEq, and_self, and_true, true_and, and_false, false_and, not_true_eq_false, not_false_eq_true, List.map_cons, List.map_nil, List.cons_append, List.nil_append, List.append_nil, Option.bind_some, Option.bind_none, Int.reduceToNat, Int.reduceEq, Int.reduceBEq, Int.reduceBNe, Int.reduceLT, Int.reduceLE, Int.reduceNeg, Bool.true_and, Bool.and_true, Bool.false_and, Bool.and_false, Bool.not_true, Bool.not_false, Bool.not_not, Bool.true_beq, Bool.false_beq, Bool.bne_true, Bool.bne_false, Bool.true_bne, Bool.false_bne, Option.map_some, Option.map_none, beq_self_eq_true, bne_self_eq_false, Bool.false_eq_true, Bool.true_eq_false, Nat.zero_add, Nat.add_zero, forall_const, implies_true, true_implies, false_implies, Int.cast_ofNat_Int, Int.natCast_nonneg, Int.ofNat_lt, Int.toNat_natCast, mkC_rs, decide_true, decide_false, List.length_cons, List.length_nil, Prod.mk.injEq, Nat.reduceEqDiff, Option.some.injEq, arrOf_len, arrOf_size, arrOf_at, wr_lit, wr_litu, Int.reduceAdd, Int.reduceSub, Int.reduceMul, Int.reduceGE, Int.reduceGT, endO, Nat.sub_zero, Cl.enc, iv, ex_back]
    refine loopI (ι := { p : Nat // 1 ≤ p ∧ (∀ q, 1 ≤ q → q < p → q < ys.length → ¬ clash ys q) ∧ p ≤ ys.length + 1 }) (fun p => ⟨88, [(3, .c (.xv (3, 0, 0))), (5, .c (.v (.int .i64 (p.1 : Nat))))], [], [(3, .one (arrOf mkE 2 ys mk0))], [], 4⟩)
      (fun p => ys.length + 1 - p.1) ⟨1, Nat.le_refl _, fun q h1 h2 => by omega, by omega⟩ ?_ ?_
    · exact le_ren id rfl rfl (by simp [TmpsLe, look, SV.ren, SC.ren, idσ, SV.okN, SC.okN]) trivial ⟨⟨show (3 : Nat) < 4 from by decide, arrLe_of⟩, trivial⟩ rfl
    rintro ⟨p, hp1, hcl, hpl⟩
    simp only [ex_nil, ex_skip, ex_ops, ex_draw, ex_seq, ex_cond, ex_blk, ex_loop, ex_exit, ex_ret, ex_mark, ex_kill, ex_pop, ex_onil, ex_op, ex_opg, ↓condS, ↓exitS, ↓gateS, ↓runOp, thenS, stepOut, St.ev, look, setL, mergeL, dropL, memB, atN, pkN, setN, Fm.get, Fm.pk, Fm.set, St.app, St.putT, St.skipT, St.setB, St.kill, St.call, St.setA, St.resS, specS, specO, specC, chain, chainP, inCh, resV, rsvP, resT, slot1, slotL, pureSlots, St.evW, resA1, resAP, resA, gB, specD, specDO, recG, pure1, pureO, SV.cells, SC.one, allOne, fillP, put, take', drop', len', nth, binI, eqCells, SC.bool?, SC.nil?, neg?, evs, evC, popTo, resL, resP, resSV, oneSV, finS, retS, dr_nil, dr_cons, ↓gateD, ↓runD, thenD, recOf, skipR, wrOk, wrFree, wkImp, St.weak, thenW, recW, fimp_mpe, newOk, outOk, St.appN, St.hid, St.only, keepK, useO, idX, idC, tchs, keyss, Rec.tch, keysL, ltAll, enumT, slSrc, slB, slM, SV.int?, segs, keyOf, intsOf, Value.oneCell', ↓imp_ft, ↓imp_tf, ↓imp_tt, ↓imp_ff, ↓imp_fn, ↓imp_tn, ↓imp_fy, ↓imp_ty, ↓reduceIte, Nat.reduceLT, Nat.reduceLeDiff, Nat.reduceAdd, Nat.reduceSub, Nat.reduceMul, Nat.reduceEqDiff, reduceCtorEq, and_self, and_true, true_and, and_false, false_and, not_true_eq_false, not_false_eq_true, List.map_cons, List.map_nil, List.cons_append, List.nil_append, List.append_nil, Option.bind_some, Option.bind_none, Int.reduceToNat, Int.reduceEq, Int.reduceBEq, Int.reduceBNe, Int.reduceLT, Int.reduceLE, Int.reduceNeg, Bool.true_and, Bool.and_true, Bool.false_and, Bool.and_false, Bool.not_true, Bool.not_false, Bool.not_not, Bool.true_beq, Bool.false_beq, Bool.bne_true, Bool.bne_false, Bool.true_bne, Bool.false_bne, Option.map_some, Option.map_none, beq_self_eq_true, bne_self_eq_false, Bool.false_eq_true, Bool.true_eq_false, Nat.zero_add, Nat.add_zero, forall_const, implies_true, true_implies, false_implies, Int.cast_ofNat_Int, Int.natCast_nonneg, Int.ofNat_lt, Int.toNat_natCast, mkC_rs, decide_true, decide_false, List.length_cons, List.length_nil, Prod.mk.injEq, Nat.reduceEqDiff, Option.some.injEq, arrOf_len, arrOf_size, arrOf_at, wr_lit, wr_litu, Int.reduceAdd, Int.reduceSub, Int.reduceMul, Int.reduceGE, Int.reduceGT, endO, Nat.sub_zero, Cl.enc, iv, ex_back, mkE]
    refine both (fun hlt => ?_) (fun hge => ?_)
    · rw [decide_eq_true_eq] at hlt
      refine draw_vc (by kernel_rfl) (mkTab_ok _ _) (of_decide_eq_true rfl) (of_decide_eq_true rfl) ?_
      simp only [ex_nil, ex_skip, ex_ops, ex_draw, ex_seq, ex_cond, ex_blk, ex_loop, ex_exit, ex_ret, ex_mark, ex_kill, ex_pop, ex_onil, ex_op, ex_opg, ↓condS, ↓exitS, ↓gateS, ↓runOp, thenS, stepOut, St.ev, look, setL, mergeL, dropL, memB, atN, pkN, setN, Fm.get, Fm.pk, Fm.set, St.app, St.putT, St.skipT, St.setB, St.kill, St.call, St.setA, St.resS, specS, specO, specC, chain, chainP, inCh, resV, rsvP, resT, slot1, slotL, pureSlots, St.evW, resA1, resAP, resA, gB, specD, specDO, recG, pure1, pureO, SV.cells, SC.one, allOne, fillP, put, take', drop', len', nth, binI, eqCells, SC.bool?, SC.nil?, neg?, evs, evC, popTo, resL, resP, resSV, oneSV, finS, retS, dr_nil, dr_cons, ↓gateD, ↓runD, thenD, recOf, skipR, wrOk, wrFree, wkImp, St.weak, thenW, recW, fimp_mpe, newOk, outOk, St.appN, St.hid, St.only, keepK, useO, idX, idC, tchs, keyss, Rec.tch, keysL, ltAll, enumT, slSrc, slB, slM, SV.int?, segs, keyOf, intsOf, Value.oneCell', ↓imp_ft, ↓imp_tf, ↓imp_tt, ↓imp_ff, ↓imp_fn, ↓imp_tn, ↓imp_fy, ↓imp_ty, ↓reduceIte, Nat.reduceLT, Nat.reduceLeDiff, Nat.reduceAdd, Nat.reduceSub, Nat.reduceMul, Nat.reduceEqDiff, reduceCtorEq, and_self, and_true, true_and, and_false, false_and, not_true_eq_false, not_false_eq_true, List.map_cons, List.map_nil, List.cons_append, List.nil_append, List.append_nil, Option.bind_some, Option.bind_none, Int.reduceToNat, Int.reduceEq, Int.reduceBEq, Int.reduceBNe, Int.reduceLT, Int.reduceLE, Int.reduceNeg, Bool.true_and, Bool.and_true, Bool.false_and, Bool.and_false, Bool.not_true, Bool.not_false, Bool.not_not, Bool.true_beq, Bool.false_beq, Bool.bne_true, Bool.bne_false, Bool.true_bne, Bool.false_bne, Option.map_some, Option.map_none, beq_self_eq_true, bne_self_eq_false, Bool.false_eq_true, Bool.true_eq_false, Nat.zero_add, Nat.add_zero, forall_const, implies_true, true_implies, false_implies, Int.cast_ofNat_Int, Int.natCast_nonneg, Int.ofNat_lt, Int.toNat_natCast, mkC_rs, decide_true, decide_false, List.length_cons, List.length_nil, Prod.mk.injEq, Nat.reduceEqDiff, Option.some.injEq, arrOf_len, arrOf_size, arrOf_at, wr_lit, wr_litu, Int.reduceAdd, Int.reduceSub, Int.reduceMul, Int.reduceGE, Int.reduceGT, endO, Nat.sub_zero, Cl.enc, iv, ex_back, mkE]
      have hw : IntKind.i64.wrap ((p : Int) - 1) = ((p - 1 : Nat) : Int) := by rw [wr64 (by omega) (by omega)]; omega
      rw [hw]
      simp only [Int.toNat_natCast]
      have hc : ((if ((ys.getD p mk0).fst == (ys.getD (p - 1) mk0).fst) = true then (ys.getD p mk0).snd != (ys.getD (p - 1) mk0).snd else false) = true) = clash ys p := by
        simp only [clash, b_decR, b_decL, bt_ite, bf_ite, bt_dec, bf_dec, bt_int, bf_int, bt_nint, bf_nint, bt_bool, bf_bool, bt_nbool, bf_nbool, bt_not, bf_not, bt_and, bf_and, bt_or, bf_or, Bool.false_eq_true, Bool.true_eq_false, Bool.not_eq_true, Bool.not_eq_false, reduceCtorEq, false_iff, true_iff, iff_false, iff_true, and_true, true_and, and_false, false_and, or_true, true_or, or_false, false_or, not_true_eq_false, not_false_eq_true, ne_eq]
      have hc' : ((if ((ys.getD p mk0).fst == (ys.getD (p - 1) mk0).fst) = true then (ys.getD p mk0).snd != (ys.getD (p - 1) mk0).snd else false) = false) = ¬ clash ys p := by
        rw [← hc]; simp
      rw [hc, hc']
      have hp2 : p - 1 < ys.length := by omega
      refine ⟨hlt, hlt, hlt, ⟨by omega, by omega⟩, hp2, hp2, fun _ => hlt, fun _ => hlt, fun _ => hlt, fun _ => ⟨by omega, by omega⟩, fun _ => hp2, fun _ => hp2, fun h => ?_, fun h => ?_⟩
      · exact retV fun E => by rw [den_c, den_v, hbf (clash_bad hbe hperm hp1 hlt h)]
      · rw [wr_succ (by omega)]
        refine backI ⟨p + 1, by omega, fun q h1 h2 h3 => ?_, by omega⟩ (by simp only; omega) (le_tmps (by simp [TmpsSub, look]))
        by_cases hqp : q = p
        · subst hqp; exact h
        · exact hcl q h1 (by omega) h3
    · rw [decide_eq_false_iff_not] at hge
      exact retV fun E => by rw [den_c, den_v, hbt (clash_good hbe hperm hsort fun q h1 h2 => hcl q h1 (by omega) h2)]
end Go.Proofs.Ytkjeedlkkpgopaa.Z
