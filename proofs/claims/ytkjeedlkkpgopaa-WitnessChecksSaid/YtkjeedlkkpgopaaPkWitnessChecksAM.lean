/- WitnessChecksSaid: what its proof is made of. No condition. -/
import Derived.Test.YtkjeedlkkpgopaaPkWitnessChecksAL
set_option linter.unusedSimpArgs false
set_option linter.unusedVariables false
namespace Go.Proofs.Ytkjeedlkkpgopaa.Z
open Go Go.RowKit
def ir15 : IR := (.seq (.ops [⟨(some 2), (.mv (.k (.c (.v (.bool false))))), none⟩]) (.kill [1, 2, 3, 4, 5, 6, 7, 8, 9, 10, 11] (.seq (.ops [⟨(some 15), (.mkm (.int .i64) .i64), none⟩, ⟨(some 3), (.mv (.t 15)), none⟩]) (.kill [15] (.seq (.seq (.ops [⟨(some 16), (.mv (.t 0)), none⟩, ⟨(some 17), (.len (.t 16)), none⟩, ⟨(some 18), (.mv (.k (.c (.v (.int .i64 0))))), none⟩]) (.blk 0 (.loop (.seq (.ops [⟨(some 19), (.bin .lss (.t 18) (.t 17)), none⟩]) (.kill [2, 4, 5, 6, 7, 20, 21, 22, 23, 24, 25, 26, 27, 28, 29, 30, 31, 32, 33, 34, 35, 36, 37, 38, 39, 40, 41, 42, 43, 44, 45, 46, 47, 48, 49, 50, 51, 52, 53, 54, 55, 56, 57, 58, 59, 60, 61, 62, 63, 64, 65, 66, 67, 68, 69, 70, 71] (.seq (.cond (.t 19) .skip (.exit 0)) (.kill [19] (.seq (.blk 1 (.seq (.ops [⟨(some 20), (.mv (.t 18)), none⟩, ⟨(some 21), (.ia 9 (.t 16) (.t 18)), none⟩, ⟨(some 22), (.ld true 9 (.t 21)), none⟩, ⟨(some 5), (.new 53 [(.v (.int .i64 0)), (.v (.int .i64 0)), (.v (.int .i64 0)), (.v (.int .i64 0)), (.v (.int .i64 0)), (.v (.int .i64 0)), (.v (.int .i64 0)), (.v (.int .i64 0)), (.v (.int .i64 0))]), none⟩, ⟨(some 4), (.mv (.t 20)), none⟩, ⟨none, (.st 9 (.t 5) (.t 22)), none⟩]) (.kill [20, 21, 22] (.seq (.seq (.draw [(⟨(some 23), (.ld true 9 (.t 5)), none⟩, ([], [])), (⟨(some 24), (.call 37 [(.t 23)]), none⟩, ([], [])), (⟨(some 25), (.un .not (.t 24)), none⟩, ([], [])), (⟨(some 26), (.mv (.t 25)), none⟩, ([], [])), (⟨(some 27), (.mv (.t 4)), (some (26, false))⟩, ([], [])), (⟨(some 28), (.bin .gtr (.t 27) (.k (.c (.v (.int .i64 0))))), (some (26, false))⟩, ([], [])), (⟨(some 29), (.mv (.t 28)), (some (26, false))⟩, ([], [])), (⟨(some 30), (.fa 4 (.t 5)), (some (29, true))⟩, ([], [32, 33, 34, 35, 36, 37])), (⟨(some 31), (.ld false 1 (.t 30)), (some (29, true))⟩, ([], [32, 33, 34, 35, 36, 37])), (⟨(some 32), (.mv (.t 0)), (some (29, true))⟩, ([7, 8], [30, 31, 33, 34])), (⟨(some 33), (.mv (.t 4)), (some (29, true))⟩, ([7, 8, 9], [30, 31, 32])), (⟨(some 34), (.bin .sub (.t 33) (.k (.c (.v (.int .i64 1))))), (some (29, true))⟩, ([7, 8, 9], [30, 31, 32])), (⟨(some 35), (.ia 9 (.t 32) (.t 34)), (some (29, true))⟩, ([7, 8], [30, 31])), (⟨(some 36), (.fa 4 (.t 35)), (some (29, true))⟩, ([7, 8], [30, 31])), (⟨(some 37), (.ld false 1 (.t 36)), (some (29, true))⟩, ([7, 8], [30, 31])), (⟨(some 38), (.bin .leq (.t 31) (.t 37)), (some (29, true))⟩, ([], [])), (⟨(some 39), (.pick (.t 29) (.t 38) (.k (.c (.v (.bool false))))), (some (26, false))⟩, ([], [])), (⟨(some 40), (.pick (.t 26) (.k (.c (.v (.bool true)))) (.t 39)), none⟩, ([], []))]) (.kill [23, 24, 25, 26, 27, 28, 29, 30, 31, 32, 33, 34, 35, 36, 37, 38, 39] (.cond (.t 40) (.seq (.ops [⟨(some 2), (.mv (.k (.c (.v (.bool false))))), none⟩]) (.kill [0, 3, 4, 5, 16, 17, 18, 40] .ret)) .skip))) (.kill [2, 40] (.seq (.seq (.ops [⟨(some 42), (.mv (.t 3)), none⟩, ⟨(some 43), (.fa 0 (.t 5)), none⟩, ⟨(some 44), (.ld false 1 (.t 43)), none⟩, ⟨(some 45), (.lkp (.int .i64) .i64 true (.t 42) (.t 44)), none⟩, ⟨(some 41), (.mv (.t 45)), none⟩, ⟨(some 46), (.ext 0 (.t 41)), none⟩, ⟨(some 47), (.ext 1 (.t 41)), none⟩, ⟨(some 6), (.mv (.t 46)), none⟩, ⟨(some 7), (.mv (.t 47)), none⟩]) (.kill [41, 42, 43, 44, 45, 46, 47] (.seq (.draw [(⟨(some 48), (.mv (.t 7)), none⟩, ([], [])), (⟨(some 49), (.mv (.t 48)), none⟩, ([], [])), (⟨(some 50), (.mv (.t 0)), (some (49, true))⟩, ([], [51])), (⟨(some 51), (.mv (.t 6)), (some (49, true))⟩, ([2], [50])), (⟨(some 52), (.ia 9 (.t 50) (.t 51)), (some (49, true))⟩, ([], [])), (⟨(some 53), (.fa 5 (.t 52)), (some (49, true))⟩, ([], [])), (⟨(some 54), (.ld false 1 (.t 53)), (some (49, true))⟩, ([], [])), (⟨(some 55), (.bin .eql (.t 54) (.k (.c (.v (.int .i64 (-1)))))), (some (49, true))⟩, ([], [])), (⟨(some 56), (.mv (.t 55)), (some (49, true))⟩, ([], [])), (⟨(some 57), (.mv (.t 0)), (some (56, false))⟩, ([], [58, 62, 63])), (⟨(some 58), (.mv (.t 6)), (some (56, false))⟩, ([9], [57, 62, 63])), (⟨(some 59), (.ia 9 (.t 57) (.t 58)), (some (56, false))⟩, ([], [62, 63])), (⟨(some 60), (.fa 5 (.t 59)), (some (56, false))⟩, ([], [62, 63])), (⟨(some 61), (.ld false 1 (.t 60)), (some (56, false))⟩, ([], [62, 63])), (⟨(some 62), (.fa 4 (.t 5)), (some (56, false))⟩, ([9, 10, 11, 12, 13], [57, 58, 59, 60, 61])), (⟨(some 63), (.ld false 1 (.t 62)), (some (56, false))⟩, ([9, 10, 11, 12, 13], [57, 58, 59, 60, 61])), (⟨(some 64), (.bin .geq (.t 61) (.t 63)), (some (56, false))⟩, ([], [])), (⟨(some 65), (.pick (.t 56) (.k (.c (.v (.bool true)))) (.t 64)), (some (49, true))⟩, ([], [])), (⟨(some 66), (.pick (.t 49) (.t 65) (.k (.c (.v (.bool false))))), none⟩, ([], []))]) (.kill [6, 7, 48, 49, 50, 51, 52, 53, 54, 55, 56, 57, 58, 59, 60, 61, 62, 63, 64, 65] (.cond (.t 66) (.seq (.ops [⟨(some 2), (.mv (.k (.c (.v (.bool false))))), none⟩]) (.kill [0, 3, 4, 5, 16, 17, 18, 66] .ret)) .skip))))) (.kill [2, 66] (.ops [⟨(some 67), (.mv (.t 3)), none⟩, ⟨(some 68), (.fa 0 (.t 5)), none⟩, ⟨(some 69), (.ld false 1 (.t 68)), none⟩, ⟨(some 70), (.mv (.t 4)), none⟩, ⟨none, (.mup (.int .i64) .i64 (.t 67) (.t 69) (.t 70)), none⟩])))))))) (.kill [2, 4, 5, 6, 7, 20, 21, 22, 23, 24, 25, 26, 27, 28, 29, 30, 31, 32, 33, 34, 35, 36, 37, 38, 39, 40, 41, 42, 43, 44, 45, 46, 47, 48, 49, 50, 51, 52, 53, 54, 55, 56, 57, 58, 59, 60, 61, 62, 63, 64, 65, 66, 67, 68, 69, 70] (.ops [⟨(some 71), (.bin .add (.t 18) (.k (.c (.v (.int .i64 1))))), none⟩, ⟨(some 18), (.mv (.t 71)), none⟩])))))))))) (.kill [2, 3, 4, 5, 6, 7, 16, 17, 18, 19, 20, 21, 22, 23, 24, 25, 26, 27, 28, 29, 30, 31, 32, 33, 34, 35, 36, 37, 38, 39, 40, 41, 42, 43, 44, 45, 46, 47, 48, 49, 50, 51, 52, 53, 54, 55, 56, 57, 58, 59, 60, 61, 62, 63, 64, 65, 66, 67, 68, 69, 70, 71] (.seq (.ops [⟨(some 72), (.mkm (.int .i64) .i64), none⟩, ⟨(some 8), (.mv (.t 72)), none⟩]) (.kill [72] (.seq (.seq (.ops [⟨(some 73), (.mv (.t 0)), none⟩, ⟨(some 74), (.len (.t 73)), none⟩, ⟨(some 75), (.mv (.k (.c (.v (.int .i64 0))))), none⟩]) (.kill [0] (.blk 2 (.loop (.seq (.ops [⟨(some 76), (.bin .lss (.t 75) (.t 74)), none⟩]) (.kill [2, 9, 10, 12, 13, 14, 77, 78, 79, 80, 81, 82, 83, 84, 85, 86, 87, 88, 89, 90, 91, 92, 93, 94, 95, 96, 97, 98, 99, 100, 101, 102, 103, 104, 105, 106, 107, 108] (.seq (.cond (.t 76) .skip (.exit 2)) (.kill [76] (.seq (.blk 3 (.seq (.ops [⟨(some 77), (.mv (.t 75)), none⟩, ⟨(some 78), (.ia 9 (.t 73) (.t 75)), none⟩, ⟨(some 79), (.ld true 9 (.t 78)), none⟩, ⟨(some 10), (.new 53 [(.v (.int .i64 0)), (.v (.int .i64 0)), (.v (.int .i64 0)), (.v (.int .i64 0)), (.v (.int .i64 0)), (.v (.int .i64 0)), (.v (.int .i64 0)), (.v (.int .i64 0)), (.v (.int .i64 0))]), none⟩, ⟨(some 9), (.mv (.t 77)), none⟩, ⟨none, (.st 9 (.t 10) (.t 79)), none⟩]) (.kill [77, 78, 79] (.seq (.ops [⟨(some 80), (.fa 4 (.t 10)), none⟩, ⟨(some 81), (.ld false 1 (.t 80)), none⟩, ⟨(some 82), (.fa 5 (.t 10)), none⟩, ⟨(some 83), (.ld false 1 (.t 82)), none⟩, ⟨(some 84), (.fa 6 (.t 10)), none⟩, ⟨(some 85), (.ld false 1 (.t 84)), none⟩, ⟨(some 86), (.build [(.v (.int .i64 0)), (.v (.int .i64 0)), (.v (.int .i64 0))] [(0, (1, (.t 81))), (1, (1, (.t 83))), (2, (1, (.t 85)))]), none⟩, ⟨(some 87), (.mv (.k (.c (.v (.int .i64 0))))), none⟩]) (.kill [10, 80, 81, 82, 83, 84, 85] (.blk 4 (.loop (.seq (.ops [⟨(some 88), (.bin .lss (.t 87) (.k (.c (.v (.int .i64 3))))), none⟩]) (.kill [2, 12, 13, 14, 89, 90, 91, 92, 93, 94, 95, 96, 97, 98, 99, 100, 101, 102, 103, 104, 105, 106, 107] (.seq (.cond (.t 88) .skip (.exit 4)) (.kill [88] (.seq (.blk 5 (.seq (.ops [⟨(some 89), (.idx false 3 1 (.t 86) (.t 87)), none⟩, ⟨(some 12), (.mv (.t 89)), none⟩]) (.kill [89] (.seq (.seq (.ops [⟨(some 90), (.mv (.t 12)), none⟩, ⟨(some 91), (.bin .eql (.t 90) (.k (.c (.v (.int .i64 (-1)))))), none⟩]) (.kill [90] (.cond (.t 91) (.exit 5) .skip))) (.kill [91] (.seq (.seq (.ops [⟨(some 93), (.mv (.t 8)), none⟩, ⟨(some 94), (.mv (.t 12)), none⟩, ⟨(some 95), (.lkp (.int .i64) .i64 true (.t 93) (.t 94)), none⟩, ⟨(some 92), (.mv (.t 95)), none⟩, ⟨(some 96), (.ext 0 (.t 92)), none⟩, ⟨(some 97), (.ext 1 (.t 92)), none⟩, ⟨(some 13), (.mv (.t 96)), none⟩, ⟨(some 14), (.mv (.t 97)), none⟩]) (.kill [92, 93, 94, 95, 96, 97] (.seq (.ops [⟨(some 98), (.mv (.t 14)), none⟩, ⟨(some 99), (.mv (.t 98)), none⟩, ⟨(some 100), (.mv (.t 13)), (some (99, true))⟩, ⟨(some 101), (.mv (.t 9)), (some (99, true))⟩, ⟨(some 102), (.bin .neq (.t 100) (.t 101)), (some (99, true))⟩, ⟨(some 103), (.pick (.t 99) (.t 102) (.k (.c (.v (.bool false))))), none⟩]) (.kill [13, 14, 98, 99, 100, 101, 102] (.cond (.t 103) (.seq (.ops [⟨(some 2), (.mv (.k (.c (.v (.bool false))))), none⟩]) (.kill [8, 9, 12, 73, 74, 75, 86, 87, 103] .ret)) .skip))))) (.kill [2, 103] (.ops [⟨(some 104), (.mv (.t 8)), none⟩, ⟨(some 105), (.mv (.t 12)), none⟩, ⟨(some 106), (.mv (.t 9)), none⟩, ⟨none, (.mup (.int .i64) .i64 (.t 104) (.t 105) (.t 106)), none⟩])))))))) (.kill [2, 12, 13, 14, 89, 90, 91, 92, 93, 94, 95, 96, 97, 98, 99, 100, 101, 102, 103, 104, 105, 106] (.ops [⟨(some 107), (.bin .add (.t 87) (.k (.c (.v (.int .i64 1))))), none⟩, ⟨(some 87), (.mv (.t 107)), none⟩])))))))))))))) (.kill [2, 9, 10, 12, 13, 14, 77, 78, 79, 80, 81, 82, 83, 84, 85, 86, 87, 88, 89, 90, 91, 92, 93, 94, 95, 96, 97, 98, 99, 100, 101, 102, 103, 104, 105, 106, 107] (.ops [⟨(some 108), (.bin .add (.t 75) (.k (.c (.v (.int .i64 1))))), none⟩, ⟨(some 75), (.mv (.t 108)), none⟩]))))))))))) (.kill [2, 8, 9, 10, 12, 13, 14, 73, 74, 75, 76, 77, 78, 79, 80, 81, 82, 83, 84, 85, 86, 87, 88, 89, 90, 91, 92, 93, 94, 95, 96, 97, 98, 99, 100, 101, 102, 103, 104, 105, 106, 107, 108] (.seq (.ops [⟨(some 2), (.mv (.k (.c (.v (.bool true))))), none⟩]) .ret)))))))))))
def rs15 : List RS := [(.t 2)]
def nt15 : Nat := 109
def lastF (xs : List Cl) : Nat → List Int → Option Int
 | 0 => fun _ => none
 | i + 1 => fun q => if q = [(xs.getD i cl0).thread] then some (i : Int) else lastF xs i q
def put3 (f : List Int → Option Int) (i : Nat) : List Int → List Int → Option Int
 | [] => f
 | t :: l => if t = -1 then put3 f i l else put3 (fun q => if q = [t] then some (i : Int) else f q) i l
def whoF (xs : List Cl) : Nat → List Int → Option Int
 | 0 => fun _ => none
 | i + 1 => put3 (whoF xs i) i [(xs.getD i cl0).beg, (xs.getD i cl0).fin, (xs.getD i cl0).point]
structure InvA (xs : List Cl) (n : Nat) : Prop where
 shaped : ∀ k, k < n → shapedB (xs.getD k cl0) = true
 up : ∀ k, k + 1 < n → (xs.getD k cl0).beg < (xs.getD (k + 1) cl0).beg
 thr : ∀ j k, j < k → k < n → (xs.getD j cl0).thread = (xs.getD k cl0).thread → (xs.getD j cl0).fin ≠ -1 ∧ (xs.getD j cl0).fin < (xs.getD k cl0).beg
def Cl.moves (c : Cl) : List Int := [c.beg, c.fin, c.point]
def InvB (xs : List Cl) (n : Nat) : Prop := ∀ j k, j < k → k < n → ∀ t, t ≠ -1 → t ∈ (xs.getD j cl0).moves → t ∉ (xs.getD k cl0).moves
def mayP (xs : List Cl) : Prop := InvA xs xs.length ∧ InvB xs xs.length
theorem InvA.mono {xs : List Cl} {m n : Nat} (h : InvA xs n) (hm : m ≤ n) : InvA xs m := ⟨fun k hk => h.shaped k (by omega), fun k hk => h.up k (by omega), fun j k hj hk => h.thr j k hj (by omega)⟩
theorem InvB.mono {xs : List Cl} {m n : Nat} (h : InvB xs n) (hm : m ≤ n) : InvB xs m := fun j k hj hk => h j k hj (by omega)
theorem lastF_some {xs : List Cl} {t z : Int} : ∀ {i : Nat}, lastF xs i [t] = some z → ∃ j : Nat, j < i ∧ z = j ∧ (xs.getD j cl0).thread = t ∧ ∀ k, j < k → k < i → (xs.getD k cl0).thread ≠ t
 | 0, h => by cases h
 | i + 1, h => by
  simp only [lastF, List.cons.injEq, and_true] at h
  split at h
  ·next e =>
   simp only [Option.some.injEq] at h
   exact ⟨i, by omega, h.symm, e.symm, fun k hk hk' => by omega⟩
  ·next e =>
   obtain ⟨j, h1, h2, h3, h4⟩ := lastF_some h
   refine ⟨j, by omega, h2, h3, fun k hk hk' => ?_⟩
   by_cases hki : k = i
   ·subst hki; exact fun h => e h.symm
   ·exact h4 k hk (by omega)
theorem lastF_none {xs : List Cl} {t : Int} : ∀ {i : Nat}, lastF xs i [t] = none → ∀ k, k < i → (xs.getD k cl0).thread ≠ t
 | 0, h, k, hk => by omega
 | i + 1, h, k, hk => by
  simp only [lastF, List.cons.injEq, and_true] at h
  split at h
  ·cases h
  ·next e =>
   by_cases hki : k = i
   ·subst hki; exact fun h => e h.symm
   ·exact lastF_none h k (by omega)
theorem put3_get (i : Nat) (q : Int) (hq : q ≠ -1) : ∀ (l : List Int) (f : List Int → Option Int), put3 f i l [q] = if q ∈ l then some (i : Int) else f [q]
 | [], f => by simp [put3]
 | t :: l, f => by
  simp only [put3]
  by_cases h : t = -1
  ·subst h
   rw [if_pos rfl, put3_get i q hq l f]
   simp [hq]
  ·rw [if_neg h, put3_get i q hq l _]
   by_cases h2 : q ∈ l
   ·simp [h2]
   ·by_cases h3 : q = t
    ·simp [h3]
    ·simp [h2, h3]
theorem whoF_some {xs : List Cl} {t z : Int} (ht : t ≠ -1) : ∀ {i : Nat}, whoF xs i [t] = some z → ∃ j : Nat, j < i ∧ z = j ∧ t ∈ (xs.getD j cl0).moves
 | 0, h => by cases h
 | i + 1, h => by
  simp only [whoF] at h
  rw [put3_get i t ht] at h
  split at h
  ·next e =>
   simp only [Option.some.injEq] at h
   exact ⟨i, by omega, h.symm, e⟩
  ·obtain ⟨j, h1, h2, h3⟩ := whoF_some ht h
   exact ⟨j, by omega, h2, h3⟩
theorem whoF_none {xs : List Cl} {t : Int} (ht : t ≠ -1) : ∀ {i : Nat}, whoF xs i [t] = none → ∀ k, k < i → t ∉ (xs.getD k cl0).moves
 | 0, h, k, hk => by omega
 | i + 1, h, k, hk => by
  simp only [whoF] at h
  rw [put3_get i t ht] at h
  split at h
  ·cases h
  ·next e =>
   by_cases hki : k = i
   ·subst hki; exact e
   ·exact whoF_none ht h k (by omega)
theorem invA_step {xs : List Cl} {i : Nat} (h : InvA xs i) (h1 : shapedB (xs.getD i cl0) = true) (h2 : 0 < i → (xs.getD (i - 1) cl0).beg < (xs.getD i cl0).beg)
  (h3 : ∀ j : Nat, j < i → (xs.getD j cl0).thread = (xs.getD i cl0).thread → (∀ k, j < k → k < i → (xs.getD k cl0).thread ≠ (xs.getD i cl0).thread) → (xs.getD j cl0).fin ≠ -1 ∧ (xs.getD j cl0).fin < (xs.getD i cl0).beg) : InvA xs (i + 1) := by
 have hsh : ∀ k, k < i + 1 → shapedB (xs.getD k cl0) = true := fun k hk => by
  by_cases hki : k = i
  ·subst hki; exact h1
  ·exact h.shaped k (by omega)
 refine ⟨hsh, fun k hk => ?_, fun j k hj hk ht => ?_⟩
 ·by_cases hki : k + 1 = i
  ·have := h2 (by omega)
   subst hki
   simpa using this
  ·exact h.up k (by omega)
 ·by_cases hki : k = i
  ·subst hki
   have key : ∀ m j : Nat, k - j ≤ m → j < k → (xs.getD j cl0).thread = (xs.getD k cl0).thread → (xs.getD j cl0).fin ≠ -1 ∧ (xs.getD j cl0).fin < (xs.getD k cl0).beg := by
    intro m
    induction m with
    | zero => intro j hm hj _; omega
    | succ m ih =>
     intro j hm hj ht
     by_cases hex : ∃ q, j < q ∧ q < k ∧ (xs.getD q cl0).thread = (xs.getD k cl0).thread
     ·obtain ⟨q, hq1, hq2, hq3⟩ := hex
      have g1 := ih q (by omega) hq2 hq3
      have g2 := h.thr j q hq1 hq2 (ht.trans hq3.symm)
      have g3 := h.shaped q hq2
      simp only [shapedB, decide_eq_true_eq] at g3
      have g4 := g3.1.2.2.2 g1.1
      exact ⟨g2.1, by omega⟩
     ·exact h3 j hj ht fun q hq1 hq2 hq3 => hex ⟨q, hq1, hq2, hq3⟩
   exact key k j (by omega) hj ht
  ·exact h.thr j k hj (by omega) ht
theorem invB_step {xs : List Cl} {i : Nat} (h : InvB xs i) (h1 : ∀ t, t ≠ -1 → t ∈ (xs.getD i cl0).moves → ∀ j, j < i → t ∉ (xs.getD j cl0).moves) : InvB xs (i + 1) := by
 intro j k hj hk t ht hm hm'
 by_cases hki : k = i
 ·subst hki; exact h1 t ht hm' j hj hm
 ·exact h j k hj (by omega) t ht hm hm'
theorem put3_snoc (i : Nat) (t : Int) : ∀ (l : List Int) (f : List Int → Option Int) (q : List Int), put3 f i (l ++ [t]) q = if t = -1 then put3 f i l q else if q = [t] then some (i : Int) else put3 f i l q
 | [], f, q => by
  simp only [put3, List.nil_append]
  split <;> rfl
 | u :: l, f, q => by
  simp only [put3, List.cons_append]
  split
  ·exact put3_snoc i t l f q
  ·exact put3_snoc i t l _ q
theorem who_fail {xs : List Cl} {i : Nat} {t : Int} {L : List Int} (ht : t ≠ -1) (h : (if (put3 (whoF xs i) i L [t]).isSome = true then (put3 (whoF xs i) i L [t]).getD 0 != (i : Int) else false) = true) : ∃ j, j < i ∧ t ∈ (xs.getD j cl0).moves := by
 rw [put3_get i t ht] at h
 by_cases hL : t ∈ L
 ·simp [hL] at h
 ·rw [if_neg hL] at h
  cases hz : whoF xs i [t] with
  | none => rw [hz] at h; simp at h
  | some z =>
   obtain ⟨j, h1, h2, h3⟩ := whoF_some ht hz
   exact ⟨j, h1, h3⟩
theorem who_ok {xs : List Cl} {i : Nat} {t : Int} {L : List Int} (ht : t ≠ -1) (hL : ∀ t, t ∈ L → t ≠ -1 → ∀ j, j < i → t ∉ (xs.getD j cl0).moves) (h : (if (put3 (whoF xs i) i L [t]).isSome = true then (put3 (whoF xs i) i L [t]).getD 0 != (i : Int) else false) = false) : ∀ j, j < i → t ∉ (xs.getD j cl0).moves := by
 rw [put3_get i t ht] at h
 by_cases hm : t ∈ L
 ·exact hL t hm ht
 ·rw [if_neg hm] at h
  cases hz : whoF xs i [t] with
  | none => exact whoF_none ht hz
  | some z =>
   obtain ⟨j, h1, rfl, h3⟩ := whoF_some ht hz
   rw [hz] at h
   simp at h
   omega
set_option maxRecDepth 100000 in
set_option maxHeartbeats 400000 in
theorem may_calls (w : World) (v : Value) (xs : List Cl) (b : Bool) (hbt : mayP xs → b = true) (hbf : ¬ mayP xs → b = false) (h : Arr w Cl.enc 9 v xs) : Calls Try.prog 15 #[v] w (RetV w (.bool b)) := by
 refine calls_sym (c := ir15) (C := mkC Try.prog [] w rs15 (RetV w (.bool b))) 1000 [.c (.xv (0, 0, 0))] 
  (E1 v) [] [(0, .one (arrOf Cl.enc 9 xs cl0))] [] 1 nt15 _ (mkTab_ok _ _) Try.func15 rfl (by kernel_rfl) (by kernel_rfl) rfl rfl rfl (E1_one (arr_one h))
  (fun E' hE' => ?_) (of_decide_eq_true rfl) (fun E' hE' => inOk_arrs fun w' hw' x A hA => ?_) ?_
 ·have e0 := (hE' (0, 0, 0) (by decide)).2.2.2
  simp [SV.den, SC.den, e0, E1]
 ·have e0 := (hE' (0, 0, 0) (by decide)).2.2.2
  rcases atN_one hA with ⟨rfl, rfl⟩ | hA
  ·exact arr1 cl_ok e0 h hw'
  exact (atN_nil hA).elim
 simp only [ir15, nt15, rs15, go_sem, ↓condS, ↓exitS, ↓gateS, ↓runOp, ↓gateD, ↓runD, ↓imp_ft, ↓imp_tf, ↓imp_tt, ↓imp_ff, ↓imp_fn, ↓imp_tn, ↓imp_fy, ↓imp_ty, ↓reduceIte, Nat.reduceLT, Nat.reduceLeDiff, Nat.reduceAdd, Nat.reduceSub, Nat.reduceMul, Nat.reduceEqDiff, reduceCtorEq, Int.reduceToNat, Int.reduceEq, Int.reduceBEq, Int.reduceBNe, Int.reduceLT, Int.reduceLE, Int.reduceNeg, Int.reduceAdd, Int.reduceSub, Int.reduceMul, Int.reduceGE, Int.reduceGT, Cl.enc, iv, endO, dr_cons]
 refine loopI (ι := { i : Nat // i ≤ xs.length ∧ InvA xs i }) (fun i => ⟨109, [(0, .c (.xv (0, 0, 0))), (3, .c (.mp (1, 0, 0))), (16, .c (.xv (0, 0, 0))), (17, .c (.v (.int .i64 (xs.length : Nat)))), (18, .c (.v (.int .i64 (i.1 : Nat))))], [(1, .one (.mp (.int .i64) .i64 (lastF xs i.1)))], [(0, .one (arrOf Cl.enc 9 xs cl0))], [], 2⟩)
  (fun i => xs.length - i.1) ⟨0, by omega, ⟨fun _ h => by omega, fun _ h => by omega, fun _ _ _ h => by omega⟩⟩ ?_ ?_
 ·exact le_refl _
 rintro ⟨i, hi, hg⟩
 simp only [go_sem, ↓condS, ↓exitS, ↓gateS, ↓runOp, ↓gateD, ↓runD, ↓imp_ft, ↓imp_tf, ↓imp_tt, ↓imp_ff, ↓imp_fn, ↓imp_tn, ↓imp_fy, ↓imp_ty, ↓reduceIte, Nat.reduceLT, Nat.reduceLeDiff, Nat.reduceAdd, Nat.reduceSub, Nat.reduceMul, Nat.reduceEqDiff, reduceCtorEq, Int.reduceToNat, Int.reduceEq, Int.reduceBEq, Int.reduceBNe, Int.reduceLT, Int.reduceLE, Int.reduceNeg, Int.reduceAdd, Int.reduceSub, Int.reduceMul, Int.reduceGE, Int.reduceGT, Cl.enc, iv, endO, dr_cons]
 refine both (fun hlt => ?_) (fun hge => ?_)
 ·rw [decide_eq_true_eq] at hlt
  refine ⟨hlt, hlt, ?_⟩
  have hlen := Z.Arr.lenM h
  simp only [maxLen] at hlen
  generalize hci : xs.getD i cl0 = ci
  refine draw_vc (by kernel_rfl) (mkTab_ok _ _) (of_decide_eq_true rfl) (of_decide_eq_true rfl) ?_
  simp only [go_sem, ↓condS, ↓exitS, ↓gateS, ↓runOp, ↓gateD, ↓runD, ↓imp_ft, ↓imp_tf, ↓imp_tt, ↓imp_ff, ↓imp_fn, ↓imp_tn, ↓imp_fy, ↓imp_ty, ↓reduceIte, Nat.reduceLT, Nat.reduceLeDiff, Nat.reduceAdd, Nat.reduceSub, Nat.reduceMul, Nat.reduceEqDiff, reduceCtorEq, Int.reduceToNat, Int.reduceEq, Int.reduceBEq, Int.reduceBNe, Int.reduceLT, Int.reduceLE, Int.reduceNeg, Int.reduceAdd, Int.reduceSub, Int.reduceMul, Int.reduceGE, Int.reduceGT, Cl.enc, iv, endO, dr_cons]
  refine dcallV (.c (.bo (shapedB ci))) _ (fun E => rfl) (fun E a w' _ => shaped_calls w' ci) ?_
  simp only [go_sem, ↓condS, ↓exitS, ↓gateS, ↓runOp, ↓gateD, ↓runD, ↓imp_ft, ↓imp_tf, ↓imp_tt, ↓imp_ff, ↓imp_fn, ↓imp_tn, ↓imp_fy, ↓imp_ty, ↓reduceIte, Nat.reduceLT, Nat.reduceLeDiff, Nat.reduceAdd, Nat.reduceSub, Nat.reduceMul, Nat.reduceEqDiff, reduceCtorEq, Int.reduceToNat, Int.reduceEq, Int.reduceBEq, Int.reduceBNe, Int.reduceLT, Int.reduceLE, Int.reduceNeg, Int.reduceAdd, Int.reduceSub, Int.reduceMul, Int.reduceGE, Int.reduceGT, Cl.enc, iv, endO, dr_cons]
  have hwi : 0 < i → IntKind.i64.wrap ((i : Int) - 1) = ((i - 1 : Nat) : Int) := fun h => by rw [wr64 (by omega) (by omega)]; omega
  have hg1 : (shapedB ci && decide ((i : Int) > 0)) = true → 0 < i := fun h => by
   have := (Bool.and_eq_true _ _ ▸ h).2
   rw [decide_eq_true_eq] at this
   omega
  refine ⟨fun h => ?_, fun h => ?_, fun h => ?_, fun h => ?_, fun h1 => ?_⟩
  ·rw [hwi (hg1 h)]; have := hg1 h; omega
  ·rw [hwi (hg1 h)]; have := hg1 h; omega
  ·rw [hwi (hg1 h)]; have := hg1 h; omega
  ·refine retV fun E => ?_
   rw [den_c, den_v, Value.bool.injEq]
   refine (hbf fun hm => ?_).symm
   have g1 := hm.1.shaped i hlt
   rw [hci] at g1
   by_cases hi0 : 0 < i
   ·have g2 := hm.1.up (i - 1) (by omega)
    rw [show i - 1 + 1 = i by omega, hci] at g2
    rw [hwi hi0, Int.toNat_natCast] at h
    simp only [b_decR, b_decL, bt_ite, bf_ite, bt_dec, bf_dec, bt_int, bf_int, bt_nint, bf_nint, bt_bool, bf_bool, bt_nbool, bf_nbool, bt_not, bf_not, bt_and, bf_and, bt_or, bf_or, Bool.false_eq_true, Bool.true_eq_false, Bool.not_eq_true, Bool.not_eq_false, reduceCtorEq, false_iff, true_iff, iff_false, iff_true, and_true, true_and, and_false, false_and, or_true, true_or, or_false, false_or, not_true_eq_false, not_false_eq_true, ne_eq] at h
    simp only [g1] at h
    simp only [b_decR, b_decL, bt_ite, bf_ite, bt_dec, bf_dec, bt_int, bf_int, bt_nint, bf_nint, bt_bool, bf_bool, bt_nbool, bf_nbool, bt_not, bf_not, bt_and, bf_and, bt_or, bf_or, Bool.false_eq_true, Bool.true_eq_false, Bool.not_eq_true, Bool.not_eq_false, reduceCtorEq, false_iff, true_iff, iff_false, iff_true, and_true, true_and, and_false, false_and, or_true, true_or, or_false, false_or, not_true_eq_false, not_false_eq_true, ne_eq] at h
    omega
   ·simp only [b_decR, b_decL, bt_ite, bf_ite, bt_dec, bf_dec, bt_int, bf_int, bt_nint, bf_nint, bt_bool, bf_bool, bt_nbool, bf_nbool, bt_not, bf_not, bt_and, bf_and, bt_or, bf_or, Bool.false_eq_true, Bool.true_eq_false, Bool.not_eq_true, Bool.not_eq_false, reduceCtorEq, false_iff, true_iff, iff_false, iff_true, and_true, true_and, and_false, false_and, or_true, true_or, or_false, false_or, not_true_eq_false, not_false_eq_true, ne_eq, g1] at h
    omega
  ·have h11 : shapedB ci = true := by
    simp only [b_decR, b_decL, bt_ite, bf_ite, bt_dec, bf_dec, bt_int, bf_int, bt_nint, bf_nint, bt_bool, bf_bool, bt_nbool, bf_nbool, bt_not, bf_not, bt_and, bf_and, bt_or, bf_or, Bool.false_eq_true, Bool.true_eq_false, Bool.not_eq_true, Bool.not_eq_false, reduceCtorEq, false_iff, true_iff, iff_false, iff_true, and_true, true_and, and_false, false_and, or_true, true_or, or_false, false_or, not_true_eq_false, not_false_eq_true, ne_eq] at h1
    cases hs : shapedB ci with
    | true => rfl
    | false => simp [hs] at h1
   have h12 : 0 < i → (xs.getD (i - 1) cl0).beg < ci.beg := fun hi0 => by
    rw [hwi hi0, Int.toNat_natCast] at h1
    simp only [b_decR, b_decL, bt_ite, bf_ite, bt_dec, bf_dec, bt_int, bf_int, bt_nint, bf_nint, bt_bool, bf_bool, bt_nbool, bf_nbool, bt_not, bf_not, bt_and, bf_and, bt_or, bf_or, Bool.false_eq_true, Bool.true_eq_false, Bool.not_eq_true, Bool.not_eq_false, reduceCtorEq, false_iff, true_iff, iff_false, iff_true, and_true, true_and, and_false, false_and, or_true, true_or, or_false, false_or, not_true_eq_false, not_false_eq_true, ne_eq, h11] at h1
    omega
   refine ⟨rfl, ?_⟩
   refine draw_vc (by kernel_rfl) (mkTab_ok _ _) (of_decide_eq_true rfl) (of_decide_eq_true rfl) ?_
   simp only [go_sem, ↓condS, ↓exitS, ↓gateS, ↓runOp, ↓gateD, ↓runD, ↓imp_ft, ↓imp_tf, ↓imp_tt, ↓imp_ff, ↓imp_fn, ↓imp_tn, ↓imp_fy, ↓imp_ty, ↓reduceIte, Nat.reduceLT, Nat.reduceLeDiff, Nat.reduceAdd, Nat.reduceSub, Nat.reduceMul, Nat.reduceEqDiff, reduceCtorEq, Int.reduceToNat, Int.reduceEq, Int.reduceBEq, Int.reduceBNe, Int.reduceLT, Int.reduceLE, Int.reduceNeg, Int.reduceAdd, Int.reduceSub, Int.reduceMul, Int.reduceGE, Int.reduceGT, Cl.enc, iv, endO, dr_cons]
   have hj : ∀ z, lastF xs i [ci.thread] = some z → 0 ≤ z ∧ z < xs.length ∧ z.toNat < xs.length := fun z hz => by
    obtain ⟨j, h1, rfl, _⟩ := lastF_some hz
    simp only [Int.toNat_natCast]
    omega
   have hj' : (lastF xs i [ci.thread]).isSome = true → 0 ≤ (lastF xs i [ci.thread]).getD 0 ∧ (lastF xs i [ci.thread]).getD 0 < xs.length ∧ ((lastF xs i [ci.thread]).getD 0).toNat < xs.length := fun h => by
    obtain ⟨z, hz⟩ := Option.isSome_iff_exists.1 h
    rw [hz]
    exact hj z hz
   refine ⟨fun h => ⟨(hj' h).1, (hj' h).2.1⟩, fun h => (hj' h).2.2, fun h => (hj' h).2.2, fun h => ?_, fun h => ?_, fun h => ?_, fun h => ?_, fun h3 => ?_⟩
   ·have := hj' (Bool.and_eq_true _ _ ▸ h).1; exact ⟨this.1, this.2.1⟩
   ·exact (hj' (Bool.and_eq_true _ _ ▸ h).1).2.2
   ·exact (hj' (Bool.and_eq_true _ _ ▸ h).1).2.2
   ·refine retV fun E => ?_
    rw [den_c, den_v, Value.bool.injEq]
    refine (hbf fun hm => ?_).symm
    cases hz : lastF xs i [ci.thread] with
    | none => rw [hz] at h; simp at h
    | some z =>
     rw [hz] at h
     obtain ⟨j, h5, rfl, h6, _⟩ := lastF_some hz
     have h7 := hm.1.thr j i h5 hlt (by rw [h6, hci])
     rw [hci] at h7
     simp only [Option.isSome_some, if_true, Option.getD_some, Int.toNat_natCast, b_decR, b_decL, bt_ite, bf_ite, bt_dec, bf_dec, bt_int, bf_int, bt_nint, bf_nint, bt_bool, bf_bool, bt_nbool, bf_nbool, bt_not, bf_not, bt_and, bf_and, bt_or, bf_or, Bool.false_eq_true, Bool.true_eq_false, Bool.not_eq_true, Bool.not_eq_false, reduceCtorEq, false_iff, true_iff, iff_false, iff_true, and_true, true_and, and_false, false_and, or_true, true_or, or_false, false_or, not_true_eq_false, not_false_eq_true, ne_eq] at h
     omega
   ·refine ⟨rfl, ?_⟩
    rw [wr_succ (by omega)]
    refine backI ⟨i + 1, by omega, invA_step hg (by rw [hci]; exact h11) (fun h => by rw [hci]; exact h12 h) fun j hj1 hj2 hj3 => ?_⟩ (by simp only; omega) (le_ren id rfl rfl (by simp [TmpsLe, look, SV.ren, SC.ren, idσ, SV.okN, SC.okN]) ⟨⟨show (1 : Nat) < 2 from by decide, rfl, rfl, fun a => ?_⟩, trivial⟩ ⟨⟨show (0 : Nat) < 2 from by decide, arrLe_of⟩, trivial⟩ rfl)
    ·rw [hci] at hj2 hj3 ⊢
     cases hz : lastF xs i [ci.thread] with
     | none => exact absurd hj2 (lastF_none hz j hj1)
     | some z =>
      rw [hz] at h3
      obtain ⟨q, h5, rfl, h6, h7⟩ := lastF_some hz
      have hjq : j = q := by
       rcases Nat.lt_trichotomy j q with h8 | h8 | h8
       ·exact absurd h6 (hj3 q h8 h5)
       ·exact h8
       ·exact absurd hj2 (h7 j h8 hj1)
      subst hjq
      simp only [Option.isSome_some, if_true, Option.getD_some, Int.toNat_natCast, b_decR, b_decL, bt_ite, bf_ite, bt_dec, bf_dec, bt_int, bf_int, bt_nint, bf_nint, bt_bool, bf_bool, bt_nbool, bf_nbool, bt_not, bf_not, bt_and, bf_and, bt_or, bf_or, Bool.false_eq_true, Bool.true_eq_false, Bool.not_eq_true, Bool.not_eq_false, reduceCtorEq, false_iff, true_iff, iff_false, iff_true, and_true, true_and, and_false, false_and, or_true, true_or, or_false, false_or, not_true_eq_false, not_false_eq_true, ne_eq] at h3
      omega
    ·show (if a = [ci.thread] then some (i : Int) else lastF xs i a) = lastF xs (i + 1) a
     simp only [lastF, hci]
 ·rw [decide_eq_false_iff_not] at hge
  have hin : i = xs.length := by omega
  subst hin
  clear hge hi
  have hlen := Z.Arr.lenM h
  simp only [maxLen] at hlen
  refine loopI (ι := { i : Nat // i ≤ xs.length ∧ InvB xs i }) (fun i => ⟨109, [(8, .c (.mp (2, 0, 0))), (73, .c (.xv (0, 0, 0))), (74, .c (.v (.int .i64 (xs.length : Nat)))), (75, .c (.v (.int .i64 (i.1 : Nat))))], [(2, .one (.mp (.int .i64) .i64 (whoF xs i.1)))], [(0, .one (arrOf Cl.enc 9 xs cl0))], [], 3⟩)
   (fun i => xs.length - i.1) ⟨0, by omega, fun _ _ _ h => by omega⟩ ?_ ?_
  ·exact le_ren id rfl rfl (by simp [TmpsLe, look, SV.ren, SC.ren, idσ, SV.okN, SC.okN]) ⟨⟨show (2 : Nat) < 3 from by decide, rfl, rfl, fun a => rfl⟩, trivial⟩ ⟨⟨show (0 : Nat) < 3 from by decide, arrLe_of⟩, trivial⟩ rfl
  rintro ⟨i, hi, hgb⟩
  simp only [go_sem, ↓condS, ↓exitS, ↓gateS, ↓runOp, ↓gateD, ↓runD, ↓imp_ft, ↓imp_tf, ↓imp_tt, ↓imp_ff, ↓imp_fn, ↓imp_tn, ↓imp_fy, ↓imp_ty, ↓reduceIte, Nat.reduceLT, Nat.reduceLeDiff, Nat.reduceAdd, Nat.reduceSub, Nat.reduceMul, Nat.reduceEqDiff, reduceCtorEq, Int.reduceToNat, Int.reduceEq, Int.reduceBEq, Int.reduceBNe, Int.reduceLT, Int.reduceLE, Int.reduceNeg, Int.reduceAdd, Int.reduceSub, Int.reduceMul, Int.reduceGE, Int.reduceGT, Cl.enc, iv, endO, dr_cons]
  refine both (fun hlt => ?_) (fun hge => ?_)
  ·rw [decide_eq_true_eq] at hlt
   refine ⟨hlt, hlt, ?_⟩
   generalize hci : xs.getD i cl0 = ci
   refine loopI (ι := { k : Nat // k ≤ 3 ∧ ∀ t, t ∈ ci.moves.take k → t ≠ -1 → ∀ j, j < i → t ∉ (xs.getD j cl0).moves }) (fun k => ⟨109, [(8, .c (.mp (2, 0, 0))), (73, .c (.xv (0, 0, 0))), (74, .c (.v (.int .i64 (xs.length : Nat)))), (75, .c (.v (.int .i64 (i : Nat)))), (9, .c (.v (.int .i64 (i : Nat)))), (86, .agg [.v (.int .i64 ci.beg), .v (.int .i64 ci.fin), .v (.int .i64 ci.point)]), (87, .c (.v (.int .i64 (k.1 : Nat))))], [(2, .one (.mp (.int .i64) .i64 (put3 (whoF xs i) i (ci.moves.take k.1))))], [(0, .one (arrOf Cl.enc 9 xs cl0))], [], 3⟩)
    (fun k => 3 - k.1) ⟨0, by omega, fun _ h => by simp at h⟩ ?_ ?_
   ·exact le_ren id rfl rfl (by simp [TmpsLe, look, SV.ren, SC.ren, SC.renL, SC.okL, idσ, SV.okN, SC.okN]) ⟨⟨show (2 : Nat) < 3 from by decide, rfl, rfl, fun a => rfl⟩, trivial⟩ ⟨⟨show (0 : Nat) < 3 from by decide, arrLe_of⟩, trivial⟩ rfl
   rintro ⟨k, hk, hgk⟩
   rcases k with _ | _ | _ | _ | k
   ·simp only [go_sem, ↓condS, ↓exitS, ↓gateS, ↓runOp, ↓gateD, ↓runD, ↓imp_ft, ↓imp_tf, ↓imp_tt, ↓imp_ff, ↓imp_fn, ↓imp_tn, ↓imp_fy, ↓imp_ty, ↓reduceIte, Nat.reduceLT, Nat.reduceLeDiff, Nat.reduceAdd, Nat.reduceSub, Nat.reduceMul, Nat.reduceEqDiff, reduceCtorEq, Int.reduceToNat, Int.reduceEq, Int.reduceBEq, Int.reduceBNe, Int.reduceLT, Int.reduceLE, Int.reduceNeg, Int.reduceAdd, Int.reduceSub, Int.reduceMul, Int.reduceGE, Int.reduceGT, Cl.enc, iv, endO, dr_cons]
    have hw : IntKind.i64.wrap (0 + 1) = ((1 : Nat) : Int) := by decide
    have hT : ci.moves.take 1 = ci.moves.take 0 ++ [ci.beg] := rfl
    refine ⟨fun h => ?_, fun h => ⟨rfl, fun h2 => ?_, fun h2 => ⟨rfl, ?_⟩⟩⟩
    ·rw [beq_iff_eq] at h
     try rw [hw]
     refine backI ⟨1, by omega, fun t ht htn => ?_⟩ (by simp only; omega) (le_ren id rfl rfl (by simp [TmpsLe, look, SV.ren, SC.ren, SC.renL, SC.okL, idσ, SV.okN, SC.okN]) ⟨⟨show (2 : Nat) < 3 from by decide, rfl, rfl, fun a => ?_⟩, trivial⟩ ⟨⟨show (0 : Nat) < 3 from by decide, arrLe_of⟩, trivial⟩ rfl)
     ·rw [hT, List.mem_append, List.mem_singleton] at ht
      exact hgk t (ht.resolve_right fun e => htn (e.trans h)) htn
     ·show put3 (whoF xs i) i (ci.moves.take 0) a = put3 (whoF xs i) i (ci.moves.take 1) a
      rw [hT, put3_snoc, if_pos h]
    ·have hn : ci.beg ≠ -1 := by simpa using h
     obtain ⟨j, hj, hmm⟩ := who_fail hn h2
     exact retV fun E => by
      rw [den_c, den_v, hbf fun hm => hm.2 j i hj hlt _ hn hmm (by rw [hci]; simp [Cl.moves])]
    ·have hn : ci.beg ≠ -1 := by simpa using h
     try rw [hw]
     refine backI ⟨1, by omega, fun t ht htn => ?_⟩ (by simp only; omega) (le_ren id rfl rfl (by simp [TmpsLe, look, SV.ren, SC.ren, SC.renL, SC.okL, idσ, SV.okN, SC.okN]) ⟨⟨show (2 : Nat) < 3 from by decide, rfl, rfl, fun a => ?_⟩, trivial⟩ ⟨⟨show (0 : Nat) < 3 from by decide, arrLe_of⟩, trivial⟩ rfl)
     ·rw [hT, List.mem_append, List.mem_singleton] at ht
      rcases ht with ht | rfl
      ·exact hgk t ht htn
      ·exact who_ok hn hgk h2
     ·show (if a = [ci.beg] then some (i : Int) else put3 (whoF xs i) i (ci.moves.take 0) a) = put3 (whoF xs i) i (ci.moves.take 1) a
      rw [hT, put3_snoc, if_neg hn]
   ·simp only [go_sem, ↓condS, ↓exitS, ↓gateS, ↓runOp, ↓gateD, ↓runD, ↓imp_ft, ↓imp_tf, ↓imp_tt, ↓imp_ff, ↓imp_fn, ↓imp_tn, ↓imp_fy, ↓imp_ty, ↓reduceIte, Nat.reduceLT, Nat.reduceLeDiff, Nat.reduceAdd, Nat.reduceSub, Nat.reduceMul, Nat.reduceEqDiff, reduceCtorEq, Int.reduceToNat, Int.reduceEq, Int.reduceBEq, Int.reduceBNe, Int.reduceLT, Int.reduceLE, Int.reduceNeg, Int.reduceAdd, Int.reduceSub, Int.reduceMul, Int.reduceGE, Int.reduceGT, Cl.enc, iv, endO, dr_cons]
    have hw : IntKind.i64.wrap (1 + 1) = ((2 : Nat) : Int) := by decide
    have hT : ci.moves.take 2 = ci.moves.take 1 ++ [ci.fin] := rfl
    refine ⟨fun h => ?_, fun h => ⟨rfl, fun h2 => ?_, fun h2 => ⟨rfl, ?_⟩⟩⟩
    ·rw [beq_iff_eq] at h
     try rw [hw]
     refine backI ⟨2, by omega, fun t ht htn => ?_⟩ (by simp only; omega) (le_ren id rfl rfl (by simp [TmpsLe, look, SV.ren, SC.ren, SC.renL, SC.okL, idσ, SV.okN, SC.okN]) ⟨⟨show (2 : Nat) < 3 from by decide, rfl, rfl, fun a => ?_⟩, trivial⟩ ⟨⟨show (0 : Nat) < 3 from by decide, arrLe_of⟩, trivial⟩ rfl)
     ·rw [hT, List.mem_append, List.mem_singleton] at ht
      exact hgk t (ht.resolve_right fun e => htn (e.trans h)) htn
     ·show put3 (whoF xs i) i (ci.moves.take 1) a = put3 (whoF xs i) i (ci.moves.take 2) a
      rw [hT, put3_snoc, if_pos h]
    ·have hn : ci.fin ≠ -1 := by simpa using h
     obtain ⟨j, hj, hmm⟩ := who_fail hn h2
     exact retV fun E => by
      rw [den_c, den_v, hbf fun hm => hm.2 j i hj hlt _ hn hmm (by rw [hci]; simp [Cl.moves])]
    ·have hn : ci.fin ≠ -1 := by simpa using h
     try rw [hw]
     refine backI ⟨2, by omega, fun t ht htn => ?_⟩ (by simp only; omega) (le_ren id rfl rfl (by simp [TmpsLe, look, SV.ren, SC.ren, SC.renL, SC.okL, idσ, SV.okN, SC.okN]) ⟨⟨show (2 : Nat) < 3 from by decide, rfl, rfl, fun a => ?_⟩, trivial⟩ ⟨⟨show (0 : Nat) < 3 from by decide, arrLe_of⟩, trivial⟩ rfl)
     ·rw [hT, List.mem_append, List.mem_singleton] at ht
      rcases ht with ht | rfl
      ·exact hgk t ht htn
      ·exact who_ok hn hgk h2
     ·show (if a = [ci.fin] then some (i : Int) else put3 (whoF xs i) i (ci.moves.take 1) a) = put3 (whoF xs i) i (ci.moves.take 2) a
      rw [hT, put3_snoc, if_neg hn]
   ·simp only [go_sem, ↓condS, ↓exitS, ↓gateS, ↓runOp, ↓gateD, ↓runD, ↓imp_ft, ↓imp_tf, ↓imp_tt, ↓imp_ff, ↓imp_fn, ↓imp_tn, ↓imp_fy, ↓imp_ty, ↓reduceIte, Nat.reduceLT, Nat.reduceLeDiff, Nat.reduceAdd, Nat.reduceSub, Nat.reduceMul, Nat.reduceEqDiff, reduceCtorEq, Int.reduceToNat, Int.reduceEq, Int.reduceBEq, Int.reduceBNe, Int.reduceLT, Int.reduceLE, Int.reduceNeg, Int.reduceAdd, Int.reduceSub, Int.reduceMul, Int.reduceGE, Int.reduceGT, Cl.enc, iv, endO, dr_cons]
    have hw : IntKind.i64.wrap (2 + 1) = ((3 : Nat) : Int) := by decide
    have hT : ci.moves.take 3 = ci.moves.take 2 ++ [ci.point] := rfl
    refine ⟨fun h => ?_, fun h => ⟨rfl, fun h2 => ?_, fun h2 => ⟨rfl, ?_⟩⟩⟩
    ·rw [beq_iff_eq] at h
     try rw [hw]
     refine backI ⟨3, by omega, fun t ht htn => ?_⟩ (by simp only; omega) (le_ren id rfl rfl (by simp [TmpsLe, look, SV.ren, SC.ren, SC.renL, SC.okL, idσ, SV.okN, SC.okN]) ⟨⟨show (2 : Nat) < 3 from by decide, rfl, rfl, fun a => ?_⟩, trivial⟩ ⟨⟨show (0 : Nat) < 3 from by decide, arrLe_of⟩, trivial⟩ rfl)
     ·rw [hT, List.mem_append, List.mem_singleton] at ht
      exact hgk t (ht.resolve_right fun e => htn (e.trans h)) htn
     ·show put3 (whoF xs i) i (ci.moves.take 2) a = put3 (whoF xs i) i (ci.moves.take 3) a
      rw [hT, put3_snoc, if_pos h]
    ·have hn : ci.point ≠ -1 := by simpa using h
     obtain ⟨j, hj, hmm⟩ := who_fail hn h2
     exact retV fun E => by
      rw [den_c, den_v, hbf fun hm => hm.2 j i hj hlt _ hn hmm (by rw [hci]; simp [Cl.moves])]
    ·have hn : ci.point ≠ -1 := by simpa using h
     try rw [hw]
     refine backI ⟨3, by omega, fun t ht htn => ?_⟩ (by simp only; omega) (le_ren id rfl rfl (by simp [TmpsLe, look, SV.ren, SC.ren, SC.renL, SC.okL, idσ, SV.okN, SC.okN]) ⟨⟨show (2 : Nat) < 3 from by decide, rfl, rfl, fun a => ?_⟩, trivial⟩ ⟨⟨show (0 : Nat) < 3 from by decide, arrLe_of⟩, trivial⟩ rfl)
     ·rw [hT, List.mem_append, List.mem_singleton] at ht
      rcases ht with ht | rfl
      ·exact hgk t ht htn
      ·exact who_ok hn hgk h2
     ·show (if a = [ci.point] then some (i : Int) else put3 (whoF xs i) i (ci.moves.take 2) a) = put3 (whoF xs i) i (ci.moves.take 3) a
      rw [hT, put3_snoc, if_neg hn]
   ·simp only [go_sem, ↓condS, ↓exitS, ↓gateS, ↓runOp, ↓gateD, ↓runD, ↓imp_ft, ↓imp_tf, ↓imp_tt, ↓imp_ff, ↓imp_fn, ↓imp_tn, ↓imp_fy, ↓imp_ty, ↓reduceIte, Nat.reduceLT, Nat.reduceLeDiff, Nat.reduceAdd, Nat.reduceSub, Nat.reduceMul, Nat.reduceEqDiff, reduceCtorEq, Int.reduceToNat, Int.reduceEq, Int.reduceBEq, Int.reduceBNe, Int.reduceLT, Int.reduceLE, Int.reduceNeg, Int.reduceAdd, Int.reduceSub, Int.reduceMul, Int.reduceGE, Int.reduceGT, Cl.enc, iv, endO, dr_cons]
    rw [wr_succ (by omega)]
    refine backI ⟨i + 1, by omega, invB_step hgb (by rw [hci]; exact fun t ht htm => hgk t (by simpa [Cl.moves] using htm) ht)⟩ (by simp only; omega) (le_ren id rfl rfl (by simp [TmpsLe, look, SV.ren, SC.ren, SC.renL, SC.okL, idσ, SV.okN, SC.okN]) ⟨⟨show (2 : Nat) < 3 from by decide, rfl, rfl, fun a => ?_⟩, trivial⟩ ⟨⟨show (0 : Nat) < 3 from by decide, arrLe_of⟩, trivial⟩ rfl)
    show put3 (whoF xs i) i (ci.moves.take 3) a = whoF xs (i + 1) a
    simp only [whoF, hci]
    rfl
   ·omega
  ·rw [decide_eq_false_iff_not] at hge
   have hin : i = xs.length := by omega
   subst hin
   exact retV fun E => by rw [den_c, den_v, hbt ⟨hg, hgb⟩]
end Go.Proofs.Ytkjeedlkkpgopaa.Z
namespace Go.Proofs.Ytkjeedlkkpgopaa.Z
open Go Go.RowKit
def ir57 : IR := (.seq (.ops [⟨(some 2), (.mv (.k (.c (.v (.slice none 0 0))))), none⟩]) (.kill [1, 2, 3, 4, 5, 6, 7, 8, 9, 10, 11] (.seq (.seq (.ops [⟨(some 8), (.mv (.t 0)), none⟩, ⟨(some 9), (.len (.t 8)), none⟩, ⟨(some 10), (.bin .lss (.t 9) (.k (.c (.v (.int .i64 2))))), none⟩]) (.kill [8, 9] (.cond (.t 10) (.seq (.ops [⟨(some 11), (.mv (.t 0)), none⟩, ⟨(some 2), (.mv (.t 11)), none⟩]) (.kill [0, 10, 11] .ret)) .skip))) (.kill [2, 10] (.seq (.ops [⟨(some 12), (.mv (.t 0)), none⟩, ⟨(some 13), (.mv (.t 0)), none⟩, ⟨(some 14), (.len (.t 13)), none⟩, ⟨(some 15), (.bin .quo (.t 14) (.k (.c (.v (.int .i64 2))))), none⟩, ⟨(some 16), (.slc 2 (.t 12) none (some (.t 15)) none), none⟩, ⟨(some 17), (.call 57 [(.t 16)]), none⟩, ⟨(some 3), (.mv (.t 17)), none⟩]) (.kill [12, 13, 14, 15, 16, 17] (.seq (.ops [⟨(some 18), (.mv (.t 0)), none⟩, ⟨(some 19), (.mv (.t 0)), none⟩, ⟨(some 20), (.len (.t 19)), none⟩, ⟨(some 21), (.bin .quo (.t 20) (.k (.c (.v (.int .i64 2))))), none⟩, ⟨(some 22), (.slc 2 (.t 18) (some (.t 21)) none none), none⟩, ⟨(some 23), (.call 57 [(.t 22)]), none⟩, ⟨(some 4), (.mv (.t 23)), none⟩]) (.kill [0, 18, 19, 20, 21, 22, 23] (.seq (.ops [⟨(some 5), (.mv (.k (.c (.v (.slice none 0 0))))), none⟩]) (.seq (.ops [⟨(some 6), (.mv (.k (.c (.v (.int .i64 0))))), none⟩]) (.seq (.ops [⟨(some 7), (.mv (.k (.c (.v (.int .i64 0))))), none⟩]) (.seq (.blk 0 (.loop (.seq (.seq (.ops [⟨(some 24), (.mv (.t 6)), none⟩, ⟨(some 25), (.mv (.t 3)), none⟩, ⟨(some 26), (.len (.t 25)), none⟩, ⟨(some 27), (.bin .lss (.t 24) (.t 26)), none⟩, ⟨(some 28), (.mv (.t 27)), none⟩, ⟨(some 29), (.mv (.t 7)), (some (28, false))⟩, ⟨(some 30), (.mv (.t 4)), (some (28, false))⟩, ⟨(some 31), (.len (.t 30)), (some (28, false))⟩, ⟨(some 32), (.bin .lss (.t 29) (.t 31)), (some (28, false))⟩, ⟨(some 33), (.pick (.t 28) (.k (.c (.v (.bool true)))) (.t 32)), none⟩]) (.kill [24, 25, 26, 27, 28, 29, 30, 31, 32, 34, 35, 36, 37, 38, 39, 40, 41, 42, 43, 44, 45, 46, 47, 48, 49, 50, 51, 52, 53, 54, 55, 56, 57, 58, 59, 60, 61, 62, 63, 64, 65, 66, 67, 68, 69, 70, 71, 72, 73, 74] (.cond (.t 33) .skip (.exit 0)))) (.kill [33] (.blk 1 (.seq (.draw [(⟨(some 34), (.mv (.t 7)), none⟩, ([], [35, 36])), (⟨(some 35), (.mv (.t 4)), none⟩, ([0], [34])), (⟨(some 36), (.len (.t 35)), none⟩, ([0], [34])), (⟨(some 37), (.bin .eql (.t 34) (.t 36)), none⟩, ([], [])), (⟨(some 38), (.mv (.t 37)), none⟩, ([], [])), (⟨(some 39), (.mv (.t 6)), (some (38, false))⟩, ([], [40, 41])), (⟨(some 40), (.mv (.t 3)), (some (38, false))⟩, ([5], [39])), (⟨(some 41), (.len (.t 40)), (some (38, false))⟩, ([5], [39])), (⟨(some 42), (.bin .lss (.t 39) (.t 41)), (some (38, false))⟩, ([], [])), (⟨(some 43), (.mv (.t 42)), (some (38, false))⟩, ([], [])), (⟨(some 44), (.mv (.t 3)), (some (43, true))⟩, ([], [45, 49, 50, 51, 52, 53])), (⟨(some 45), (.mv (.t 6)), (some (43, true))⟩, ([10], [44, 49, 50, 51, 52, 53])), (⟨(some 46), (.ia 2 (.t 44) (.t 45)), (some (43, true))⟩, ([], [49, 50, 51, 52, 53])), (⟨(some 47), (.fa 0 (.t 46)), (some (43, true))⟩, ([], [49, 50, 51, 52, 53])), (⟨(some 48), (.ld false 1 (.t 47)), (some (43, true))⟩, ([], [49, 50, 51, 52, 53])), (⟨(some 49), (.mv (.t 4)), (some (43, true))⟩, ([10, 11, 12, 13, 14], [44, 45, 46, 47, 48, 50])), (⟨(some 50), (.mv (.t 7)), (some (43, true))⟩, ([10, 11, 12, 13, 14, 15], [44, 45, 46, 47, 48, 49])), (⟨(some 51), (.ia 2 (.t 49) (.t 50)), (some (43, true))⟩, ([10, 11, 12, 13, 14], [44, 45, 46, 47, 48])), (⟨(some 52), (.fa 0 (.t 51)), (some (43, true))⟩, ([10, 11, 12, 13, 14], [44, 45, 46, 47, 48])), (⟨(some 53), (.ld false 1 (.t 52)), (some (43, true))⟩, ([10, 11, 12, 13, 14], [44, 45, 46, 47, 48])), (⟨(some 54), (.bin .leq (.t 48) (.t 53)), (some (43, true))⟩, ([], [])), (⟨(some 55), (.pick (.t 43) (.t 54) (.k (.c (.v (.bool false))))), (some (38, false))⟩, ([], [])), (⟨(some 56), (.pick (.t 38) (.k (.c (.v (.bool true)))) (.t 55)), none⟩, ([], []))]) (.kill [34, 35, 36, 37, 38, 39, 40, 41, 42, 43, 44, 45, 46, 47, 48, 49, 50, 51, 52, 53, 54, 55] (.cond (.t 56) (.seq (.ops [⟨(some 57), (.mv (.t 5)), none⟩, ⟨(some 58), (.mv (.t 3)), none⟩, ⟨(some 59), (.mv (.t 6)), none⟩, ⟨(some 60), (.ia 2 (.t 58) (.t 59)), none⟩, ⟨(some 61), (.ld true 2 (.t 60)), none⟩, ⟨(some 62), (.mkSl 89 1 2 [(.v (.int .i64 0)), (.v (.int .i64 0))] [(0, (2, (.t 61)))]), none⟩, ⟨(some 63), (.app 89 2 16 [(.v (.int .i64 0)), (.v (.int .i64 0))] (.t 57) (.t 62)), none⟩, ⟨(some 5), (.mv (.t 63)), none⟩]) (.kill [56, 57, 58, 59, 60, 61, 62, 63] (.ops [⟨(some 64), (.mv (.t 6)), none⟩, ⟨(some 65), (.bin .add (.t 64) (.k (.c (.v (.int .i64 1))))), none⟩, ⟨(some 6), (.mv (.t 65)), none⟩]))) (.seq (.ops [⟨(some 66), (.mv (.t 5)), none⟩, ⟨(some 67), (.mv (.t 4)), none⟩, ⟨(some 68), (.mv (.t 7)), none⟩, ⟨(some 69), (.ia 2 (.t 67) (.t 68)), none⟩, ⟨(some 70), (.ld true 2 (.t 69)), none⟩, ⟨(some 71), (.mkSl 89 1 2 [(.v (.int .i64 0)), (.v (.int .i64 0))] [(0, (2, (.t 70)))]), none⟩, ⟨(some 72), (.app 89 2 16 [(.v (.int .i64 0)), (.v (.int .i64 0))] (.t 66) (.t 71)), none⟩, ⟨(some 5), (.mv (.t 72)), none⟩]) (.kill [56, 66, 67, 68, 69, 70, 71, 72] (.ops [⟨(some 73), (.mv (.t 7)), none⟩, ⟨(some 74), (.bin .add (.t 73) (.k (.c (.v (.int .i64 1))))), none⟩, ⟨(some 7), (.mv (.t 74)), none⟩]))))))))))) (.kill [3, 4, 6, 7, 24, 25, 26, 27, 28, 29, 30, 31, 32, 33, 34, 35, 36, 37, 38, 39, 40, 41, 42, 43, 44, 45, 46, 47, 48, 49, 50, 51, 52, 53, 54, 55, 56, 57, 58, 59, 60, 61, 62, 63, 64, 65, 66, 67, 68, 69, 70, 71, 72, 73, 74] (.seq (.ops [⟨(some 75), (.mv (.t 5)), none⟩, ⟨(some 2), (.mv (.t 75)), none⟩]) (.kill [5, 75] .ret)))))))))))))))
def rs57 : List RS := [(.t 2)]
def nt57 : Nat := 76
abbrev Mk := Int × Int
def mkE (m : Mk) : List Value := [iv m.1, iv m.2]
theorem mkE_ok : EncT mkE 2 := ⟨fun _ => rfl, fun x u hu => by simp [mkE, iv] at hu; rcases hu with rfl | rfl <;> rfl⟩
def mk0 : Mk := (0, 0)
def leM (a b : Mk) : Bool := decide (a.1 ≤ b.1)
def srt : Nat → List Mk → List Mk
 | 0, l => l
 | n + 1, l => if l.length < 2 then l else List.merge (srt n (l.take (l.length / 2))) (srt n (l.drop (l.length / 2))) leM
theorem srt_perm : ∀ (n : Nat) (l : List Mk), (srt n l).Perm l
 | 0, l => .refl _
 | n + 1, l => by
  simp only [srt]
  split
  ·exact .refl _
  ·refine (List.merge_perm_append _).trans ?_
   refine ((srt_perm n _).append (srt_perm n _)).trans ?_
   rw [List.take_append_drop]
theorem srt_len (n : Nat) (l : List Mk) : (srt n l).length = l.length := (srt_perm n l).length_eq
theorem srt_sorted : ∀ (n : Nat) (l : List Mk), l.length ≤ n → (srt n l).Pairwise fun a b => leM a b = true
 | 0, l, h => by
  have : l = [] := List.eq_nil_of_length_eq_zero (by omega)
  subst this
  exact .nil
 | n + 1, l, h => by
  simp only [srt]
  split
  ·next h2 =>
   match l, h2 with
   | [], _ => exact .nil
   | [x], _ => simp
  ·next h2 =>
   refine List.pairwise_merge (fun a b c h1 h2 => ?_) (fun a b => ?_) _ _ (srt_sorted n _ (by simp; omega)) (srt_sorted n _ (by simp; omega))
   ·simp only [leM, decide_eq_true_eq] at *; omega
   ·simp only [leM, Bool.or_eq_true, decide_eq_true_eq]; omega
theorem quo2 {n : Nat} (h : n ≤ 9223372036854775807) : IntKind.i64.wrap ((n : Int).tdiv 2) = ((n / 2 : Nat) : Int) := by
 rw [IntWalk.i64_quo (n : Int) 2 ⟨by omega, by omega, by omega⟩]
 omega
theorem lt0 {n : Nat} : ∀ i ∈ [0], i < n + 1 := fun i hi => by simp only [List.mem_singleton] at hi; omega
theorem le_trans {C : Ctx} {S S' S'' : St} (h : Le C S S') (h' : Le C S' S'') : Le C S S'' := fun E a w hs => by
 obtain ⟨E', hs'⟩ := h E a w hs
 exact h' E' a w hs'
theorem merge_l {A B : List Mk} {i k : Nat} (hi : i < A.length) (hk : k < B.length → leM (A.getD i mk0) (B.getD k mk0) = true) : List.merge (A.drop i) (B.drop k) leM = A.getD i mk0 :: List.merge (A.drop (i + 1)) (B.drop k) leM := by
 rw [List.drop_eq_getElem_cons hi]
 have ha : A.getD i mk0 = A[i] := by simp [List.getD_eq_getElem?_getD, List.getElem?_eq_getElem hi]
 rw [ha] at hk ⊢
 rcases Nat.lt_or_ge k B.length with h | h
 ·rw [List.drop_eq_getElem_cons h]
  have hb : B.getD k mk0 = B[k] := by simp [List.getD_eq_getElem?_getD, List.getElem?_eq_getElem h]
  have := hk h
  rw [hb] at this
  rw [List.cons_merge_cons, if_pos this]
 ·rw [List.drop_eq_nil_of_le h, List.merge_right, List.merge_right]
theorem merge_r {A B : List Mk} {i k : Nat} (hk : k < B.length) (hi : i < A.length → leM (A.getD i mk0) (B.getD k mk0) = false) : List.merge (A.drop i) (B.drop k) leM = B.getD k mk0 :: List.merge (A.drop i) (B.drop (k + 1)) leM := by
 rw [List.drop_eq_getElem_cons hk]
 have hb : B.getD k mk0 = B[k] := by simp [List.getD_eq_getElem?_getD, List.getElem?_eq_getElem hk]
 rw [hb] at hi ⊢
 rcases Nat.lt_or_ge i A.length with h | h
 ·rw [List.drop_eq_getElem_cons h]
  have ha : A.getD i mk0 = A[i] := by simp [List.getD_eq_getElem?_getD, List.getElem?_eq_getElem h]
  have := hi h
  rw [ha] at this
  rw [List.cons_merge_cons, if_neg (by rw [this]; simp)]
 ·rw [List.drop_eq_nil_of_le h, List.nil_merge, List.nil_merge]
theorem ats_snoc {α : Type} {enc : α → List Value} {xs : List α} {d x : α} {f g : Nat → List SC} (hf : ∀ e, e < xs.length → f e = ats enc xs d e) (hg : g 0 = (enc x).map .v) {e : Nat} (he : e < xs.length + 1) : appAt xs.length f g e = ats enc (xs ++ [x]) d e := by
 unfold appAt
 by_cases h : e < xs.length
 ·rw [if_pos h, hf e h]
  simp [ats, List.getD_eq_getElem?_getD, List.getElem?_append_left h]
 ·have : e = xs.length := by omega
  subst this
  rw [if_neg h, Nat.sub_self, hg]
  simp [ats]
theorem ats_snoc' {α : Type} {enc : α → List Value} {xs : List α} {d x : α} {n : Nat} {f g : Nat → List SC} (hn : n = xs.length) (hf : ∀ e, e < xs.length → f e = ats enc xs d e) (hg : g 0 = (enc x).map .v) : ∀ e, e < (xs ++ [x]).length → appAt n f g e = ats enc (xs ++ [x]) d e := fun e he => by
 subst hn
 exact ats_snoc hf hg (by simpa using he)
structure Mrg (A B : List Mk) where
 i : Nat
 k : Nat
 out : List Mk
 hi : i ≤ A.length
 hk : k ≤ B.length
 len : out.length = i + k
 eq : out ++ List.merge (A.drop i) (B.drop k) leM = List.merge A B leM
set_option maxRecDepth 100000 in
set_option maxHeartbeats 400000 in
theorem sorted_calls : ∀ (n : Nat) (w : World) (v : Value) (xs : List Mk), xs.length ≤ n + 1 → xs.length * 16 ≤ 140737488355328 → Arr w mkE 2 v xs → Calls Try.prog 57 #[v] w (RetA w (fun w'' => Arr w'' mkE 2 v xs) mkE 2 (srt (n + 1) xs)) := by
 intro n
 induction n using Nat.strongRecOn with
 | ind n ih0 =>
 intro w v xs hl hsz h
 refine calls_sym (c := ir57) (C := mkC Try.prog [] w rs57 (RetA w (fun w'' => Arr w'' mkE 2 v xs) mkE 2 (srt (n + 1) xs))) 1000 [.c (.xv (0, 0, 0))] 
  (E1 v) [] [(0, .one (arrOf mkE 2 xs mk0))] [fun E _ => E.χ (0, 0, 0) = v] 1 nt57 _ (mkTab_ok _ _) Try.func57 rfl (by kernel_rfl) (by kernel_rfl) rfl rfl rfl (E1_one (arr_one h))
  (fun E' hE' => ?_) (of_decide_eq_true rfl) (fun E' hE' => inOk_arrsF (fun w' hw' x A hA => ?_) (fun w' φ hφ => ?_)) ?_
 ·have e0 := (hE' (0, 0, 0) (by decide)).2.2.2
  simp [SV.den, SC.den, e0, E1]
 ·have e0 := (hE' (0, 0, 0) (by decide)).2.2.2
  rcases atN_one hA with ⟨rfl, rfl⟩ | hA
  ·exact arr1 mkE_ok e0 h hw'
  exact (atN_nil hA).elim
 ·simp only [List.mem_singleton] at hφ
  subst hφ
  exact (hE' (0, 0, 0) (by decide)).2.2.2
 have hlen := Z.Arr.lenM h
 simp only [maxLen] at hlen
 simp only [ir57, nt57, rs57, go_sem, ↓condS, ↓exitS, ↓gateS, ↓runOp, ↓gateD, ↓runD, ↓imp_ft, ↓imp_tf, ↓imp_tt, ↓imp_ff, ↓imp_fn, ↓imp_tn, ↓imp_fy, ↓imp_ty, ↓reduceIte, Nat.reduceLT, Nat.reduceLeDiff, Nat.reduceAdd, Nat.reduceSub, Nat.reduceMul, Nat.reduceEqDiff, reduceCtorEq, Int.reduceToNat, Int.reduceEq, Int.reduceBEq, Int.reduceBNe, Int.reduceLT, Int.reduceLE, Int.reduceNeg, Int.reduceAdd, Int.reduceSub, Int.reduceMul, Int.reduceGE, Int.reduceGT, Cl.enc, iv, endO, dr_cons]
 refine both (fun hlt => ?_) (fun hge => ?_)
 ·rw [decide_eq_true_eq] at hlt
  have h2 : srt (n + 1) xs = xs := by simp only [srt]; rw [if_pos (by omega)]
  rw [h2]
  exact retA_arg (v0 := v) (List.mem_singleton.2 rfl) fun w'' h => h
 ·rw [decide_eq_false_iff_not] at hge
  rw [quo2 (by omega)]
  simp only [Int.toNat_natCast, Nat.sub_zero]
  refine ⟨by decide, ⟨by omega, by omega, Or.inr trivial⟩, ?_⟩
  generalize hh : xs.length / 2 = hf
  have ih := ih0 (n - 1) (by omega)
  rw [show n - 1 + 1 = n by omega] at ih
  have hhf : hf < xs.length ∧ 0 < hf ∧ 2 * hf ≤ xs.length ∧ xs.length ≤ 2 * hf + 1 := by omega
  have lA : (xs.take hf).length = hf := by simp; omega
  have lB : (xs.drop hf).length = xs.length - hf := by simp
  refine callA (enc := mkE) (s := 2) (xs := xs.take hf) (ys := srt n (xs.take hf)) (d := mk0) mkE_ok (.xs (0, 0, 0) 2 0 hf none) [0] lt0 (fun E E2 hE => ?_) (fun E w'' hh => ?_) (fun w v hv => ih w v _ (by omega) (by omega) hv) ?_
  ·simp only [SC.den, (hE (0, 0, 0) (by simp)).2.2.2]
  ·have := arr_xs (o := 0) (n := hf) (hh.1 (0, 0, 0) _ rfl) (by omega)
   simpa using this
  simp only [go_sem, ↓condS, ↓exitS, ↓gateS, ↓runOp, ↓gateD, ↓runD, ↓imp_ft, ↓imp_tf, ↓imp_tt, ↓imp_ff, ↓imp_fn, ↓imp_tn, ↓imp_fy, ↓imp_ty, ↓reduceIte, Nat.reduceLT, Nat.reduceLeDiff, Nat.reduceAdd, Nat.reduceSub, Nat.reduceMul, Nat.reduceEqDiff, reduceCtorEq, Int.reduceToNat, Int.reduceEq, Int.reduceBEq, Int.reduceBNe, Int.reduceLT, Int.reduceLE, Int.reduceNeg, Int.reduceAdd, Int.reduceSub, Int.reduceMul, Int.reduceGE, Int.reduceGT, Cl.enc, iv, endO, dr_cons]
  rw [quo2 (by omega), hh]
  simp only [Int.toNat_natCast, Nat.sub_zero]
  refine ⟨by decide, ⟨by omega, by omega, by omega, Or.inl (by omega)⟩, ?_⟩
  refine callA (enc := mkE) (s := 2) (xs := xs.drop hf) (ys := srt n (xs.drop hf)) (d := mk0) mkE_ok (.xs (0, 0, 0) 2 hf (xs.length - hf) none) [0] lt0 (fun E E2 hE => ?_) (fun E w'' hh => ?_) (fun w v hv => ih w v _ (by omega) (by omega) hv) ?_
  ·simp only [SC.den, (hE (0, 0, 0) (by simp)).2.2.2]
  ·have := arr_xs (o := hf) (n := xs.length - hf) (hh.1 (0, 0, 0) _ rfl) (by omega)
   rwa [List.take_of_length_le (by simp)] at this
  simp only [go_sem, ↓condS, ↓exitS, ↓gateS, ↓runOp, ↓gateD, ↓runD, ↓imp_ft, ↓imp_tf, ↓imp_tt, ↓imp_ff, ↓imp_fn, ↓imp_tn, ↓imp_fy, ↓imp_ty, ↓reduceIte, Nat.reduceLT, Nat.reduceLeDiff, Nat.reduceAdd, Nat.reduceSub, Nat.reduceMul, Nat.reduceEqDiff, reduceCtorEq, Int.reduceToNat, Int.reduceEq, Int.reduceBEq, Int.reduceBNe, Int.reduceLT, Int.reduceLE, Int.reduceNeg, Int.reduceAdd, Int.reduceSub, Int.reduceMul, Int.reduceGE, Int.reduceGT, Cl.enc, iv, endO, dr_cons]
  have hres : srt (n + 1) xs = List.merge (srt n (xs.take hf)) (srt n (xs.drop hf)) leM := by
   simp only [srt]
   rw [if_neg (by omega), hh]
  have lA2 : (srt n (xs.take hf)).length = hf := by rw [srt_len, lA]
  have lB2 : (srt n (xs.drop hf)).length = xs.length - hf := by rw [srt_len, lB]
  rw [hres]
  generalize srt n (xs.take hf) = A at lA2
  generalize srt n (xs.drop hf) = B at lB2
  refine loopI (ι := Mrg A B) (fun m => ⟨76, [(3, .c (.xv (1, 0, 0))), (4, .c (.xv (2, 0, 0))), (5, .c (.sl (3, 0, 0) 2 0 m.out.length none)), (6, .c (.v (.int .i64 (m.i : Nat)))), (7, .c (.v (.int .i64 (m.k : Nat))))], [(3, .one (.ar m.out.length 2 (ats mkE m.out mk0) 89))], [(1, .one (arrOf mkE 2 A mk0)), (2, .one (arrOf mkE 2 B mk0))], [], 4⟩)
   (fun m => A.length + B.length - m.i - m.k) ⟨0, 0, [], by omega, by omega, rfl, rfl⟩ ?_ ?_
  ·refine le_trans (le_nilown (tmps' := [(3, .c (.xv (1, 0, 0))), (4, .c (.xv (2, 0, 0))), (5, .c (.sl (3, 0, 0) 2 0 0 none)), (6, .c (.v (.int .i64 0))), (7, .c (.v (.int .i64 0)))]) 2 89 (ats mkE [] mk0) (by simp [TmpsNil, look]) rfl) (le_ren id rfl rfl (by simp [TmpsLe, look, SV.ren, SC.ren, idσ, SV.okN, SC.okN]) ⟨⟨show (3 : Nat) < 4 from by decide, arLe_of (Nat.le_refl _) fun e he => rfl⟩, trivial⟩ ⟨⟨show (1 : Nat) < 4 from by decide, arrLe_of⟩, ⟨show (2 : Nat) < 4 from by decide, arrLe_of⟩, trivial⟩ rfl)
  rintro ⟨i, k, out, hi, hk, hol, heq⟩
  simp only [go_sem, ↓condS, ↓exitS, ↓gateS, ↓runOp, ↓gateD, ↓runD, ↓imp_ft, ↓imp_tf, ↓imp_tt, ↓imp_ff, ↓imp_fn, ↓imp_tn, ↓imp_fy, ↓imp_ty, ↓reduceIte, Nat.reduceLT, Nat.reduceLeDiff, Nat.reduceAdd, Nat.reduceSub, Nat.reduceMul, Nat.reduceEqDiff, reduceCtorEq, Int.reduceToNat, Int.reduceEq, Int.reduceBEq, Int.reduceBNe, Int.reduceLT, Int.reduceLE, Int.reduceNeg, Int.reduceAdd, Int.reduceSub, Int.reduceMul, Int.reduceGE, Int.reduceGT, Cl.enc, iv, endO, dr_cons, mkE]
  have hab : A.length + B.length = xs.length := by omega
  refine both (fun hlp => ?_) (fun hend => ?_)
  ·refine draw_vc (by kernel_rfl) (mkTab_ok _ _) (of_decide_eq_true rfl) (of_decide_eq_true rfl) ?_
   simp only [go_sem, ↓condS, ↓exitS, ↓gateS, ↓runOp, ↓gateD, ↓runD, ↓imp_ft, ↓imp_tf, ↓imp_tt, ↓imp_ff, ↓imp_fn, ↓imp_tn, ↓imp_fy, ↓imp_ty, ↓reduceIte, Nat.reduceLT, Nat.reduceLeDiff, Nat.reduceAdd, Nat.reduceSub, Nat.reduceMul, Nat.reduceEqDiff, reduceCtorEq, Int.reduceToNat, Int.reduceEq, Int.reduceBEq, Int.reduceBNe, Int.reduceLT, Int.reduceLE, Int.reduceNeg, Int.reduceAdd, Int.reduceSub, Int.reduceMul, Int.reduceGE, Int.reduceGT, Cl.enc, iv, endO, dr_cons, mkE]
   simp only [b_decR, b_decL, bt_ite, bf_ite, bt_dec, bf_dec, bt_int, bf_int, bt_nint, bf_nint, bt_bool, bf_bool, bt_nbool, bf_nbool, bt_not, bf_not, bt_and, bf_and, bt_or, bf_or, Bool.false_eq_true, Bool.true_eq_false, Bool.not_eq_true, Bool.not_eq_false, reduceCtorEq, false_iff, true_iff, iff_false, iff_true, and_true, true_and, and_false, false_and, or_true, true_or, or_false, false_or, not_true_eq_false, not_false_eq_true, ne_eq] at hlp
   have hin : (!(k : Int) == (B.length : Int) && decide (i < A.length)) = true → i < A.length ∧ k < B.length := fun h => by
    simp only [b_decR, b_decL, bt_ite, bf_ite, bt_dec, bf_dec, bt_int, bf_int, bt_nint, bf_nint, bt_bool, bf_bool, bt_nbool, bf_nbool, bt_not, bf_not, bt_and, bf_and, bt_or, bf_or, Bool.false_eq_true, Bool.true_eq_false, Bool.not_eq_true, Bool.not_eq_false, reduceCtorEq, false_iff, true_iff, iff_false, iff_true, and_true, true_and, and_false, false_and, or_true, true_or, or_false, false_or, not_true_eq_false, not_false_eq_true, ne_eq] at h
    omega
   refine ⟨fun h => (hin h).1, fun h => (hin h).1, fun h => (hin h).1, fun h => (hin h).2, fun h => (hin h).2, fun h => (hin h).2, fun hc => ?_, fun hc => ?_⟩
   ·simp only [b_decR, b_decL, bt_ite, bf_ite, bt_dec, bf_dec, bt_int, bf_int, bt_nint, bf_nint, bt_bool, bf_bool, bt_nbool, bf_nbool, bt_not, bf_not, bt_and, bf_and, bt_or, bf_or, Bool.false_eq_true, Bool.true_eq_false, Bool.not_eq_true, Bool.not_eq_false, reduceCtorEq, false_iff, true_iff, iff_false, iff_true, and_true, true_and, and_false, false_and, or_true, true_or, or_false, false_or, not_true_eq_false, not_false_eq_true, ne_eq] at hc
    have hiA : i < A.length := by omega
    refine ⟨hiA, hiA, by decide, ⟨Nat.le_refl _, by omega, by simp only [maxLen]; omega⟩, ?_⟩
    rw [wr_succ (by omega)]
    refine backI ⟨i + 1, k, out ++ [A.getD i mk0], by omega, by omega, by simp; omega, by rw [← heq, merge_l hiA (fun h => by simp only [leM, decide_eq_true_eq]; omega), List.append_assoc]; rfl⟩ (by simp only; omega)
     (le_ren (fun i => if i = 3 then 5 else i) rfl rfl (by simp [TmpsLe, look, SV.ren, SC.ren, idσ, SV.okN, SC.okN]) ⟨⟨show (3 : Nat) < 4 from by decide, arLe_of (by simp) fun e he => ats_snoc (fun e he => rfl) rfl (by simpa using he)⟩, trivial⟩ ⟨⟨show (1 : Nat) < 4 from by decide, arrLe_of⟩, ⟨show (2 : Nat) < 4 from by decide, arrLe_of⟩, trivial⟩ rfl)
   ·simp only [b_decR, b_decL, bt_ite, bf_ite, bt_dec, bf_dec, bt_int, bf_int, bt_nint, bf_nint, bt_bool, bf_bool, bt_nbool, bf_nbool, bt_not, bf_not, bt_and, bf_and, bt_or, bf_or, Bool.false_eq_true, Bool.true_eq_false, Bool.not_eq_true, Bool.not_eq_false, reduceCtorEq, false_iff, true_iff, iff_false, iff_true, and_true, true_and, and_false, false_and, or_true, true_or, or_false, false_or, not_true_eq_false, not_false_eq_true, ne_eq] at hc
    have hkB : k < B.length := by omega
    refine ⟨hkB, hkB, by decide, ⟨Nat.le_refl _, by omega, by simp only [maxLen]; omega⟩, ?_⟩
    rw [wr_succ (by omega)]
    refine backI ⟨i, k + 1, out ++ [B.getD k mk0], by omega, by omega, by simp; omega, by rw [← heq, merge_r hkB (fun h => by simp only [leM, decide_eq_false_iff_not]; omega), List.append_assoc]; rfl⟩ (by simp only; omega)
     (le_ren (fun i => if i = 3 then 5 else i) rfl rfl (by simp [TmpsLe, look, SV.ren, SC.ren, idσ, SV.okN, SC.okN]) ⟨⟨show (3 : Nat) < 4 from by decide, arLe_of (by simp) fun e he => ats_snoc (fun e he => rfl) rfl (by simpa using he)⟩, trivial⟩ ⟨⟨show (1 : Nat) < 4 from by decide, arrLe_of⟩, ⟨show (2 : Nat) < 4 from by decide, arrLe_of⟩, trivial⟩ rfl)
  ·simp only [b_decR, b_decL, bt_ite, bf_ite, bt_dec, bf_dec, bt_int, bf_int, bt_nint, bf_nint, bt_bool, bf_bool, bt_nbool, bf_nbool, bt_not, bf_not, bt_and, bf_and, bt_or, bf_or, Bool.false_eq_true, Bool.true_eq_false, Bool.not_eq_true, Bool.not_eq_false, reduceCtorEq, false_iff, true_iff, iff_false, iff_true, and_true, true_and, and_false, false_and, or_true, true_or, or_false, false_or, not_true_eq_false, not_false_eq_true, ne_eq] at hend
   have e1 : i = A.length := by omega
   have e2 : k = B.length := by omega
   have hout : out = List.merge A B leM := by
    rw [← heq, e1, e2, List.drop_length, List.drop_length, List.merge_right, List.append_nil]
   subst hout
   exact retA_own 3 _ _ _ rfl rfl (Nat.le_refl _) fun e he => rfl
end Go.Proofs.Ytkjeedlkkpgopaa.Z
namespace Go.Proofs.Ytkjeedlkkpgopaa.Z
open Go Go.RowKit
def ir39 : IR := (.seq (.ops [⟨(some 2), (.mv (.k (.c (.v (.bool false))))), none⟩]) (.kill [1, 2, 3, 4, 5, 6, 7, 8, 9, 10, 11] (.seq (.ops [⟨(some 3), (.mv (.k (.c (.v (.slice none 0 0))))), none⟩]) (.seq (.seq (.ops [⟨(some 4), (.mv (.k (.c (.v (.int .i64 0))))), none⟩]) (.blk 0 (.loop (.seq (.seq (.ops [⟨(some 6), (.mv (.t 4)), none⟩, ⟨(some 7), (.mv (.t 0)), none⟩, ⟨(some 8), (.len (.t 7)), none⟩, ⟨(some 9), (.bin .lss (.t 6) (.t 8)), none⟩]) (.kill [6, 7, 8, 10, 11, 12, 13, 14, 15, 16, 17, 18, 19, 20, 21, 22, 23, 24, 25, 26, 27, 28, 29, 30, 31, 32, 33, 34, 35, 36, 37, 38, 39, 40, 41, 42, 43, 44, 45, 46, 47, 48, 49, 50, 51, 52, 53] (.cond (.t 9) .skip (.exit 0)))) (.kill [9] (.seq (.blk 1 (.seq (.ops [⟨(some 12), (.mv (.t 3)), none⟩, ⟨(some 13), (.mv (.t 0)), none⟩, ⟨(some 14), (.mv (.t 4)), none⟩, ⟨(some 15), (.ia 9 (.t 13) (.t 14)), none⟩, ⟨(some 16), (.fa 4 (.t 15)), none⟩, ⟨(some 17), (.ld false 1 (.t 16)), none⟩, ⟨(some 18), (.mv (.t 4)), none⟩, ⟨(some 19), (.build [(.v (.int .i64 0)), (.v (.int .i64 0))] [(0, (1, (.t 17))), (1, (1, (.t 18)))]), none⟩, ⟨(some 20), (.mkSl 89 1 2 [(.v (.int .i64 0)), (.v (.int .i64 0))] [(0, (2, (.t 19)))]), none⟩, ⟨(some 21), (.app 89 2 16 [(.v (.int .i64 0)), (.v (.int .i64 0))] (.t 12) (.t 20)), none⟩, ⟨(some 3), (.mv (.t 21)), none⟩]) (.kill [12, 13, 14, 15, 16, 17, 18, 19, 20, 21] (.seq (.seq (.ops [⟨(some 22), (.mv (.t 0)), none⟩, ⟨(some 23), (.mv (.t 4)), none⟩, ⟨(some 24), (.ia 9 (.t 22) (.t 23)), none⟩, ⟨(some 25), (.fa 5 (.t 24)), none⟩, ⟨(some 26), (.ld false 1 (.t 25)), none⟩, ⟨(some 27), (.bin .neq (.t 26) (.k (.c (.v (.int .i64 (-1)))))), none⟩]) (.kill [22, 23, 24, 25, 26] (.cond (.t 27) (.ops [⟨(some 28), (.mv (.t 3)), none⟩, ⟨(some 29), (.mv (.t 0)), none⟩, ⟨(some 30), (.mv (.t 4)), none⟩, ⟨(some 31), (.ia 9 (.t 29) (.t 30)), none⟩, ⟨(some 32), (.fa 5 (.t 31)), none⟩, ⟨(some 33), (.ld false 1 (.t 32)), none⟩, ⟨(some 34), (.mv (.t 4)), none⟩, ⟨(some 35), (.build [(.v (.int .i64 0)), (.v (.int .i64 0))] [(0, (1, (.t 33))), (1, (1, (.t 34)))]), none⟩, ⟨(some 36), (.mkSl 89 1 2 [(.v (.int .i64 0)), (.v (.int .i64 0))] [(0, (2, (.t 35)))]), none⟩, ⟨(some 37), (.app 89 2 16 [(.v (.int .i64 0)), (.v (.int .i64 0))] (.t 28) (.t 36)), none⟩, ⟨(some 3), (.mv (.t 37)), none⟩]) .skip))) (.kill [27, 28, 29, 30, 31, 32, 33, 34, 35, 36, 37] (.seq (.ops [⟨(some 38), (.mv (.t 0)), none⟩, ⟨(some 39), (.mv (.t 4)), none⟩, ⟨(some 40), (.ia 9 (.t 38) (.t 39)), none⟩, ⟨(some 41), (.fa 6 (.t 40)), none⟩, ⟨(some 42), (.ld false 1 (.t 41)), none⟩, ⟨(some 43), (.bin .neq (.t 42) (.k (.c (.v (.int .i64 (-1)))))), none⟩]) (.kill [38, 39, 40, 41, 42] (.cond (.t 43) (.ops [⟨(some 44), (.mv (.t 3)), none⟩, ⟨(some 45), (.mv (.t 0)), none⟩, ⟨(some 46), (.mv (.t 4)), none⟩, ⟨(some 47), (.ia 9 (.t 45) (.t 46)), none⟩, ⟨(some 48), (.fa 6 (.t 47)), none⟩, ⟨(some 49), (.ld false 1 (.t 48)), none⟩, ⟨(some 50), (.mv (.t 4)), none⟩, ⟨(some 51), (.build [(.v (.int .i64 0)), (.v (.int .i64 0))] [(0, (1, (.t 49))), (1, (1, (.t 50)))]), none⟩, ⟨(some 52), (.mkSl 89 1 2 [(.v (.int .i64 0)), (.v (.int .i64 0))] [(0, (2, (.t 51)))]), none⟩, ⟨(some 53), (.app 89 2 16 [(.v (.int .i64 0)), (.v (.int .i64 0))] (.t 44) (.t 52)), none⟩, ⟨(some 3), (.mv (.t 53)), none⟩]) .skip)))))))) (.kill [12, 13, 14, 15, 16, 17, 18, 19, 20, 21, 22, 23, 24, 25, 26, 27, 28, 29, 30, 31, 32, 33, 34, 35, 36, 37, 38, 39, 40, 41, 42, 43, 44, 45, 46, 47, 48, 49, 50, 51, 52, 53] (.ops [⟨(some 10), (.mv (.t 4)), none⟩, ⟨(some 11), (.bin .add (.t 10) (.k (.c (.v (.int .i64 1))))), none⟩, ⟨(some 4), (.mv (.t 11)), none⟩])))))))) (.kill [0, 4, 6, 7, 8, 9, 10, 11, 12, 13, 14, 15, 16, 17, 18, 19, 20, 21, 22, 23, 24, 25, 26, 27, 28, 29, 30, 31, 32, 33, 34, 35, 36, 37, 38, 39, 40, 41, 42, 43, 44, 45, 46, 47, 48, 49, 50, 51, 52, 53] (.seq (.ops [⟨(some 54), (.mv (.t 3)), none⟩, ⟨(some 55), (.call 57 [(.t 54)]), none⟩, ⟨(some 3), (.mv (.t 55)), none⟩]) (.kill [54, 55] (.seq (.seq (.ops [⟨(some 5), (.mv (.k (.c (.v (.int .i64 1))))), none⟩]) (.blk 2 (.loop (.seq (.seq (.ops [⟨(some 56), (.mv (.t 5)), none⟩, ⟨(some 57), (.mv (.t 3)), none⟩, ⟨(some 58), (.len (.t 57)), none⟩, ⟨(some 59), (.bin .lss (.t 56) (.t 58)), none⟩]) (.kill [2, 56, 57, 58, 60, 61, 62, 63, 64, 65, 66, 67, 68, 69, 70, 71, 72, 73, 74, 75, 76, 77, 78, 79, 80, 81, 82, 83, 84, 85, 86, 87] (.cond (.t 59) .skip (.exit 2)))) (.kill [59] (.seq (.blk 3 (.seq (.draw [(⟨(some 62), (.mv (.t 3)), none⟩, ([], [63, 67, 68, 69, 70, 71, 72])), (⟨(some 63), (.mv (.t 5)), none⟩, ([0], [62, 67, 68, 69, 70, 71, 72])), (⟨(some 64), (.ia 2 (.t 62) (.t 63)), none⟩, ([], [67, 68, 69, 70, 71, 72])), (⟨(some 65), (.fa 0 (.t 64)), none⟩, ([], [67, 68, 69, 70, 71, 72])), (⟨(some 66), (.ld false 1 (.t 65)), none⟩, ([], [67, 68, 69, 70, 71, 72])), (⟨(some 67), (.mv (.t 3)), none⟩, ([0, 1, 2, 3, 4], [62, 63, 64, 65, 66, 68, 69])), (⟨(some 68), (.mv (.t 5)), none⟩, ([0, 1, 2, 3, 4, 5], [62, 63, 64, 65, 66, 67])), (⟨(some 69), (.bin .sub (.t 68) (.k (.c (.v (.int .i64 1))))), none⟩, ([0, 1, 2, 3, 4, 5], [62, 63, 64, 65, 66, 67])), (⟨(some 70), (.ia 2 (.t 67) (.t 69)), none⟩, ([0, 1, 2, 3, 4], [62, 63, 64, 65, 66])), (⟨(some 71), (.fa 0 (.t 70)), none⟩, ([0, 1, 2, 3, 4], [62, 63, 64, 65, 66])), (⟨(some 72), (.ld false 1 (.t 71)), none⟩, ([0, 1, 2, 3, 4], [62, 63, 64, 65, 66])), (⟨(some 73), (.bin .eql (.t 66) (.t 72)), none⟩, ([], [])), (⟨(some 74), (.mv (.t 73)), none⟩, ([], [])), (⟨(some 75), (.mv (.t 3)), (some (74, true))⟩, ([], [76, 80, 81, 82, 83, 84, 85])), (⟨(some 76), (.mv (.t 5)), (some (74, true))⟩, ([13], [75, 80, 81, 82, 83, 84, 85])), (⟨(some 77), (.ia 2 (.t 75) (.t 76)), (some (74, true))⟩, ([], [80, 81, 82, 83, 84, 85])), (⟨(some 78), (.fa 1 (.t 77)), (some (74, true))⟩, ([], [80, 81, 82, 83, 84, 85])), (⟨(some 79), (.ld false 1 (.t 78)), (some (74, true))⟩, ([], [80, 81, 82, 83, 84, 85])), (⟨(some 80), (.mv (.t 3)), (some (74, true))⟩, ([13, 14, 15, 16, 17], [75, 76, 77, 78, 79, 81, 82])), (⟨(some 81), (.mv (.t 5)), (some (74, true))⟩, ([13, 14, 15, 16, 17, 18], [75, 76, 77, 78, 79, 80])), (⟨(some 82), (.bin .sub (.t 81) (.k (.c (.v (.int .i64 1))))), (some (74, true))⟩, ([13, 14, 15, 16, 17, 18], [75, 76, 77, 78, 79, 80])), (⟨(some 83), (.ia 2 (.t 80) (.t 82)), (some (74, true))⟩, ([13, 14, 15, 16, 17], [75, 76, 77, 78, 79])), (⟨(some 84), (.fa 1 (.t 83)), (some (74, true))⟩, ([13, 14, 15, 16, 17], [75, 76, 77, 78, 79])), (⟨(some 85), (.ld false 1 (.t 84)), (some (74, true))⟩, ([13, 14, 15, 16, 17], [75, 76, 77, 78, 79])), (⟨(some 86), (.bin .neq (.t 79) (.t 85)), (some (74, true))⟩, ([], [])), (⟨(some 87), (.pick (.t 74) (.t 86) (.k (.c (.v (.bool false))))), none⟩, ([], []))]) (.kill [62, 63, 64, 65, 66, 67, 68, 69, 70, 71, 72, 73, 74, 75, 76, 77, 78, 79, 80, 81, 82, 83, 84, 85, 86] (.cond (.t 87) (.seq (.ops [⟨(some 2), (.mv (.k (.c (.v (.bool false))))), none⟩]) (.kill [3, 5, 87] .ret)) .skip)))) (.kill [2, 62, 63, 64, 65, 66, 67, 68, 69, 70, 71, 72, 73, 74, 75, 76, 77, 78, 79, 80, 81, 82, 83, 84, 85, 86, 87] (.ops [⟨(some 60), (.mv (.t 5)), none⟩, ⟨(some 61), (.bin .add (.t 60) (.k (.c (.v (.int .i64 1))))), none⟩, ⟨(some 5), (.mv (.t 61)), none⟩])))))))) (.kill [2, 3, 5, 56, 57, 58, 59, 60, 61, 62, 63, 64, 65, 66, 67, 68, 69, 70, 71, 72, 73, 74, 75, 76, 77, 78, 79, 80, 81, 82, 83, 84, 85, 86, 87] (.seq (.ops [⟨(some 2), (.mv (.k (.c (.v (.bool true))))), none⟩]) .ret))))))))))
def rs39 : List RS := [(.t 2)]
def nt39 : Nat := 88
def addM (l : List Mk) (t : Int) (i : Nat) : List Mk := if t = -1 then l else l ++ [(t, (i : Int))]
def marks (xs : List Cl) : Nat → List Mk
 | 0 => []
 | i + 1 => addM (addM (marks xs i ++ [((xs.getD i cl0).beg, (i : Int))]) (xs.getD i cl0).fin i) (xs.getD i cl0).point i
theorem addM_len (l : List Mk) (t : Int) (i : Nat) : (addM l t i).length ≤ l.length + 1 := by unfold addM; split <;> simp
theorem marks_len (xs : List Cl) : ∀ i, (marks xs i).length ≤ 3 * i
 | 0 => by simp [marks]
 | i + 1 => by
  have h1 := marks_len xs i
  have h2 := addM_len (addM (marks xs i ++ [((xs.getD i cl0).beg, (i : Int))]) (xs.getD i cl0).fin i) (xs.getD i cl0).point i
  have h3 := addM_len (marks xs i ++ [((xs.getD i cl0).beg, (i : Int))]) (xs.getD i cl0).fin i
  simp only [marks]
  simp only [List.length_append, List.length_cons, List.length_nil] at h3
  omega
theorem mem_addM {l : List Mk} {t : Int} {i : Nat} {m : Mk} : m ∈ addM l t i ↔ m ∈ l ∨ (t ≠ -1 ∧ m = (t, (i : Int))) := by
 unfold addM
 split
 ·next h => simp [h]
 ·next h => simp [h]
theorem mem_marks {xs : List Cl} (hb : ∀ k, k < xs.length → (xs.getD k cl0).beg ≠ -1) : ∀ {i : Nat}, i ≤ xs.length → ∀ {m : Mk}, m ∈ marks xs i ↔ ∃ j : Nat, j < i ∧ m.2 = j ∧ m.1 ∈ (xs.getD j cl0).moves ∧ m.1 ≠ -1
 | 0, _, m => by simp [marks]
 | i + 1, hi, m => by
  simp only [marks, mem_addM, List.mem_append, List.mem_singleton, mem_marks hb (Nat.le_of_succ_le hi)]
  have hbi := hb i (by omega)
  constructor
  ·rintro (((⟨j, h1, h2⟩ | rfl) | ⟨h, rfl⟩) | ⟨h, rfl⟩)
   ·exact ⟨j, by omega, h2⟩
   ·exact ⟨i, by omega, rfl, by simp [Cl.moves], hbi⟩
   ·exact ⟨i, by omega, rfl, by simp [Cl.moves], h⟩
   ·exact ⟨i, by omega, rfl, by simp [Cl.moves], h⟩
  ·rintro ⟨j, h1, h2, h3, h4⟩
   by_cases hji : j = i
   ·subst hji
    obtain ⟨a, b⟩ := m
    simp only at h2 h3 h4
    subst h2
    simp only [Cl.moves, List.mem_cons, List.not_mem_nil, or_false] at h3
    rcases h3 with rfl | rfl | rfl
    ·exact Or.inl (Or.inl (Or.inr rfl))
    ·exact Or.inl (Or.inr ⟨h4, rfl⟩)
    ·exact Or.inr ⟨h4, rfl⟩
   ·exact Or.inl (Or.inl (Or.inl ⟨j, by omega, h2, h3, h4⟩))
def clash (ys : List Mk) (p : Nat) : Prop := (ys.getD p mk0).1 = (ys.getD (p - 1) mk0).1 ∧ (ys.getD p mk0).2 ≠ (ys.getD (p - 1) mk0).2
theorem chain_eq {ys : List Mk} (hs : ys.Pairwise fun a b => leM a b = true) (hc : ∀ p, 1 ≤ p → p < ys.length → ¬ clash ys p) : ∀ (q p : Nat), p ≤ q → q < ys.length → (ys.getD p mk0).1 = (ys.getD q mk0).1 → (ys.getD p mk0).2 = (ys.getD q mk0).2
 | 0, p, hp, hq, h => by
  have : p = 0 := by omega
  subst this; rfl
 | q + 1, p, hp, hq, h => by
  by_cases e : p = q + 1
  ·subst e; rfl
  ·have le : ∀ a b, a < b → b < ys.length → (ys.getD a mk0).1 ≤ (ys.getD b mk0).1 := fun a b hab hb => by
    have := List.pairwise_iff_getElem.1 hs a b (by omega) hb hab
    simp only [leM, decide_eq_true_eq] at this
    simpa [List.getD_eq_getElem?_getD, List.getElem?_eq_getElem hb, List.getElem?_eq_getElem (show a < ys.length by omega)] using this
   have h1 : (ys.getD p mk0).1 ≤ (ys.getD q mk0).1 := by
    by_cases e2 : p = q
    ·subst e2; exact Int.le_refl _
    ·exact le p q (by omega) (by omega)
   have h2 := le q (q + 1) (by omega) hq
   have h3 : (ys.getD p mk0).1 = (ys.getD q mk0).1 := by omega
   rw [chain_eq hs hc q p (by omega) (by omega) h3]
   have := hc (q + 1) (by omega) hq
   simp only [clash, Nat.add_sub_cancel, not_and, Decidable.not_not] at this
   exact (this (by omega)).symm
theorem clash_bad {xs : List Cl} (hb : ∀ k, k < xs.length → (xs.getD k cl0).beg ≠ -1) {ys : List Mk} (hp : ys.Perm (marks xs xs.length)) {p : Nat} (h1 : 1 ≤ p) (h2 : p < ys.length) (h : clash ys p) : ¬ InvB xs xs.length := by
 have mem : ∀ q, q < ys.length → ys.getD q mk0 ∈ marks xs xs.length := fun q hq => by
  refine hp.mem_iff.1 ?_
  rw [List.getD_eq_getElem?_getD, List.getElem?_eq_getElem hq]
  exact List.getElem_mem hq
 obtain ⟨j, g1, g2, g3, g4⟩ := (mem_marks hb (Nat.le_refl _)).1 (mem p h2)
 obtain ⟨k, f1, f2, f3, f4⟩ := (mem_marks hb (Nat.le_refl _)).1 (mem (p - 1) (by omega))
 obtain ⟨e1, e2⟩ := h
 rw [← e1] at f3
 intro hB
 rcases Nat.lt_trichotomy j k with hjk | hjk | hjk
 ·exact hB j k hjk f1 _ g4 g3 f3
 ·exact e2 (by rw [g2, f2, hjk])
 ·exact hB k j hjk g1 _ g4 f3 g3
theorem clash_good {xs : List Cl} (hb : ∀ k, k < xs.length → (xs.getD k cl0).beg ≠ -1) {ys : List Mk} (hp : ys.Perm (marks xs xs.length)) (hs : ys.Pairwise fun a b => leM a b = true) (h : ∀ p, 1 ≤ p → p < ys.length → ¬ clash ys p) : InvB xs xs.length := by
 intro j k hj hk t ht h1 h2
 have m1 := hp.mem_iff.2 ((mem_marks hb (Nat.le_refl _) (m := (t, (j : Int)))).2 ⟨j, by omega, rfl, h1, ht⟩)
 have m2 := hp.mem_iff.2 ((mem_marks hb (Nat.le_refl _) (m := (t, (k : Int)))).2 ⟨k, by omega, rfl, h2, ht⟩)
 obtain ⟨p, p1, p2⟩ := List.mem_iff_getElem.1 m1
 obtain ⟨q, q1, q2⟩ := List.mem_iff_getElem.1 m2
 have ep : ys.getD p mk0 = (t, (j : Int)) := by rw [List.getD_eq_getElem?_getD, List.getElem?_eq_getElem p1, p2]; rfl
 have eq : ys.getD q mk0 = (t, (k : Int)) := by rw [List.getD_eq_getElem?_getD, List.getElem?_eq_getElem q1, q2]; rfl
 rcases Nat.le_total p q with hpq | hpq
 ·have := chain_eq hs h q p hpq q1 (by rw [ep, eq])
  rw [ep, eq] at this
  simp only at this
  omega
 ·have := chain_eq hs h p q hpq p1 (by rw [ep, eq])
  rw [ep, eq] at this
  simp only at this
  omega
set_option maxRecDepth 100000 in
set_option maxHeartbeats 400000 in
theorem apart_calls (w : World) (v : Value) (xs : List Cl) (b : Bool) (hbt : InvB xs xs.length → b = true) (hbf : ¬ InvB xs xs.length → b = false) (hbe : ∀ k, k < xs.length → (xs.getD k cl0).beg ≠ -1) (hsz : xs.length * 72 ≤ 140737488355328) (h : Arr w Cl.enc 9 v xs) : Calls Try.prog 39 #[v] w (RetV w (.bool b)) := by
 refine calls_sym (c := ir39) (C := mkC Try.prog [] w rs39 (RetV w (.bool b))) 1000 [.c (.xv (0, 0, 0))] 
  (E1 v) [] [(0, .one (arrOf Cl.enc 9 xs cl0))] [] 1 nt39 _ (mkTab_ok _ _) Try.func39 rfl (by kernel_rfl) (by kernel_rfl) rfl rfl rfl (E1_one (arr_one h))
  (fun E' hE' => ?_) (of_decide_eq_true rfl) (fun E' hE' => inOk_arrs fun w' hw' x A hA => ?_) ?_
 ·have e0 := (hE' (0, 0, 0) (by decide)).2.2.2
  simp [SV.den, SC.den, e0, E1]
 ·have e0 := (hE' (0, 0, 0) (by decide)).2.2.2
  rcases atN_one hA with ⟨rfl, rfl⟩ | hA
  ·exact arr1 cl_ok e0 h hw'
  exact (atN_nil hA).elim
 simp only [ir39, nt39, rs39, go_sem, ↓condS, ↓exitS, ↓gateS, ↓runOp, ↓gateD, ↓runD, ↓imp_ft, ↓imp_tf, ↓imp_tt, ↓imp_ff, ↓imp_fn, ↓imp_tn, ↓imp_fy, ↓imp_ty, ↓reduceIte, Nat.reduceLT, Nat.reduceLeDiff, Nat.reduceAdd, Nat.reduceSub, Nat.reduceMul, Nat.reduceEqDiff, reduceCtorEq, Int.reduceToNat, Int.reduceEq, Int.reduceBEq, Int.reduceBNe, Int.reduceLT, Int.reduceLE, Int.reduceNeg, Int.reduceAdd, Int.reduceSub, Int.reduceMul, Int.reduceGE, Int.reduceGT, Cl.enc, iv, endO, dr_cons]
 refine loopI (ι := { i : Nat // i ≤ xs.length }) (fun i => ⟨88, [(0, .c (.xv (0, 0, 0))), (3, .c (.sl (1, 0, 0) 2 0 (marks xs i.1).length none)), (4, .c (.v (.int .i64 (i.1 : Nat))))], [(1, .one (.ar (marks xs i.1).length 2 (ats mkE (marks xs i.1) mk0) 89))], [(0, .one (arrOf Cl.enc 9 xs cl0))], [], 2⟩)
  (fun i => xs.length - i.1) ⟨0, by omega⟩ ?_ ?_
 ·refine le_nilown (tmps' := [(0, .c (.xv (0, 0, 0))), (3, .c (.sl (1, 0, 0) 2 0 0 none)), (4, .c (.v (.int .i64 0)))]) 2 89 (ats mkE [] mk0) (by simp [TmpsNil, look]) rfl
 rintro ⟨i, hi⟩
 simp only [go_sem, ↓condS, ↓exitS, ↓gateS, ↓runOp, ↓gateD, ↓runD, ↓imp_ft, ↓imp_tf, ↓imp_tt, ↓imp_ff, ↓imp_fn, ↓imp_tn, ↓imp_fy, ↓imp_ty, ↓reduceIte, Nat.reduceLT, Nat.reduceLeDiff, Nat.reduceAdd, Nat.reduceSub, Nat.reduceMul, Nat.reduceEqDiff, reduceCtorEq, Int.reduceToNat, Int.reduceEq, Int.reduceBEq, Int.reduceBNe, Int.reduceLT, Int.reduceLE, Int.reduceNeg, Int.reduceAdd, Int.reduceSub, Int.reduceMul, Int.reduceGE, Int.reduceGT, Cl.enc, iv, endO, dr_cons, mkE]
 refine both (fun hlt => ?_) (fun hge => ?_)
 ·rw [decide_eq_true_eq] at hlt
  have hml := marks_len xs i
  have hmx : maxLen = 9223372036854775807 := by decide
  refine ⟨hlt, hlt, hlt, by decide, ⟨Nat.le_refl _, by omega, by omega⟩, hlt, hlt, hlt, fun hf => ?_, fun hf => ?_⟩
  ·refine ⟨hlt, hlt, hlt, by decide, ⟨Nat.le_refl _, by omega, by omega⟩, hlt, hlt, hlt, fun hp => ?_, fun hp => ?_⟩
   ·have hm : marks xs (i + 1) = marks xs i ++ [((xs.getD i cl0).beg, (i : Int))] ++ [((xs.getD i cl0).fin, (i : Int))] ++ [((xs.getD i cl0).point, (i : Int))] := by
     simp only [b_decR, b_decL, bt_ite, bf_ite, bt_dec, bf_dec, bt_int, bf_int, bt_nint, bf_nint, bt_bool, bf_bool, bt_nbool, bf_nbool, bt_not, bf_not, bt_and, bf_and, bt_or, bf_or, Bool.false_eq_true, Bool.true_eq_false, Bool.not_eq_true, Bool.not_eq_false, reduceCtorEq, false_iff, true_iff, iff_false, iff_true, and_true, true_and, and_false, false_and, or_true, true_or, or_false, false_or, not_true_eq_false, not_false_eq_true, ne_eq] at hf hp
     simp only [marks, addM]
     simp only [hf, hp, if_true, if_false, ↓reduceIte, not_true_eq_false]
    refine ⟨hlt, hlt, hlt, by decide, ⟨Nat.le_refl _, by omega, by omega⟩, ?_⟩
    refine backI ⟨i + 1, by omega⟩ (by simp only; omega) ?_
    rw [wr_succ (by omega)]
    simp only [hm]
    exact le_ren (fun i => if i = 1 then 7 else i) rfl rfl (by simp [TmpsLe, look, SV.ren, SC.ren, idσ, SV.okN, SC.okN]) ⟨⟨show (1 : Nat) < 2 from by decide, arLe_of (by simp) (ats_snoc' (by simp) (ats_snoc' (by simp) (ats_snoc' rfl (fun e he => rfl) rfl) rfl) rfl)⟩, trivial⟩ ⟨⟨show (0 : Nat) < 2 from by decide, arrLe_of⟩, trivial⟩ rfl
   ·have hm : marks xs (i + 1) = marks xs i ++ [((xs.getD i cl0).beg, (i : Int))] ++ [((xs.getD i cl0).fin, (i : Int))] := by
     simp only [b_decR, b_decL, bt_ite, bf_ite, bt_dec, bf_dec, bt_int, bf_int, bt_nint, bf_nint, bt_bool, bf_bool, bt_nbool, bf_nbool, bt_not, bf_not, bt_and, bf_and, bt_or, bf_or, Bool.false_eq_true, Bool.true_eq_false, Bool.not_eq_true, Bool.not_eq_false, reduceCtorEq, false_iff, true_iff, iff_false, iff_true, and_true, true_and, and_false, false_and, or_true, true_or, or_false, false_or, not_true_eq_false, not_false_eq_true, ne_eq] at hf hp
     simp only [marks, addM]
     simp only [hf, hp, if_true, if_false, ↓reduceIte, not_true_eq_false]
    refine backI ⟨i + 1, by omega⟩ (by simp only; omega) ?_
    rw [wr_succ (by omega)]
    simp only [hm]
    exact le_ren (fun i => if i = 1 then 5 else i) rfl rfl (by simp [TmpsLe, look, SV.ren, SC.ren, idσ, SV.okN, SC.okN]) ⟨⟨show (1 : Nat) < 2 from by decide, arLe_of (by simp) (ats_snoc' (by simp) (ats_snoc' rfl (fun e he => rfl) rfl) rfl)⟩, trivial⟩ ⟨⟨show (0 : Nat) < 2 from by decide, arrLe_of⟩, trivial⟩ rfl
  ·refine ⟨hlt, hlt, hlt, fun hp => ?_, fun hp => ?_⟩
   ·have hm : marks xs (i + 1) = marks xs i ++ [((xs.getD i cl0).beg, (i : Int))] ++ [((xs.getD i cl0).point, (i : Int))] := by
     simp only [b_decR, b_decL, bt_ite, bf_ite, bt_dec, bf_dec, bt_int, bf_int, bt_nint, bf_nint, bt_bool, bf_bool, bt_nbool, bf_nbool, bt_not, bf_not, bt_and, bf_and, bt_or, bf_or, Bool.false_eq_true, Bool.true_eq_false, Bool.not_eq_true, Bool.not_eq_false, reduceCtorEq, false_iff, true_iff, iff_false, iff_true, and_true, true_and, and_false, false_and, or_true, true_or, or_false, false_or, not_true_eq_false, not_false_eq_true, ne_eq] at hf hp
     simp only [marks, addM]
     simp only [hf, hp, if_true, if_false, ↓reduceIte, not_true_eq_false]
    refine ⟨hlt, hlt, hlt, by decide, ⟨Nat.le_refl _, by omega, by omega⟩, ?_⟩
    refine backI ⟨i + 1, by omega⟩ (by simp only; omega) ?_
    rw [wr_succ (by omega)]
    simp only [hm]
    exact le_ren (fun i => if i = 1 then 5 else i) rfl rfl (by simp [TmpsLe, look, SV.ren, SC.ren, idσ, SV.okN, SC.okN]) ⟨⟨show (1 : Nat) < 2 from by decide, arLe_of (by simp) (ats_snoc' (by simp) (ats_snoc' rfl (fun e he => rfl) rfl) rfl)⟩, trivial⟩ ⟨⟨show (0 : Nat) < 2 from by decide, arrLe_of⟩, trivial⟩ rfl
   ·have hm : marks xs (i + 1) = marks xs i ++ [((xs.getD i cl0).beg, (i : Int))] := by
     simp only [b_decR, b_decL, bt_ite, bf_ite, bt_dec, bf_dec, bt_int, bf_int, bt_nint, bf_nint, bt_bool, bf_bool, bt_nbool, bf_nbool, bt_not, bf_not, bt_and, bf_and, bt_or, bf_or, Bool.false_eq_true, Bool.true_eq_false, Bool.not_eq_true, Bool.not_eq_false, reduceCtorEq, false_iff, true_iff, iff_false, iff_true, and_true, true_and, and_false, false_and, or_true, true_or, or_false, false_or, not_true_eq_false, not_false_eq_true, ne_eq] at hf hp
     simp only [marks, addM]
     simp only [hf, hp, if_true, if_false, ↓reduceIte, not_true_eq_false]
    refine backI ⟨i + 1, by omega⟩ (by simp only; omega) ?_
    rw [wr_succ (by omega)]
    simp only [hm]
    exact le_ren (fun i => if i = 1 then 3 else i) rfl rfl (by simp [TmpsLe, look, SV.ren, SC.ren, idσ, SV.okN, SC.okN]) ⟨⟨show (1 : Nat) < 2 from by decide, arLe_of (by simp) (ats_snoc' rfl (fun e he => rfl) rfl)⟩, trivial⟩ ⟨⟨show (0 : Nat) < 2 from by decide, arrLe_of⟩, trivial⟩ rfl
 ·rw [decide_eq_false_iff_not] at hge
  have hin : i = xs.length := by omega
  subst hin
  have hml := marks_len xs xs.length
  refine call_freeze [] 1 (marks xs xs.length).length 2 (marks xs xs.length).length 89 (ats mkE (marks xs xs.length) mk0) _ [.c (.xv (2, 0, 0))] rfl (Nat.le_refl _) (by decide) trivial (fun E E' hE hx => by simp only [List.map_cons, List.map_nil, den_c, SC.den, hx]) ?_
  have hperm := srt_perm ((marks xs xs.length).length + 1) (marks xs xs.length)
  have hsort := srt_sorted ((marks xs xs.length).length + 1) (marks xs xs.length) (by omega)
  have hmx : maxLen = 9223372036854775807 := by decide
  refine callA (enc := mkE) (s := 2) (xs := marks xs xs.length) (ys := srt ((marks xs xs.length).length + 1) (marks xs xs.length)) (d := mk0) mkE_ok (.xv (2, 0, 0)) [2] (fun i hi => by simp only [List.mem_singleton] at hi; subst hi; exact Nat.lt_succ_self _) (fun E E2 hE => ?_) (fun E w'' hh => ?_) (fun w v hv => sorted_calls _ w v _ (by omega) (by omega) hv) ?_
  ·simp only [SC.den, (hE (2, 0, 0) (by simp)).2.2.2]
  ·exact arr_of (d := mk0) (hh.1 (2, 0, 0) _ rfl)
  have hyl : (srt ((marks xs xs.length).length + 1) (marks xs xs.length)).length ≤ 3 * xs.length := by rw [srt_len]; exact hml
  generalize srt ((marks xs xs.length).length + 1) (marks xs xs.length) = ys at hperm hsort hyl
  simp only [go_sem, ↓condS, ↓exitS, ↓gateS, ↓runOp, ↓gateD, ↓runD, ↓imp_ft, ↓imp_tf, ↓imp_tt, ↓imp_ff, ↓imp_fn, ↓imp_tn, ↓imp_fy, ↓imp_ty, ↓reduceIte, Nat.reduceLT, Nat.reduceLeDiff, Nat.reduceAdd, Nat.reduceSub, Nat.reduceMul, Nat.reduceEqDiff, reduceCtorEq, Int.reduceToNat, Int.reduceEq, Int.reduceBEq, Int.reduceBNe, Int.reduceLT, Int.reduceLE, Int.reduceNeg, Int.reduceAdd, Int.reduceSub, Int.reduceMul, Int.reduceGE, Int.reduceGT, Cl.enc, iv, endO, dr_cons]
  refine loopI (ι := { p : Nat // 1 ≤ p ∧ (∀ q, 1 ≤ q → q < p → q < ys.length → ¬ clash ys q) ∧ p ≤ ys.length + 1 }) (fun p => ⟨88, [(3, .c (.xv (3, 0, 0))), (5, .c (.v (.int .i64 (p.1 : Nat))))], [], [(3, .one (arrOf mkE 2 ys mk0))], [], 4⟩)
   (fun p => ys.length + 1 - p.1) ⟨1, Nat.le_refl _, fun q h1 h2 => by omega, by omega⟩ ?_ ?_
  ·exact le_ren id rfl rfl (by simp [TmpsLe, look, SV.ren, SC.ren, idσ, SV.okN, SC.okN]) trivial ⟨⟨show (3 : Nat) < 4 from by decide, arrLe_of⟩, trivial⟩ rfl
  rintro ⟨p, hp1, hcl, hpl⟩
  simp only [go_sem, ↓condS, ↓exitS, ↓gateS, ↓runOp, ↓gateD, ↓runD, ↓imp_ft, ↓imp_tf, ↓imp_tt, ↓imp_ff, ↓imp_fn, ↓imp_tn, ↓imp_fy, ↓imp_ty, ↓reduceIte, Nat.reduceLT, Nat.reduceLeDiff, Nat.reduceAdd, Nat.reduceSub, Nat.reduceMul, Nat.reduceEqDiff, reduceCtorEq, Int.reduceToNat, Int.reduceEq, Int.reduceBEq, Int.reduceBNe, Int.reduceLT, Int.reduceLE, Int.reduceNeg, Int.reduceAdd, Int.reduceSub, Int.reduceMul, Int.reduceGE, Int.reduceGT, Cl.enc, iv, endO, dr_cons, mkE]
  refine both (fun hlt => ?_) (fun hge => ?_)
  ·rw [decide_eq_true_eq] at hlt
   refine draw_vc (by kernel_rfl) (mkTab_ok _ _) (of_decide_eq_true rfl) (of_decide_eq_true rfl) ?_
   simp only [go_sem, ↓condS, ↓exitS, ↓gateS, ↓runOp, ↓gateD, ↓runD, ↓imp_ft, ↓imp_tf, ↓imp_tt, ↓imp_ff, ↓imp_fn, ↓imp_tn, ↓imp_fy, ↓imp_ty, ↓reduceIte, Nat.reduceLT, Nat.reduceLeDiff, Nat.reduceAdd, Nat.reduceSub, Nat.reduceMul, Nat.reduceEqDiff, reduceCtorEq, Int.reduceToNat, Int.reduceEq, Int.reduceBEq, Int.reduceBNe, Int.reduceLT, Int.reduceLE, Int.reduceNeg, Int.reduceAdd, Int.reduceSub, Int.reduceMul, Int.reduceGE, Int.reduceGT, Cl.enc, iv, endO, dr_cons, mkE]
   have hw : IntKind.i64.wrap ((p : Int) - 1) = ((p - 1 : Nat) : Int) := by rw [wr64 (by omega) (by omega)]; omega
   rw [hw]
   simp only [Int.toNat_natCast]
   have hc : ((if ((ys.getD p mk0).fst == (ys.getD (p - 1) mk0).fst) = true then (ys.getD p mk0).snd != (ys.getD (p - 1) mk0).snd else false) = true) = clash ys p := by
    simp only [clash, b_decR, b_decL, bt_ite, bf_ite, bt_dec, bf_dec, bt_int, bf_int, bt_nint, bf_nint, bt_bool, bf_bool, bt_nbool, bf_nbool, bt_not, bf_not, bt_and, bf_and, bt_or, bf_or, Bool.false_eq_true, Bool.true_eq_false, Bool.not_eq_true, Bool.not_eq_false, reduceCtorEq, false_iff, true_iff, iff_false, iff_true, and_true, true_and, and_false, false_and, or_true, true_or, or_false, false_or, not_true_eq_false, not_false_eq_true, ne_eq]
   have hc' : ((if ((ys.getD p mk0).fst == (ys.getD (p - 1) mk0).fst) = true then (ys.getD p mk0).snd != (ys.getD (p - 1) mk0).snd else false) = false) = ¬ clash ys p := by
    rw [← hc]; simp
   rw [hc, hc']
   have hp2 : p - 1 < ys.length := by omega
   refine ⟨hlt, hlt, hlt, ⟨by omega, by omega⟩, hp2, hp2, fun _ => hlt, fun _ => hlt, fun _ => hlt, fun _ => ⟨by omega, by omega⟩, fun _ => hp2, fun _ => hp2, fun h => ?_, fun h => ?_⟩
   ·exact retV fun E => by rw [den_c, den_v, hbf (clash_bad hbe hperm hp1 hlt h)]
   ·rw [wr_succ (by omega)]
    refine backI ⟨p + 1, by omega, fun q h1 h2 h3 => ?_, by omega⟩ (by simp only; omega) (le_tmps (by simp [TmpsSub, look]))
    by_cases hqp : q = p
    ·subst hqp; exact h
    ·exact hcl q h1 (by omega) h3
  ·rw [decide_eq_false_iff_not] at hge
   exact retV fun E => by rw [den_c, den_v, hbt (clash_good hbe hperm hsort fun q h1 h2 => hcl q h1 (by omega) h2)]
end Go.Proofs.Ytkjeedlkkpgopaa.Z
