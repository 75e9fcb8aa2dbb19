
/- The order of the points, in plain Lean. No statement of the program. -/
import Derived.Test.YtkjeedlkkpgopaaWH
import Derived.Test.YtkjeedlkkpgopaaObj
namespace Go.Proofs.Ytkjeedlkkpgopaa.Z
open Go Go.RowKit
set_option linter.unusedSimpArgs false
set_option linter.unusedVariables false

/-- it counts, and has a point -/
def ptB (c : Cl) : Bool := !(objOf c.op == 0) && !(c.point == -1)
/-- those of the first n that have a point -/
def pks (xs : List Cl) : Nat → List Int
  | 0 => []
  | n + 1 => if ptB (xs.getD n cl0) = true then pks xs n ++ [(n : Int)] else pks xs n
def Kp (xs : List Cl) (i : Int) : Int := (xs.getD i.toNat cl0).point
def ptsL (xs : List Cl) : List Int := (pks xs xs.length).mergeSort fun a b => decide (Kp xs a ≤ Kp xs b)
def ptSorted (xs : List Cl) (l : List Int) : Prop := l.Pairwise fun a b => Kp xs a ≤ Kp xs b

theorem mem_pks {xs : List Cl} {i : Int} : ∀ {n : Nat}, i ∈ pks xs n ↔ ∃ k : Nat, k < n ∧ i = k ∧ ptB (xs.getD k cl0) = true
  | 0 => by simp [pks]
  | n + 1 => by
    simp only [pks]
    split
    · next h =>
      rw [List.mem_append, mem_pks, List.mem_singleton]
      constructor
      · rintro (⟨k, h1, h2, h3⟩ | rfl)
        · exact ⟨k, by omega, h2, h3⟩
        · exact ⟨n, by omega, rfl, h⟩
      · rintro ⟨k, h1, h2, h3⟩
        by_cases e : k = n
        · exact Or.inr (by rw [h2, e])
        · exact Or.inl ⟨k, by omega, h2, h3⟩
    · next h =>
      rw [mem_pks]
      constructor
      · rintro ⟨k, h1, h2, h3⟩
        exact ⟨k, by omega, h2, h3⟩
      · rintro ⟨k, h1, h2, h3⟩
        by_cases e : k = n
        · rw [e] at h3; exact absurd h3 h
        · exact ⟨k, by omega, h2, h3⟩
theorem pks_len (xs : List Cl) : ∀ n, (pks xs n).length ≤ n
  | 0 => Nat.le_refl _
  | n + 1 => by
    have := pks_len xs n
    simp only [pks]
    split <;> simp <;> omega
/-- no two have one point -/
theorem Kp_inj {xs : List Cl} (h : mayP xs) {i j : Int} (hi : i ∈ pks xs xs.length) (hj : j ∈ pks xs xs.length) (he : Kp xs i = Kp xs j) : i = j := by
  obtain ⟨a, ha, rfl, pa⟩ := mem_pks.1 hi
  obtain ⟨b, hb, rfl, pb⟩ := mem_pks.1 hj
  simp only [Kp, Int.toNat_natCast] at he
  simp only [ptB, Bool.and_eq_true, Bool.not_eq_true', beq_eq_false_iff_ne] at pa pb
  rcases Nat.lt_trichotomy a b with g | g | g
  · exact absurd (by rw [he]; simp [Cl.moves]) (h.2 a b g hb _ pa.2 (by simp [Cl.moves]))
  · rw [g]
  · exact absurd (by rw [← he]; simp [Cl.moves]) (h.2 b a g ha _ pb.2 (by simp [Cl.moves]))
theorem ptsL_perm (xs : List Cl) : (ptsL xs).Perm (pks xs xs.length) := List.mergeSort_perm _ _
theorem ptsL_sorted (xs : List Cl) : ptSorted xs (ptsL xs) := by
  have := List.pairwise_mergeSort (le := fun a b => decide (Kp xs a ≤ Kp xs b)) (fun a b c h1 h2 => by simp only [decide_eq_true_eq] at *; omega) (fun a b => by simp only [Bool.or_eq_true, decide_eq_true_eq]; omega) (pks xs xs.length)
  exact this.imp fun h => by simpa using h
theorem ptsL_uniq {xs : List Cl} (h : mayP xs) {l : List Int} (hp : l.Perm (pks xs xs.length)) (hs : ptSorted xs l) : l = ptsL xs :=
  List.Perm.eq_of_pairwise (le := fun a b => Kp xs a ≤ Kp xs b) (fun a b ha hb h1 h2 => Kp_inj h (hp.mem_iff.1 ha) ((ptsL_perm xs).mem_iff.1 hb) (by omega)) hs (ptsL_sorted xs) (hp.trans (ptsL_perm xs).symm)
theorem ptsL_mem {xs : List Cl} {i : Int} (h : i ∈ ptsL xs) : ∃ k : Nat, k < xs.length ∧ i = k ∧ ptB (xs.getD k cl0) = true := mem_pks.1 ((ptsL_perm xs).mem_iff.1 h)

/-- one is put behind: ahead of it stand those that are no greater -/
theorem ins_perm (l : List Int) (k : Nat) (x : Int) {m : List Int} (h : l.Perm m) : (l.take k ++ x :: l.drop k).Perm (m ++ [x]) := by
  refine (List.perm_middle).trans ?_
  rw [List.take_append_drop]
  exact (List.Perm.cons x h).trans (List.perm_append_singleton x m).symm
theorem ins_sorted {xs : List Cl} {l : List Int} {k : Nat} {x : Int} (hk : k ≤ l.length) (hs : ptSorted xs l) (h1 : ∀ j, k ≤ j → j < l.length → Kp xs x < Kp xs (l.getD j 0)) (h2 : k = 0 ∨ Kp xs (l.getD (k - 1) 0) ≤ Kp xs x) : ptSorted xs (l.take k ++ x :: l.drop k) := by
  unfold ptSorted at *
  have hst : l.take k ++ l.drop k = l := List.take_append_drop _ _
  rw [← hst, List.pairwise_append] at hs
  obtain ⟨ha, hb, hc⟩ := hs
  have hd : ∀ b ∈ l.drop k, Kp xs x ≤ Kp xs b := fun b hb => by
    obtain ⟨j, hj, rfl⟩ := List.getElem_of_mem hb
    simp only [List.length_drop] at hj
    have := h1 (k + j) (by omega) (by omega)
    simp only [List.getElem_drop]
    rw [List.getD_eq_getElem?_getD, List.getElem?_eq_getElem (by omega)] at this
    simp only [Option.getD_some] at this
    omega
  have ht : ∀ a ∈ l.take k, Kp xs a ≤ Kp xs x := fun a h => by
    obtain ⟨j, hj, rfl⟩ := List.getElem_of_mem h
    simp only [List.length_take] at hj
    rcases h2 with h2 | h2
    · omega
    rw [List.getD_eq_getElem?_getD, List.getElem?_eq_getElem (by omega)] at h2
    simp only [Option.getD_some] at h2
    simp only [List.getElem_take]
    by_cases e : j = k - 1
    · subst e; exact h2
    · have hp := List.pairwise_iff_getElem.1 (by rw [← hst, List.pairwise_append]; exact ⟨ha, hb, hc⟩ : l.Pairwise fun a b => Kp xs a ≤ Kp xs b) j (k - 1) (by omega) (by omega) (by omega)
      omega
  rw [List.pairwise_append, List.pairwise_cons]
  refine ⟨ha, ⟨hd, hb⟩, fun a h b h' => ?_⟩
  rcases List.mem_cons.1 h' with rfl | h'
  · exact ht a h
  · exact hc a h b h'
end Go.Proofs.Ytkjeedlkkpgopaa.Z
