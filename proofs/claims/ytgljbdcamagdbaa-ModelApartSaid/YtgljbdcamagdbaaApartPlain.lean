/- That a call touches its own object alone (layer 11, in plain Lean). No statement of the program. -/
import Derived.Test.YtgljbdcamagdbaaPick
import Derived.Test.YtgljbdcamagdbaaPlain
namespace Go.Proofs.Ytgljbdcamagdbaa
open Go.RowKit

theorem ins_len {α : Type} (l : List α) (i : Nat) (x : α) : (insAt l i x).length = l.length + 1 := by
  unfold insAt
  simp only [List.length_append, List.length_take, List.length_cons, List.length_drop]
  omega
theorem del_len {α : Type} (l : List α) (i : Nat) : (delAt l i).length ≤ l.length := by
  unfold delAt
  simp only [List.length_append, List.length_take, List.length_drop]
  omega

theorem doCell_len (l : List Int) (op arg : Int) : (doCell l op arg).1.length ≤ max 1 l.length := by
  unfold doCell
  split
  · simp only [List.length_cons, List.length_nil]; omega
  · split
    · simp only [List.length_nil]; omega
    · simp only [List.length_cons]; omega
theorem doStack_len (l : List Int) (op arg : Int) : (doStack l op arg).1.length ≤ l.length + 1 := by
  unfold doStack
  split
  · simp
  · split <;> simp <;> omega
theorem doQueue_len (l : List Int) (op arg : Int) : (doQueue l op arg).1.length ≤ l.length + 1 := by
  unfold doQueue
  split
  · simp
  · split <;> simp <;> omega
theorem doSet_len (l : List Int) (op arg : Int) : (doSet l op arg).1.length ≤ l.length + 1 := by
  unfold doSet
  have h := del_len l (pos l arg)
  (repeat' split) <;> simp [ins_len] <;> omega
theorem doTable_len (l : List (Int × Int)) (op arg data : Int) : (doTable l op arg data).1.length ≤ l.length + 1 := by
  unfold doTable
  have h := del_len l (pos (keys l) arg)
  (repeat' split) <;> simp [ins_len] <;> omega

theorem doM_ok {m : MC} {k : Nat} {op arg data : Int} (h : m.ok (k + 1)) : (doM m op arg data).1.ok k := by
  have h1 := doCell_len m.cell op arg
  have h2 := doStack_len m.stack op arg
  have h3 := doQueue_len m.queue op arg
  have h4 := doSet_len m.set op arg
  have h5 := doTable_len m.table op arg data
  unfold MC.ok at h ⊢
  unfold doM
  (repeat' split) <;> simp only <;> omega

theorem doSet_inc {l : List Int} {op arg : Int} (h : incB l = true) : incB (doSet l op arg).1 = true := by
  unfold doSet
  split
  · split
    · exact h
    · next hk => exact inc_ins h (fun hm => hk ((has_mem h).2 hm))
  · split
    · split
      · exact inc_del h
      · exact h
    · split <;> exact h
theorem doTable_inc {l : List (Int × Int)} {op arg data : Int} (h : incB (keys l) = true) : incB (keys (doTable l op arg data).1) = true := by
  unfold doTable
  split
  · split
    · exact h
    · next hk =>
      show incB (keys (insAt l (pos (keys l) arg) (arg, data))) = true
      rw [show keys (insAt l (pos (keys l) arg) (arg, data)) = insAt (keys l) (pos (keys l) arg) arg from map_insAt _ _ _ _]
      exact inc_ins h (fun hm => hk ((has_mem h).2 hm))
  · split
    · split
      · split
        · show incB (keys (delAt l (pos (keys l) arg))) = true
          rw [show keys (delAt l (pos (keys l) arg)) = delAt (keys l) (pos (keys l) arg) from map_delAt _ _ _]
          exact inc_del h
        · exact h
      · exact h
    · exact h

theorem doM_may {m : MC} {op arg data : Int} (h : mayB m = true) : mayB (doM m op arg data).1 = true := by
  unfold mayB at h ⊢
  simp only [Bool.and_eq_true, decide_eq_true_eq] at h ⊢
  obtain ⟨⟨h1, h2⟩, h3⟩ := h
  have g1 := doCell_len m.cell op arg
  unfold doM
  (repeat' split) <;> simp only
  · exact ⟨⟨by omega, h2⟩, h3⟩
  · exact ⟨⟨h1, h2⟩, h3⟩
  · exact ⟨⟨h1, h2⟩, h3⟩
  · exact ⟨⟨h1, doSet_inc h2⟩, h3⟩
  · exact ⟨⟨h1, h2⟩, doTable_inc h3⟩

theorem partM_may {m : MC} {k : Int} (h : mayB m = true) : mayB (partM m k) = true := by
  unfold mayB at h ⊢
  simp only [Bool.and_eq_true, decide_eq_true_eq] at h ⊢
  unfold partM
  (repeat' split) <;> simp_all [incB]
theorem partM_ok {m : MC} {k : Int} {j : Nat} (h : m.ok j) : (partM m k).ok j := by
  unfold MC.ok at h ⊢
  unfold partM
  (repeat' split) <;> simp <;> omega

theorem doM_part {m : MC} {op arg data k : Int} (hk : objOf op = k) (h1 : 1 ≤ k ∧ k ≤ 5) : doM (partM m k) op arg data = (partM (doM m op arg data).1 k, (doM m op arg data).2) := by
  have : k = 1 ∨ k = 2 ∨ k = 3 ∨ k = 4 ∨ k = 5 := by omega
  rcases this with rfl | rfl | rfl | rfl | rfl <;> simp [doM, partM, hk]
theorem doM_other {m : MC} {op arg data k : Int} (h0 : 1 ≤ objOf op ∧ objOf op ≤ 5) (hk : objOf op ≠ k) (h1 : 1 ≤ k ∧ k ≤ 5) : partM (doM m op arg data).1 k = partM m k := by
  have a : k = 1 ∨ k = 2 ∨ k = 3 ∨ k = 4 ∨ k = 5 := by omega
  have b : objOf op = 1 ∨ objOf op = 2 ∨ objOf op = 3 ∨ objOf op = 4 ∨ objOf op = 5 := by omega
  rcases a with rfl | rfl | rfl | rfl | rfl <;> rcases b with b | b | b | b | b <;> first | exact absurd b hk | simp [doM, partM, b]
theorem doM_comm {m : MC} {a x d b y e : Int} (ha : 1 ≤ objOf a ∧ objOf a ≤ 5) (hb : 1 ≤ objOf b ∧ objOf b ≤ 5) (hne : objOf b ≠ objOf a) :
    doM (doM m a x d).1 b y e = ((doM (doM m b y e).1 a x d).1, (doM m b y e).2) ∧ (doM (doM m b y e).1 a x d).2 = (doM m a x d).2 := by
  have h1 : objOf a = 1 ∨ objOf a = 2 ∨ objOf a = 3 ∨ objOf a = 4 ∨ objOf a = 5 := by omega
  have h2 : objOf b = 1 ∨ objOf b = 2 ∨ objOf b = 3 ∨ objOf b = 4 ∨ objOf b = 5 := by omega
  rcases h1 with h1 | h1 | h1 | h1 | h1 <;> rcases h2 with h2 | h2 | h2 | h2 | h2 <;> first | exact absurd (h2.trans h1.symm) hne | simp [doM, h1, h2]
end Go.Proofs.Ytgljbdcamagdbaa
