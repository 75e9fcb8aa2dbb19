/- What calls leave: how long, and that it may be; calls one behind the other. Plain laws: no statement of the program. -/
import Derived.Test.YtgljbdcamagdbaaPlain
import Derived.Test.YtgljbdcamagdbaaZAm
import Derived.Test.YtgljbdcamagdbaaOpenZ
namespace Go.Proofs.Ytgljbdcamagdbaa
open Go.RowKit

theorem ins_len {α : Type} (l : List α) (i : Nat) (x : α) : (insAt l i x).length = l.length + 1 := by
  unfold insAt
  simp only [List.length_append, List.length_take, List.length_cons, List.length_drop]
  omega
theorem del_len {α : Type} (l : List α) (i : Nat) : (delAt l i).length ≤ l.length := by
  unfold delAt
  simp only [List.length_append, List.length_take, List.length_drop]
  omega

theorem doCell_len (l : List Int) (op arg : Int) : (doCell l op arg).1.length ≤ max 1 l.length := by
  unfold doCell
  split
  · simp only [List.length_cons, List.length_nil]; omega
  · split
    · simp only [List.length_nil]; omega
    · simp only [List.length_cons]; omega
theorem doStack_len (l : List Int) (op arg : Int) : (doStack l op arg).1.length ≤ l.length + 1 := by
  unfold doStack
  split
  · simp
  · split <;> simp <;> omega
theorem doQueue_len (l : List Int) (op arg : Int) : (doQueue l op arg).1.length ≤ l.length + 1 := by
  unfold doQueue
  split
  · simp
  · split <;> simp <;> omega
theorem doSet_len (l : List Int) (op arg : Int) : (doSet l op arg).1.length ≤ l.length + 1 := by
  unfold doSet
  have h := del_len l (pos l arg)
  (repeat' split) <;> simp [ins_len] <;> omega
theorem doTable_len (l : List (Int × Int)) (op arg data : Int) : (doTable l op arg data).1.length ≤ l.length + 1 := by
  unfold doTable
  have h := del_len l (pos (keys l) arg)
  (repeat' split) <;> simp [ins_len] <;> omega

theorem doM_ok {m : MC} {k : Nat} {op arg data : Int} (h : m.ok (k + 1)) : (doM m op arg data).1.ok k := by
  have h1 := doCell_len m.cell op arg
  have h2 := doStack_len m.stack op arg
  have h3 := doQueue_len m.queue op arg
  have h4 := doSet_len m.set op arg
  have h5 := doTable_len m.table op arg data
  unfold MC.ok at h ⊢
  unfold doM
  (repeat' split) <;> simp only <;> omega

theorem doSet_inc {l : List Int} {op arg : Int} (h : incB l = true) : incB (doSet l op arg).1 = true := by
  unfold doSet
  split
  · split
    · exact h
    · next hk => exact inc_ins h (fun hm => hk ((has_mem h).2 hm))
  · split
    · split
      · exact inc_del h
      · exact h
    · split <;> exact h
theorem doTable_inc {l : List (Int × Int)} {op arg data : Int} (h : incB (keys l) = true) : incB (keys (doTable l op arg data).1) = true := by
  unfold doTable
  split
  · split
    · exact h
    · next hk =>
      show incB (keys (insAt l (pos (keys l) arg) (arg, data))) = true
      rw [show keys (insAt l (pos (keys l) arg) (arg, data)) = insAt (keys l) (pos (keys l) arg) arg from map_insAt _ _ _ _]
      exact inc_ins h (fun hm => hk ((has_mem h).2 hm))
  · split
    · split
      · split
        · show incB (keys (delAt l (pos (keys l) arg))) = true
          rw [show keys (delAt l (pos (keys l) arg)) = delAt (keys l) (pos (keys l) arg) from map_delAt _ _ _]
          exact inc_del h
        · exact h
      · exact h
    · exact h

theorem doM_may {m : MC} {op arg data : Int} (h : mayB m = true) : mayB (doM m op arg data).1 = true := by
  unfold mayB at h ⊢
  simp only [Bool.and_eq_true, decide_eq_true_eq] at h ⊢
  obtain ⟨⟨h1, h2⟩, h3⟩ := h
  have g1 := doCell_len m.cell op arg
  unfold doM
  (repeat' split) <;> simp only
  · exact ⟨⟨by omega, h2⟩, h3⟩
  · exact ⟨⟨h1, h2⟩, h3⟩
  · exact ⟨⟨h1, h2⟩, h3⟩
  · exact ⟨⟨h1, doSet_inc h2⟩, h3⟩
  · exact ⟨⟨h1, h2⟩, doTable_inc h3⟩

end Go.Proofs.Ytgljbdcamagdbaa
namespace Go.Proofs.Ytgljbdcamagdbaa.Z
open Go Go.RowKit
theorem doM_upto {m : MC} {n : Nat} {op arg data : Int} (h : m.upto n) : (doM m op arg data).1.upto (n + 1) := by
  have h1 := doCell_len m.cell op arg
  have h2 := doStack_len m.stack op arg
  have h3 := doQueue_len m.queue op arg
  have h4 := doSet_len m.set op arg
  have h5 := doTable_len m.table op arg data
  unfold MC.upto at h ⊢
  unfold doM
  (repeat' split) <;> simp only <;> omega
theorem mc0_may : mayB mc0 = true := by decide
theorem allowM_upto {m : MC} {n : Nat} {c : Cl} (h : m.upto n) : (allowM m c).1.upto (n + 1) := by
  have h0 : m.upto (n + 1) := by obtain ⟨a, b, c, d, e⟩ := h; exact ⟨by omega, by omega, by omega, by omega, by omega⟩
  have hz : mc0.upto (n + 1) := by simp [MC.upto, mc0]
  unfold allowM
  (repeat' split) <;> first | exact doM_upto h | exact h0 | exact hz
theorem allowM_may {m : MC} {c : Cl} (h : mayB m = true) : mayB (allowM m c).1 = true := by
  unfold allowM
  (repeat' split) <;> first | exact doM_may h | exact h | exact mc0_may
/-- calls one behind the other: what they leave, and the first that may not answer so -/
def playM : MC → Nat → List Cl → MC × Int
  | m, _, [] => (m, -1)
  | m, i, c :: r => if (allowM m c).2 = true then playM (allowM m c).1 (i + 1) r else (m, (i : Int))
end Go.Proofs.Ytgljbdcamagdbaa.Z
