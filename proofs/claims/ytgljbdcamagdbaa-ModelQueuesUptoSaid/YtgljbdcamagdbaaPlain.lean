/- Rising lists: what inserting and deleting do. Plain laws of lists: no statement of the program. -/
import Derived.Test.YtgljbdcamagdbaaDo
namespace Go.Proofs.Ytgljbdcamagdbaa
open Go.RowKit

theorem inc_pair : ∀ {l : List Int}, incB l = true ↔ l.Pairwise (· < ·)
  | [] => by simp [incB]
  | [a] => by simp [incB]
  | a :: b :: r => by
    simp only [incB, Bool.and_eq_true, decide_eq_true_eq, inc_pair (l := b :: r), List.pairwise_cons]
    constructor
    · rintro ⟨h1, h2, h3⟩
      refine ⟨fun x hx => ?_, h2, h3⟩
      rcases List.mem_cons.1 hx with rfl | hx
      · exact h1
      · have := h2 x hx; omega
    · rintro ⟨h1, h2, h3⟩
      exact ⟨h1 b (by simp), h2, h3⟩

theorem pos_split {k : Int} : ∀ {l : List Int}, l.Pairwise (· < ·) → (∀ x ∈ l.take (pos l k), x < k) ∧ ∀ x ∈ l.drop (pos l k), k ≤ x
  | [], _ => by simp
  | a :: r, h => by
    obtain ⟨h1, h2⟩ := List.pairwise_cons.1 h
    by_cases ha : a < k
    · have e : pos (a :: r) k = pos r k + 1 := by simp [pos, ha]
      obtain ⟨h3, h4⟩ := pos_split (k := k) h2
      rw [e, List.take_succ_cons, List.drop_succ_cons]
      exact ⟨fun x hx => by rcases List.mem_cons.1 hx with rfl | hx; exact ha; exact h3 x hx, h4⟩
    · have e : pos (a :: r) k = 0 := by
        unfold pos
        rw [List.countP_eq_zero]
        intro x hx
        simp only [decide_eq_true_eq]
        rcases List.mem_cons.1 hx with rfl | hx
        · exact ha
        · have := h1 x hx; omega
      rw [e]
      refine ⟨by simp, fun x hx => ?_⟩
      rw [List.drop_zero] at hx
      rcases List.mem_cons.1 hx with rfl | hx
      · omega
      · have := h1 x hx; omega

theorem pos_le (l : List Int) (k : Int) : pos l k ≤ l.length := List.countP_le_length

theorem has_mem {l : List Int} {k : Int} (h : incB l = true) : hasB l k = true ↔ k ∈ l := by
  obtain ⟨h1, h2⟩ := pos_split (k := k) (inc_pair.1 h)
  simp only [hasB, decide_eq_true_eq]
  constructor
  · intro he; exact List.mem_of_getElem? he
  · intro hm
    rw [← List.take_append_drop (pos l k) l] at hm
    rcases List.mem_append.1 hm with hm | hm
    · have := h1 k hm; omega
    · have hd := h2
      cases hdr : l.drop (pos l k) with
      | nil => rw [hdr] at hm; cases hm
      | cons b r =>
        have hb : l[pos l k]? = some b := by
          have := congrArg (·[0]?) hdr
          simpa using this
        rw [hb]
        have hp : (b :: r).Pairwise (· < ·) := by rw [← hdr]; exact (inc_pair.1 h).sublist (List.drop_sublist _ _)
        rw [hdr] at hm hd
        have hbk := hd b (by simp)
        rcases List.mem_cons.1 hm with rfl | hm
        · rfl
        · have := (List.pairwise_cons.1 hp).1 k hm; omega

theorem mem_insAt {α : Type} {l : List α} {i : Nat} {x y : α} : y ∈ insAt l i x ↔ y = x ∨ y ∈ l := by
  unfold insAt
  constructor
  · intro h
    rcases List.mem_append.1 h with h | h
    · exact Or.inr (List.mem_of_mem_take h)
    · rcases List.mem_cons.1 h with h | h
      · exact Or.inl h
      · exact Or.inr (List.mem_of_mem_drop h)
  · intro h
    rcases h with rfl | h
    · simp
    · rw [← List.take_append_drop i l] at h
      rcases List.mem_append.1 h with h | h
      · exact List.mem_append.2 (Or.inl h)
      · exact List.mem_append.2 (Or.inr (List.mem_cons_of_mem _ h))

theorem inc_ins {l : List Int} {k : Int} (h : incB l = true) (hk : ¬ k ∈ l) : incB (insAt l (pos l k) k) = true := by
  have hp := inc_pair.1 h
  obtain ⟨h1, h2⟩ := pos_split (k := k) hp
  rw [inc_pair]
  unfold insAt
  rw [List.pairwise_append]
  refine ⟨hp.sublist (List.take_sublist _ _), ?_, ?_⟩
  · rw [List.pairwise_cons]
    refine ⟨fun x hx => ?_, hp.sublist (List.drop_sublist _ _)⟩
    have := h2 x hx
    have hne : x ≠ k := by rintro rfl; exact hk (List.mem_of_mem_drop hx)
    omega
  · intro x hx y hy
    have hxk := h1 x hx
    rcases List.mem_cons.1 hy with rfl | hy
    · exact hxk
    · have := h2 y hy; omega

theorem pos_ins {l : List Int} {k : Int} (i : Nat) : pos (insAt l i k) k = pos l k := by
  unfold pos insAt
  rw [List.countP_append, List.countP_cons]
  have e : l.countP (· < k) = (l.take i).countP (· < k) + (l.drop i).countP (· < k) := by rw [← List.countP_append, List.take_append_drop]
  rw [e]
  simp

theorem del_ins {α : Type} {l : List α} {i : Nat} {x : α} (h : i ≤ l.length) : delAt (insAt l i x) i = l := by
  unfold delAt insAt
  have e : (l.take i).length = i := by rw [List.length_take]; omega
  rw [List.take_append_of_le_length (by omega), List.take_of_length_le (by omega), List.drop_append, e, List.drop_of_length_le (by omega)]
  rw [show i + 1 - i = 1 by omega, List.nil_append, List.drop_succ_cons, List.drop_zero, List.take_append_drop]

theorem ins_at {α : Type} {l : List α} {i : Nat} {x : α} (h : i ≤ l.length) : (insAt l i x)[i]? = some x := by
  unfold insAt
  rw [List.getElem?_append_right (by rw [List.length_take]; omega), List.length_take, Nat.min_eq_left h, Nat.sub_self]
  rfl

theorem inc_del {l : List Int} {i : Nat} (h : incB l = true) : incB (delAt l i) = true := by
  rw [inc_pair] at h ⊢
  refine h.sublist ?_
  unfold delAt
  have : List.Sublist (l.take i ++ l.drop (i + 1)) (l.take i ++ l.drop i) := List.Sublist.append (List.Sublist.refl _) (by rw [← List.drop_drop]; exact List.drop_sublist _ _)
  rwa [List.take_append_drop] at this

theorem mem_del {l : List Int} {i : Nat} {k x : Int} (h : incB l = true) (hk : l[i]? = some k) : x ∈ delAt l i ↔ x ∈ l ∧ x ≠ k := by
  have hp := inc_pair.1 h
  have hi : i < l.length := (List.getElem?_eq_some_iff.1 hk).1
  have e : l = l.take i ++ k :: l.drop (i + 1) := by
    have h1 : l.drop i = k :: l.drop (i + 1) := by rw [List.drop_eq_getElem_cons hi]; congr 1; exact (List.getElem?_eq_some_iff.1 hk).2
    rw [← h1, List.take_append_drop]
  have hp2 := hp
  rw [e, List.pairwise_append, List.pairwise_cons] at hp2
  obtain ⟨_, ⟨h2, _⟩, h3⟩ := hp2
  unfold delAt
  constructor
  · intro hx
    rcases List.mem_append.1 hx with hx | hx
    · exact ⟨List.mem_of_mem_take hx, by have := h3 x hx k (by simp); omega⟩
    · exact ⟨List.mem_of_mem_drop hx, by have := h2 x hx; omega⟩
  · rintro ⟨hx, hne⟩
    rw [e] at hx
    rcases List.mem_append.1 hx with hx | hx
    · exact List.mem_append.2 (Or.inl hx)
    · rcases List.mem_cons.1 hx with hx | hx
      · exact absurd hx hne
      · exact List.mem_append.2 (Or.inr hx)

theorem has_false {l : List Int} {k : Int} (h : incB l = true) : hasB l k = false ↔ ¬ k ∈ l := by
  rw [← has_mem h]
  cases hasB l k <;> simp

theorem map_insAt {α β : Type} (f : α → β) (l : List α) (i : Nat) (x : α) : (insAt l i x).map f = insAt (l.map f) i (f x) := by
  simp [insAt]
theorem map_delAt {α β : Type} (f : α → β) (l : List α) (i : Nat) : (delAt l i).map f = delAt (l.map f) i := by
  simp [delAt]

/-- just behind an insert: the set has the key, rises, and without the key it is what it was -/
theorem set_ins {l : List Int} {k : Int} (h : incB l = true) (hk : hasB l k = false) :
    incB (insAt l (pos l k) k) = true ∧ hasB (insAt l (pos l k) k) k = true ∧ delAt (insAt l (pos l k) k) (pos (insAt l (pos l k) k) k) = l ∧ (insAt l (pos l k) k).length = l.length + 1 ∧
    ∀ o, o ≠ k → hasB (insAt l (pos l k) k) o = hasB l o := by
  have hm := (has_false h).1 hk
  have hi := inc_ins h hm
  refine ⟨hi, (has_mem hi).2 (mem_insAt.2 (Or.inl rfl)), ?_, insAt_len _ _ _ (pos_le _ _), fun o ho => ?_⟩
  · rw [pos_ins]; exact del_ins (pos_le _ _)
  · have : (hasB (insAt l (pos l k) k) o = true) = (hasB l o = true) := by
      rw [has_mem hi, has_mem h, mem_insAt]
      simp [ho]
    exact Bool.eq_iff_iff.2 (by rw [this])

theorem set_del {l : List Int} {k : Int} (h : incB l = true) (hk : hasB l k = true) :
    incB (delAt l (pos l k)) = true ∧ hasB (delAt l (pos l k)) k = false ∧ (delAt l (pos l k)).length + 1 = l.length ∧ ∀ o, o ≠ k → hasB (delAt l (pos l k)) o = hasB l o := by
  have hat : l[pos l k]? = some k := by simpa [hasB] using hk
  have hd := inc_del (i := pos l k) h
  have hi : pos l k < l.length := (List.getElem?_eq_some_iff.1 hat).1
  refine ⟨hd, ?_, ?_, fun o ho => ?_⟩
  · rw [has_false hd, mem_del h hat]
    simp
  · rw [delAt_len _ _ hi]; omega
  · have : (hasB (delAt l (pos l k)) o = true) = (hasB l o = true) := by
      rw [has_mem hd, has_mem h, mem_del h hat]
      simp [ho]
    exact Bool.eq_iff_iff.2 (by rw [this])
end Go.Proofs.Ytgljbdcamagdbaa
