/- A region that draws its order, in a symbolic run: whatever the order, the state behind it is the one of the text's order. No statement of the program. -/
import Derived.Test.YtgljbdcamagdbaaSymI
namespace Go.Proofs.Ytgljbdcamagdbaa
open Go.RowKit

/-! ### what a set of operations has left, key by key -/
section
variable {β : Type} (ev : Nat → Option β)
def foldE (L : Nat → Bool) (base : Option β) : Nat → Option β
  | 0 => base
  | n + 1 => if L n then (ev n).or (foldE L base n) else foldE L base n
variable {ev} {L L' : Nat → Bool} {base : Option β}
theorem foldE_congr {n : Nat} (h : ∀ j, j < n → (L j = L' j ∨ ev j = none)) : foldE ev L base n = foldE ev L' base n := by
  induction n with
  | zero => rfl
  | succ n ih =>
    have ih := ih (fun j hj => h j (by omega))
    simp only [foldE]
    rcases h n (by omega) with e | e
    · rw [e, ih]
    · rw [e, ih]
      cases L n <;> cases L' n <;> rfl
theorem foldE_more {i n : Nat} (hi : i ≤ n) (h : ∀ j, i ≤ j → j < n → L j = true → ev j = none) : foldE ev L base n = foldE ev L base i := by
  induction n with
  | zero =>
    have : i = 0 := by omega
    rw [this]
  | succ n ih =>
    by_cases e : i = n + 1
    · rw [e]
    · have ih := ih (by omega) (fun j h1 h2 => h j h1 (by omega))
      simp only [foldE]
      cases hL : L n with
      | false => simpa using ih
      | true => simp [h n (by omega) (by omega) hL, ih]
theorem foldE_add {i n : Nat} (hi : i < n) (hL : L i = false) (hL' : ∀ j, L' j = if j = i then true else L j) (h : ∀ j, i < j → j < n → L j = true → ev j = none ∨ ev i = none) :
    foldE ev L' base n = (ev i).or (foldE ev L base n) := by
  induction n with
  | zero => omega
  | succ n ih =>
    simp only [foldE]
    by_cases e : i = n
    · subst e
      have h1 : foldE ev L' base i = foldE ev L base i := foldE_congr (fun j hj => Or.inl (by rw [hL' j, if_neg (by omega)]))
      rw [hL' i, if_pos rfl, hL, h1]
      rfl
    · have ih := ih (by omega) (fun j h1 h2 => h j h1 (by omega))
      have hLn : L' n = L n := by rw [hL' n, if_neg (fun e' => e e'.symm)]
      rw [hLn, ih]
      cases hn : L n with
      | false => rfl
      | true =>
        show (ev n).or ((ev i).or (foldE ev L base n)) = (ev i).or ((ev n).or (foldE ev L base n))
        rcases h n (by omega) (by omega) hn with e | e
        · rw [e]; rfl
        · rw [e]; rfl
end

def evT (nt : Nat) (r : Rec) (t : Nat) : Option SV := match r.dst with
  | some d => if d < nt then (if d = t then some r.val else none) else none
  | none => none
def evO (r : Rec) (id : Nat) : Option (List SC × Nat) := match r.new, r.wr with
  | some (k, b), _ => if k = id then some b else none
  | none, some (k, b) => if k = id then some b else none
  | none, none => none

def SL (rc : Nat → Rec) (L : Nat → Bool) (S : St) : Nat → St
  | 0 => S
  | n + 1 => if L n then (SL rc L S n).appR (rc n) else SL rc L S n

section
variable {rc : Nat → Rec} {L : Nat → Bool} {S : St}
theorem look_putT (d : Option Nat) (v : SV) (t : Nat) : look (S.putT d v) t = (match d with | some d => if d < S.nt then (if d = t then some v else none) else none | none => none : Option SV).or (look S.tmps t) := by
  unfold St.putT
  cases d with
  | none => rfl
  | some d =>
    simp only
    by_cases h : d < S.nt
    · rw [if_pos h, if_pos h, look_cons]
      split <;> rfl
    · rw [if_neg h, if_neg h]; rfl
theorem look_ownR (r : Rec) (own : List (Nat × List SC × Nat)) (id : Nat) : look (ownR r own) id = (evO r id).or (look own id) := by
  obtain ⟨dst, val, new, wr, arrs, lo, cnt, kn⟩ := r
  cases new with
  | some p => obtain ⟨k, b⟩ := p; simp only [ownR, evO, look_cons]; split <;> rfl
  | none =>
    cases wr with
    | some p => obtain ⟨k, b⟩ := p; simp only [ownR, evO, look_cons]; split <;> rfl
    | none => rfl
theorem SL_nt (n : Nat) : (SL rc L S n).nt = S.nt := by
  induction n with
  | zero => rfl
  | succ n ih => simp only [SL]; split; exact ih; exact ih
theorem SL_facts (n : Nat) : (SL rc L S n).facts = S.facts := by
  induction n with
  | zero => rfl
  | succ n ih => simp only [SL]; split; exact ih; exact ih
theorem SL_nid (n : Nat) : (SL rc L S n).nid = S.nid := by
  induction n with
  | zero => rfl
  | succ n ih => simp only [SL]; split; exact ih; exact ih
theorem SL_tmps (n t : Nat) : look (SL rc L S n).tmps t = foldE (fun j => evT S.nt (rc j) t) L (look S.tmps t) n := by
  induction n with
  | zero => rfl
  | succ n ih =>
    simp only [SL, foldE]
    split
    · simp only [St.appR]
      rw [look_putT, SL_nt, ih]
      rfl
    · exact ih
theorem SL_own (n id : Nat) : look (SL rc L S n).own id = foldE (fun j => evO (rc j) id) L (look S.own id) n := by
  induction n with
  | zero => rfl
  | succ n ih =>
    simp only [SL, foldE]
    split
    · simp only [St.appR]
      rw [look_ownR, ih]
    · exact ih
theorem SL_arrs (n k : Nat) : look (SL rc L S n).arrs k = foldE (fun j => look (rc j).arrs k) L (look S.arrs k) n := by
  induction n with
  | zero => rfl
  | succ n ih =>
    simp only [SL, foldE]
    split
    · simp only [St.appR]
      rw [look_app, ih]
    · exact ih
end

theorem memB_iff {l : List Nat} {k : Nat} : memB l k = true ↔ k ∈ l := by
  induction l with
  | nil => simp [memB]
  | cons a l ih =>
    simp only [memB, List.mem_cons]
    split
    · next e => simp [e]
    · next e => rw [ih]; simp [Ne.symm e]
theorem look_hideL {α : Type} {ks : List Nat} : ∀ {l : List (Nat × α)} {t : Nat} {v : α}, look (hideL ks l) t = some v → ¬ t ∈ ks ∧ look l t = some v
  | [], t, v, h => by cases h
  | (k, x) :: l, t, v, h => by
    simp only [hideL] at h
    by_cases hk : memB ks k = true
    · rw [if_pos hk] at h
      obtain ⟨h1, h2⟩ := look_hideL h
      refine ⟨h1, ?_⟩
      rw [look_cons, if_neg]
      · exact h2
      · rintro rfl; exact h1 (memB_iff.1 hk)
    · rw [if_neg hk, look_cons] at h
      split at h
      · next e =>
        subst e
        exact ⟨fun hm => hk (memB_iff.2 hm), by rw [look_cons, if_pos rfl]; exact h⟩
      · next e =>
        obtain ⟨h1, h2⟩ := look_hideL h
        exact ⟨h1, by rw [look_cons, if_neg e]; exact h2⟩
theorem evO_tch {r : Rec} {id : Nat} {b : List SC × Nat} (h : evO r id = some b) : id ∈ r.tch := by
  obtain ⟨dst, val, new, wr, arrs, lo, cnt, kn⟩ := r
  cases new with
  | some p =>
    obtain ⟨k, c⟩ := p
    simp only [evO] at h
    split at h
    · next e => simp [Rec.tch, e]
    · cases h
  | none =>
    cases wr with
    | some p =>
      obtain ⟨k, c⟩ := p
      simp only [evO] at h
      split at h
      · next e => simp [Rec.tch, e]
      · cases h
    | none => simp [evO] at h
theorem look_keysA : ∀ {l : List (Nat × ArrF)} {k : Nat} {A : ArrF}, look l k = some A → k ∈ keysA l
  | [], k, A, h => by cases h
  | (i, x) :: l, k, A, h => by
    rw [look_cons] at h
    simp only [keysA, List.mem_cons]
    split at h
    · next e => exact Or.inl e.symm
    · exact Or.inr (look_keysA h)
theorem look_keysO : ∀ {l : List (Nat × List SC × Nat)} {k : Nat} {A : List SC × Nat}, look l k = some A → k ∈ keysO l
  | [], k, A, h => by cases h
  | (i, x) :: l, k, A, h => by
    rw [look_cons] at h
    simp only [keysO, List.mem_cons]
    split at h
    · next e => exact Or.inl e.symm
    · exact Or.inr (look_keysO h)
theorem mem_tchs {done : List Rec} {j id : Nat} {r : Rec} (hr : done[j]? = some r) (hid : id ∈ r.tch) : ∀ {U : List Nat}, j ∈ U → id ∈ tchs done U
  | [], h => by cases h
  | u :: U, h => by
    simp only [tchs, nth_eq]
    rcases List.mem_cons.1 h with rfl | h
    · rw [hr]; exact List.mem_append.2 (Or.inl hid)
    · have := mem_tchs hr hid h
      split
      · exact List.mem_append.2 (Or.inr this)
      · exact this
theorem mem_keyss {done : List Rec} {j id : Nat} {r : Rec} (hr : done[j]? = some r) (hid : id ∈ keysA r.arrs) : ∀ {U : List Nat}, j ∈ U → id ∈ keyss done U
  | [], h => by cases h
  | u :: U, h => by
    simp only [keyss, nth_eq]
    rcases List.mem_cons.1 h with rfl | h
    · rw [hr]; exact List.mem_append.2 (Or.inl hid)
    · have := mem_keyss hr hid h
      split
      · exact List.mem_append.2 (Or.inr this)
      · exact this
theorem ltAll_mem : ∀ {l : List Nat} {n : Nat}, ltAll l n = true → ∀ k ∈ l, k < n
  | [], _, _, k, h => by cases h
  | a :: l, n, h, k, hk => by
    simp only [ltAll, Bool.and_eq_true, decide_eq_true_eq] at h
    rcases List.mem_cons.1 hk with rfl | hk
    · exact h.1
    · exact ltAll_mem h.2 k hk

theorem wrFree_mem {done : List Rec} {id : Nat} : ∀ {U : List Nat}, wrFree done id U = true → ∀ j ∈ U, ∀ r, done[j]? = some r → ¬ id ∈ r.kn
  | [], _, j, h, _, _ => by cases h
  | u :: U, h, j, hj, r, hr => by
    simp only [wrFree, nth_eq] at h
    split at h
    · next r' hr' =>
      split at h
      · cases h
      · next hm =>
        rcases List.mem_cons.1 hj with rfl | hj
        · rw [hr'] at hr
          cases hr
          exact fun hin => hm (memB_iff.2 hin)
        · exact wrFree_mem h j hj r hr
    · cases h

/-! ### who must come ahead of whom -/
theorem ancsGo_good (l : List (List Nat)) : ∀ (r acc : List (List Nat)) (l1 : List (List Nat)), l = l1 ++ r → acc.length = l1.length →
    (∀ i a, l[i]? = some a → i < acc.length → ∀ j ∈ acc.getD i [], j < i ∧ (j ∈ a ∨ ∃ p ∈ a, p < i ∧ j ∈ acc.getD p [])) →
    (ancsGo acc r).length = l.length ∧ ∀ i a, l[i]? = some a → ∀ j ∈ (ancsGo acc r).getD i [], j < i ∧ (j ∈ a ∨ ∃ p ∈ a, p < i ∧ j ∈ (ancsGo acc r).getD p [])
  | [], acc, l1, hl, hn, h => by
    simp only [List.append_nil] at hl
    subst hl
    simp only [ancsGo]
    refine ⟨hn, fun i a ha j hj => h i a ha ?_ j hj⟩
    rw [hn]; exact (List.getElem?_eq_some_iff.1 ha).1
  | x :: r, acc, l1, hl, hn, h => by
    simp only [ancsGo]
    refine ancsGo_good l r _ (l1 ++ [x]) (by rw [hl]; simp) (by simp [hn]) ?_
    intro i a ha hi j hj
    simp only [List.length_append, List.length_cons, List.length_nil] at hi
    have hget : ∀ p, p < acc.length → (acc ++ [(List.range acc.length).filter fun j => x.contains j || x.any fun p => (acc.getD p []).contains j]).getD p [] = acc.getD p [] := by
      intro p hp
      simp only [List.getD_eq_getElem?_getD]
      rw [List.getElem?_append_left hp]
    by_cases e : i < acc.length
    · rw [hget i e] at hj
      obtain ⟨h1, h2⟩ := h i a ha e j hj
      refine ⟨h1, h2.imp id ?_⟩
      rintro ⟨p, hp, hpi, hjp⟩
      exact ⟨p, hp, hpi, by rw [hget p (by omega)]; exact hjp⟩
    · have ei : i = acc.length := by omega
      subst ei
      have hx : a = x := by
        rw [hl, hn, List.getElem?_append_right (Nat.le_refl _), Nat.sub_self] at ha
        simpa using ha.symm
      subst hx
      simp only [List.getD_eq_getElem?_getD] at hj
      rw [List.getElem?_append_right (Nat.le_refl _), Nat.sub_self] at hj
      simp only [List.getElem?_cons_zero, Option.getD_some, List.mem_filter, List.mem_range, Bool.or_eq_true, List.contains_iff_mem, List.any_eq_true] at hj
      obtain ⟨h1, h2⟩ := hj
      refine ⟨h1, h2.imp id ?_⟩
      rintro ⟨p, hp, hjp⟩
      have hpl : p < acc.length := by
        rcases Nat.lt_or_ge p acc.length with h | h
        · exact h
        · rw [List.getElem?_eq_none h] at hjp
          simp at hjp
      refine ⟨p, hp, hpl, ?_⟩
      rw [hget p hpl, List.getD_eq_getElem?_getD]
      exact hjp

theorem anc_good (ops : List Oper) : (ancsOf ops).length = ops.length ∧ ∀ (i : Nat) (o : Oper), ops[i]? = some o → ∀ j ∈ (ancsOf ops).getD i [], j < i ∧ (j ∈ afterOn o ∨ ∃ p ∈ afterOn o, p < i ∧ j ∈ (ancsOf ops).getD p []) := by
  have := ancsGo_good (ops.map afterOn) (ops.map afterOn) [] [] rfl rfl (fun i a _ h => by simp at h)
  refine ⟨by simpa [ancsOf] using this.1, fun i o ho j hj => this.2 i (afterOn o) (by simp [ho]) j hj⟩

/-- whoever is listed has all its elders listed -/
def ClosedL (ops : List Oper) (L : Nat → Bool) : Prop := ∀ (j : Nat) (o : Oper), ops[j]? = some o → L j = true → ∀ p ∈ afterOn o, L p = true
theorem anc_listed {ops : List Oper} {L : Nat → Bool} (hc : ClosedL ops L) : ∀ (m i : Nat) (o : Oper), i < m → ops[i]? = some o → (∀ p ∈ afterOn o, L p = true) → ∀ j ∈ (ancsOf ops).getD i [], L j = true
  | 0, i, o, hi, _, _, _, _ => by omega
  | m + 1, i, o, hi, ho, ha, j, hj => by
    obtain ⟨hji, h | ⟨p, hp, hpi, hjp⟩⟩ := (anc_good ops).2 i o ho j hj
    · exact ha j h
    · have hop : ∃ o', ops[p]? = some o' := ⟨ops[p]'(by have := (List.getElem?_eq_some_iff.1 ho).1; omega), List.getElem?_eq_getElem _⟩
      obtain ⟨o', ho'⟩ := hop
      exact anc_listed hc m p o' (by omega) ho' (hc p o' ho' (ha p hp)) j hjp

theorem mem_afterOn {o : Oper} {p : Nat} : p ∈ afterOn o ↔ ∃ e ∈ o.after, Region.binds .any e = true ∧ e.on = p := by
  unfold afterOn
  simp only [List.mem_map, List.mem_filter, Array.mem_toList_iff]
  constructor
  · rintro ⟨e, ⟨h1, h2⟩, h3⟩; exact ⟨e, h1, h2, h3⟩
  · rintro ⟨e, h1, h2, h3⟩; exact ⟨e, ⟨h1, h2⟩, h3⟩
end Go.Proofs.Ytgljbdcamagdbaa
