
/- A state behind an operation or a call. No statement of the program. -/
import Derived.Test.YtkjeedlkkpgopaaZA
namespace Go.Proofs.Ytkjeedlkkpgopaa.Z
open Go Go.RowKit
set_option linter.unusedSimpArgs false

/-! ### lists with numbers -/
section
variable {α : Type}
theorem look_cons (k : Nat) (v : α) (l : List (Nat × α)) (t : Nat) : look ((k, v) :: l) t = if k = t then some v else look l t := rfl
theorem look_setL : ∀ (l : List (Nat × α)) (k : Nat) (v : α) (t : Nat), look (setL l k v) t = if k = t then some v else look l t
  | [], k, v, t => rfl
  | (j, u) :: l, k, v, t => by
    simp only [setL]
    split
    · next e => subst e; simp only [look_cons]; split <;> rfl
    · next e =>
      simp only [look_cons, look_setL l k v t]
      split
      · next e1 => subst e1; rw [if_neg (fun h => e h.symm)]
      · rfl
theorem look_mergeL : ∀ (e l : List (Nat × α)) (t : Nat), look (mergeL e l) t = (look e t).or (look l t)
  | [], l, t => rfl
  | (k, v) :: e, l, t => by
    simp only [mergeL, look_setL, look_cons, look_mergeL e l t]
    split <;> rfl
theorem atN_some {l : List (Nat × Fm α)} {x : Nm} {b : α} (h : atN l x = some b) : ∃ F, look l x.1 = some F ∧ F.get x.2 = some b := by
  unfold atN at h
  split at h
  · next F hF => exact ⟨F, hF, h⟩
  · cases h
theorem atN_mergeL (e l : List (Nat × Fm α)) (x : Nm) : atN (mergeL e l) x = if (look e x.1).isSome = true then atN e x else atN l x := by
  unfold atN
  rw [look_mergeL]
  cases look e x.1 with
  | none => rfl
  | some F => rfl
theorem atN_isSome {l : List (Nat × Fm α)} {x : Nm} {b : α} (h : atN l x = some b) : (look l x.1).isSome = true := by
  obtain ⟨F, hF, _⟩ := atN_some h
  rw [hF]; rfl
theorem get_pk {F : Fm α} {k : Nat × Nat} (h : (F.pk k).1) : F.get k = some (F.pk k).2 := by
  obtain ⟨k, l⟩ := k
  cases F <;> simp only [Fm.pk, Fm.get] at h ⊢ <;> rw [if_pos h]
theorem pk_get {F : Fm α} {k : Nat × Nat} {b : α} (h : F.get k = some b) : (F.pk k).1 ∧ (F.pk k).2 = b := by
  obtain ⟨k, l⟩ := k
  cases F <;> simp only [Fm.pk, Fm.get] at h ⊢ <;> split at h <;> first | (cases h; done) | (next hc => cases h; exact ⟨hc, rfl⟩)
theorem pkN_at {l : List (Nat × Fm α)} {x : Nm} {p : Prop} {b : α} (h : pkN l x = some (p, b)) (hp : p) : atN l x = some b := by
  unfold pkN at h
  unfold atN
  split at h
  · next F hF =>
    simp only [Option.some.injEq] at h
    have := get_pk (F := F) (k := x.2) (by rw [h]; exact hp)
    rw [h] at this
    simp only [hF, this]
  · cases h
theorem get_set {F : Fm α} {k : Nat × Nat} (h : (F.pk k).1) (b : α) (q : Nat × Nat) : (F.set k b).get q = if q = k then some b else F.get q := by
  obtain ⟨k, l⟩ := k
  obtain ⟨x, y⟩ := q
  cases F with
  | one a =>
    simp only [Fm.pk] at h
    obtain ⟨rfl, rfl⟩ := h
    simp only [Fm.set, Fm.get, Prod.mk.injEq]
    by_cases e : x = 0 ∧ y = 0
    · rw [if_pos e, if_pos e]
    · rw [if_neg e, if_neg e, if_neg e]
  | fam n f =>
    simp only [Fm.pk] at h
    simp only [Fm.set, Fm.get, Prod.mk.injEq]
    by_cases e : x = k ∧ y = l
    · obtain ⟨rfl, rfl⟩ := e
      simp [h]
    · rw [if_neg e]
      by_cases e2 : x < n ∧ y = 0
      · rw [if_pos e2, if_pos e2, if_neg]
        rintro rfl
        exact e ⟨rfl, by omega⟩
      · rw [if_neg e2, if_neg e2]
  | fam2 n m f =>
    simp only [Fm.pk] at h
    simp only [Fm.set, Fm.get, Prod.mk.injEq]
    by_cases e : x = k ∧ y = l
    · obtain ⟨rfl, rfl⟩ := e
      simp [h]
    · rw [if_neg e]
      by_cases e2 : x < n ∧ y < m x
      · rw [if_pos e2, if_neg e]
      · rw [if_neg e2, if_neg e]
theorem setN_look {l : List (Nat × Fm α)} {x : Nm} {p : Prop} {b : α} (h : pkN l x = some (p, b)) (b' : α) (i : Nat) : (look (setN l x b') i).isSome = true ↔ i = x.1 := by
  unfold pkN at h
  unfold setN
  split at h
  · next F hF =>
    simp only [hF, look_cons, look]
    split
    · next e => simp [e]
    · next e => simp [Ne.symm e]
  · cases h
theorem atN_setN {l : List (Nat × Fm α)} {x : Nm} {p : Prop} {b : α} (h : pkN l x = some (p, b)) (hp : p) (b' : α) (y : Nm) : atN (setN l x b') y = if y.1 = x.1 then (if y = x then some b' else atN l y) else none := by
  obtain ⟨x, k⟩ := x
  obtain ⟨y, q⟩ := y
  unfold pkN at h
  unfold setN atN
  simp only at h ⊢
  split at h
  · next F hF =>
    simp only [Option.some.injEq] at h
    simp only [hF, look_cons, look]
    by_cases e : y = x
    · subst e
      rw [if_pos rfl, if_pos rfl]
      simp only [get_set (F := F) (k := k) (by rw [h]; exact hp), hF, Prod.mk.injEq, true_and]
    · rw [if_neg e, if_neg (fun h => e h.symm)]
  · cases h
theorem memB_iff {l : List Nat} {k : Nat} : memB l k = true ↔ k ∈ l := by
  induction l with
  | nil => simp [memB]
  | cons a l ih =>
    simp only [memB, List.mem_cons]
    split
    · next e => simp [e]
    · next e => rw [ih]; simp [Ne.symm e]
theorem look_dropL {ks : List Nat} : ∀ {l : List (Nat × α)} {t : Nat} {v : α}, look (dropL ks l) t = some v → ¬ t ∈ ks ∧ look l t = some v
  | [], t, v, h => by cases h
  | (k, x) :: l, t, v, h => by
    simp only [dropL] at h
    by_cases hk : memB ks k = true
    · rw [if_pos hk] at h
      obtain ⟨h1, h2⟩ := look_dropL h
      refine ⟨h1, ?_⟩
      rw [look_cons, if_neg]
      · exact h2
      · rintro rfl; exact h1 (memB_iff.1 hk)
    · rw [if_neg hk, look_cons] at h
      split at h
      · next e =>
        subst e
        exact ⟨fun hm => hk (memB_iff.2 hm), by rw [look_cons, if_pos rfl]; exact h⟩
      · next e =>
        obtain ⟨h1, h2⟩ := look_dropL h
        exact ⟨h1, by rw [look_cons, if_neg e]; exact h2⟩
end

theorem denL_eq (E : Env) : ∀ l : List SC, SC.denL E l = l.map (SC.den E)
  | [] => by simp [SC.denL]
  | c :: r => by simp [SC.denL, denL_eq E r]

/-! ### frames, slots -/
theorem put_size' (a : Act) (d : Option Tmp) (v : Value) : (a.put d v).tmps.size = a.tmps.size := by cases d <;> simp [Act.put]
theorem put_defers' (a : Act) (d : Option Tmp) (v : Value) : (a.put d v).defers = a.defers := by cases d <;> rfl
theorem put_same' (a : Act) (d : Tmp) (v : Value) (h : d < a.tmps.size) : (a.put (some d) v).tmps.getD d undef = v := by
  simp [Act.put, Array.getD_eq_getD_getElem?, h]
theorem put_other' (a : Act) (d t : Tmp) (v : Value) (h : d ≠ t) : (a.put (some d) v).tmps.getD t undef = a.tmps.getD t undef := by
  simp [Act.put, Array.getD_eq_getD_getElem?, Array.getElem?_setIfInBounds_ne h]

section
variable {B : Nat} {W : Nat → Prop} {w0 : World} {E : Env} {S : St} {a : Act} {w w' : World}

theorem sat_put (hs : Sat B W w0 E S a w) (dst : Option Nat) (v : SV) : ∀ t u, look (S.putT dst v) t = some u → t < S.nt ∧ (a.put dst (v.den E)).tmps.getD t undef = u.den E := by
  intro t u h
  cases dst with
  | none => exact hs.tmps t u h
  | some d =>
    simp only [St.putT] at h
    by_cases hd : d < S.nt
    · rw [if_pos hd, look_setL] at h
      split at h
      · next e =>
        subst e
        simp only [Option.some.injEq] at h
        subst h
        exact ⟨hd, put_same' a d _ (by rw [hs.size]; exact hd)⟩
      · next e =>
        obtain ⟨h1, h2⟩ := hs.tmps t u h
        exact ⟨h1, by rw [put_other' a d t _ e]; exact h2⟩
    · rw [if_neg hd] at h
      obtain ⟨h1, h2⟩ := hs.tmps t u h
      exact ⟨h1, by rw [put_other' a d t _ (show (d : Nat) ≠ t by omega)]; exact h2⟩

theorem HeapOk.lt {own : Own} {H : Nm → PH} (hH : HeapOk B W E own H w) {x : Nm} {b : Blk} (h : atN own x = some b) {n : Nat} {o : Obj} (hn : H x n = some o) : n < w.heap.size :=
  (Array.getElem?_eq_some_iff.1 (hH.sub x b h n o hn).1).1

/-- **the state behind an operation or a call** -/
theorem sat_after {eff : Own} {arrs' : List (Nat × Fm ArrF)} {tmpl : SV} (hs : Sat B W w0 E S a w) (hfit : FitsG B W E S w w' eff arrs') (dst : Option Nat) (nid : Nat) :
    Sat B W w0 E ⟨S.nt, S.putT dst tmpl, mergeL eff S.own, mergeL arrs' S.arrs, S.facts, nid⟩ (a.put dst (tmpl.den E)) w' := by
  obtain ⟨H, hH, hF⟩ := hs.mem
  obtain ⟨G, hG, hfit1, hfit2⟩ := hfit
  have he := hfit1 H hH
  obtain ⟨H', h1, h2, h3⟩ := he.new
  have hk : ∀ n, n < w.heap.size → (∀ x b, (look eff x.1).isSome = true → atN S.own x = some b → H x n = none) → w'.heap[n]? = w.heap[n]? := he.keep
  refine ⟨by rw [put_size']; exact hs.size, by rw [put_defers']; exact hs.defers, hs.one, sat_put hs dst tmpl, ?_, fun x => if (look eff x.1).isSome = true then H' x else H x, ⟨?_, ?_, ?_⟩, ?_⟩
  · refine ⟨he.os.trans hs.frame.os, he.tape.trans hs.frame.tape, he.output.trans hs.frame.output, Nat.le_trans hs.frame.size he.size, fun n hn hW => ?_⟩
    rw [← hs.frame.keep n hn hW]
    refine hk n (Nat.lt_of_lt_of_le hn hs.frame.size) (fun x b _ hx => ?_)
    cases hHn : H x n with
    | none => rfl
    | some o =>
      rcases (hH.sub x b hx n o hHn).2 with h | h
      · omega
      · exact absurd h hW
  · intro x b hb
    simp only [atN_mergeL] at hb
    by_cases e : (look eff x.1).isSome = true
    · rw [if_pos e] at hb
      simp only [e, if_true]
      exact h1 x b hb
    · rw [if_neg e] at hb
      simp only [e, if_false, Bool.false_eq_true]
      exact hH.den x b hb
  · intro x y b c hb hc hne n
    simp only [atN_mergeL] at hb hc
    have mixed : ∀ x y b c, (look eff x.1).isSome = true → ¬ (look eff y.1).isSome = true → atN eff x = some b → atN S.own y = some c → H' x n = none ∨ H y n = none := by
      intro x y b c ex ey hb hc
      cases h4 : H' x n with
      | none => exact Or.inl rfl
      | some o =>
        right
        cases h5 : H y n with
        | none => rfl
        | some o' =>
          have hlt := hH.lt hc h5
          rcases (h3 x b hb n o h4).2 with h | ⟨z, d, ez, hz, h6⟩
          · have := h.1; omega
          · rcases hH.disj z y d c hz hc (fun e => ey (e ▸ ez)) n with h | h
            · exact absurd h h6
            · rw [h] at h5; cases h5
    by_cases ex : (look eff x.1).isSome = true
    · by_cases ey : (look eff y.1).isSome = true
      · simp only [ex, ey, if_true] at hb hc ⊢
        exact h2 x y b c hb hc hne n
      · simp only [ex, ey, if_true, if_false, Bool.false_eq_true] at hb hc ⊢
        exact mixed x y b c ex ey hb hc
    · by_cases ey : (look eff y.1).isSome = true
      · simp only [ex, ey, if_true, if_false, Bool.false_eq_true] at hb hc ⊢
        exact (mixed y x c b ey ex hc hb).symm
      · simp only [ex, ey, if_false, Bool.false_eq_true] at hb hc ⊢
        exact hH.disj x y b c hb hc hne n
  · intro x b hb n o hn
    simp only [atN_mergeL] at hb
    by_cases e : (look eff x.1).isSome = true
    · simp only [e, if_true] at hb hn
      obtain ⟨g1, g2⟩ := h3 x b hb n o hn
      refine ⟨g1, ?_⟩
      rcases g2 with g | ⟨z, d, ez, hz, h6⟩
      · exact Or.inl (Nat.le_trans hs.frame.size g.1)
      · cases h7 : H z n with
        | none => exact absurd h7 h6
        | some o' => exact (hH.sub z d hz n o' h7).2
    · simp only [e, if_false, Bool.false_eq_true] at hb hn
      obtain ⟨g1, g2⟩ := hH.sub x b hb n o hn
      refine ⟨?_, g2⟩
      rw [← g1]
      refine hk n (hH.lt hb hn) (fun y c ey hy => ?_)
      rcases hH.disj y x c b hy hb (fun e' => e (e' ▸ ey)) n with h | h
      · exact h
      · rw [h] at hn; cases hn
  · intro w'' hw''
    have hold : Holds E S w'' := by
      refine hF w'' (fun n hn hfree => ?_)
      have h4 : w'.heap[n]? = w.heap[n]? := hk n hn (fun x b _ hx => hfree x b hx)
      rw [← h4]
      refine hw'' n (Nat.lt_of_lt_of_le hn he.size) (fun x b hb => ?_)
      simp only [atN_mergeL] at hb
      by_cases e : (look eff x.1).isSome = true
      · simp only [e, if_true] at hb ⊢
        cases h5 : H' x n with
        | none => rfl
        | some o =>
          rcases (h3 x b hb n o h5).2 with h | ⟨z, d, ez, hz, h6⟩
          · have := h.1; omega
          · exact absurd (hfree z d hz) h6
      · simp only [e, if_false, Bool.false_eq_true] at hb ⊢
        exact hfree x b hb
    refine ⟨fun x A hA => ?_, hold.2⟩
    simp only [atN_mergeL] at hA
    by_cases e : (look arrs' x.1).isSome = true
    · rw [if_pos e] at hA
      refine hfit2 w'' hold (fun n hn => ?_) x A hA
      obtain ⟨g1, g2⟩ := hG n hn
      refine hw'' n g2 fun y b hb => ?_
      simp only [atN_mergeL] at hb
      by_cases e : (look eff y.1).isSome = true
      · simp only [e, if_true] at hb ⊢
        cases h5 : H' y n with
        | none => rfl
        | some o =>
          rcases (h3 y b hb n o h5).2 with h | ⟨z, d, ez, hz, h6⟩
          · exact absurd hn h.2
          · cases h7 : H z n with
            | none => exact absurd h7 h6
            | some o' => have := hH.lt hz h7; omega
      · simp only [e, if_false, Bool.false_eq_true] at hb ⊢
        cases h5 : H y n with
        | none => rfl
        | some o => have := hH.lt hb h5; omega
    · rw [if_neg e] at hA
      exact hold.1 x A hA

theorem Same.refl (E : Env) (x : Nm) : Same E E x := ⟨rfl, rfl, rfl, rfl⟩
theorem Same.trans {E1 E2 E3 : Env} {x : Nm} (h : Same E1 E2 x) (k : Same E2 E3 x) : Same E1 E3 x := ⟨k.1.trans h.1, k.2.1.trans h.2.1, k.2.2.1.trans h.2.2.1, k.2.2.2.trans h.2.2.2⟩
theorem Same.symm {E1 E2 : Env} {x : Nm} (h : Same E1 E2 x) : Same E2 E1 x := ⟨h.1.symm, h.2.1.symm, h.2.2.1.symm, h.2.2.2.symm⟩
theorem AgreeD.refl (D : Nat → Prop) (E : Env) : AgreeD D E E := fun x _ => Same.refl E x
theorem SatD.sat {D : Nat → Prop} (h : SatD D B W w0 E S a w) (h1 : OneC E) : Sat B W w0 E S a w := h E (.refl _ _) h1
theorem SatA.sat (h : SatA B W w0 E S a w) : Sat B W w0 E S a w := h.2 E (.refl _ _) h.1

/-- names that are new stand for what N says -/
def Env.mix (E N : Env) (lo nx : Nat) : Env :=
  ⟨fun x => if lo ≤ x.1 ∧ x.1 < lo + nx then N.ρ x else E.ρ x, fun x => if lo ≤ x.1 ∧ x.1 < lo + nx then N.κ x else E.κ x, fun x => if lo ≤ x.1 ∧ x.1 < lo + nx then N.ν x else E.ν x, fun x => if lo ≤ x.1 ∧ x.1 < lo + nx then N.χ x else E.χ x⟩
theorem mix_new {E N : Env} {lo nx : Nat} {x : Nm} (h : NewIds lo nx x.1) : Same N (E.mix N lo nx) x := by
  have h : lo ≤ x.1 ∧ x.1 < lo + nx := h
  exact ⟨by simp [Env.mix, h], by simp [Env.mix, h], by simp [Env.mix, h], by simp [Env.mix, h]⟩
theorem mix_old {E N : Env} {lo nx : Nat} {x : Nm} (h : ¬ NewIds lo nx x.1) : Same E (E.mix N lo nx) x := by
  have h : ¬ (lo ≤ x.1 ∧ x.1 < lo + nx) := h
  exact ⟨by simp only [Env.mix, if_neg h], by simp only [Env.mix, if_neg h], by simp only [Env.mix, if_neg h], by simp only [Env.mix, if_neg h]⟩
theorem mix_one {E N : Env} {lo nx : Nat} (h : OneC E) (h' : OneC N) : OneC (E.mix N lo nx) := by
  intro x
  simp only [Env.mix]
  split
  · exact h' x
  · exact h x

/-- what is known with the names in D known goes on, the new ones known too; S' knows at least what S does -/
theorem satD_after {S' : St} {D : Nat → Prop} {eff : Own} {arrs' : List (Nat × Fm ArrF)} {tmpl : SV} {nx : Nat} {v : Value} (hs : SatD D B W w0 E S' a w) (h1 : OneC E) (hD : ∀ i, NewIds S.nid nx i → ¬ D i)
    (hsub : ∀ E, Sat B W w0 E S' a w → Sat B W w0 E S a w) (hfit : ∀ E, Sat B W w0 E S' a w → FitsG B W E S w w' eff arrs' → FitsG B W E S' w w' eff arrs')
    {ks : List Nat} (hks : ∀ i ∈ ks, D i) (h : After B W w0 E ks S a w tmpl nx eff arrs' v w') (dst : Option Nat) (nid : Nat) :
    ∃ E', OneC E' ∧ SatD (fun i => D i ∨ NewIds S.nid nx i) B W w0 E' ⟨S'.nt, S'.putT dst tmpl, mergeL eff S'.own, mergeL arrs' S'.arrs, S'.facts, nid⟩ (a.put dst v) w' := by
  obtain ⟨N, hN, h⟩ := h
  refine ⟨E.mix N S.nid nx, mix_one h1 hN, fun E2 hE2 ho2 => ?_⟩
  have hs2 := hs E2 (fun x hx => (mix_old (fun hn => hD _ hn hx)).trans (hE2 x (Or.inl hx))) ho2
  obtain ⟨e, hf⟩ := h E2 (hsub E2 hs2) (fun x hx => hE2 x (Or.inl (hks _ hx)) |> fun q => (mix_old (N := N) (lo := S.nid) (nx := nx) (fun hn => hD _ hn (hks _ hx))).trans q) (fun x hx => (mix_new hx).trans (hE2 x (Or.inr hx)))
  rw [e]
  exact sat_after hs2 (hfit E2 hs2 hf) dst nid

theorem satA_after {eff : Own} {arrs' : List (Nat × Fm ArrF)} {tmpl : SV} {nx : Nat} {v : Value} (hs : SatA B W w0 E S a w)
    {ks : List Nat} (hks : ∀ i ∈ ks, i < S.nid) (h : After B W w0 E ks S a w tmpl nx eff arrs' v w') (dst : Option Nat) :
    ∃ E', SatA B W w0 E' ⟨S.nt, S.putT dst tmpl, mergeL eff S.own, mergeL arrs' S.arrs, S.facts, S.nid + nx⟩ (a.put dst v) w' := by
  obtain ⟨E', h1, h2⟩ := satD_after hs.2 hs.1 (fun i hi hlt => by have := hi.1; omega) (fun _ h => h) (fun _ _ h => h) hks h dst (S.nid + nx)
  refine ⟨E', h1, fun E2 hE2 => h2 E2 (fun x hx => hE2 x ?_)⟩
  rcases hx with hx | hx
  · exact Nat.lt_of_lt_of_le hx (Nat.le_add_right _ _)
  · exact hx.2

theorem sing_some {b n : Nat} {o o' : Obj} (h : sing b o n = some o') : n = b ∧ o' = o := by
  unfold sing at h
  split at h
  · next e => cases h; exact ⟨e, rfl⟩
  · cases h
/-- nothing is done to memory -/
theorem effOk_nil {own : Own} {H : Nm → PH} : EffOk E own H w w [] :=
  ⟨rfl, rfl, rfl, Nat.le_refl _, fun _ _ _ => rfl, fun _ => emp, fun x b h => by simp [atN, look] at h, fun x y b c h => by simp [atN, look] at h, fun x b h => by simp [atN, look] at h⟩
theorem fits_nil : Fits B W E S w w [] [] := ⟨fun _ _ => effOk_nil, fun _ _ x A h => by simp [atN, look] at h⟩

/-- one entry of a new block -/
theorem fits_alloc {o : Obj} {b : Blk} {i : Nat} (hb : b.den E (i, 0, 0) (sing w.heap.size o)) (w1 : World) (hw : w1 = w.alloc o ∨ w1 = w.drew.alloc o) : Fits B W E S w w1 [(i, .one b)] [] := by
  refine ⟨fun H hH => ?_, fun _ _ x A h => by simp [atN, look] at h⟩
  have e1 : w1.heap = w.heap.push o := by rcases hw with rfl | rfl <;> rfl
  have hat : ∀ x c, atN [(i, Fm.one b)] x = some c → x = (i, 0, 0) ∧ c = b := by
    rintro ⟨j, k, l⟩ c h
    simp only [atN, look] at h
    by_cases e : i = j
    · subst e
      simp only [if_true, Fm.get] at h
      split at h
      · next e =>
        obtain ⟨rfl, rfl⟩ := e
        cases h
        exact ⟨rfl, rfl⟩
      · cases h
    · rw [if_neg e] at h
      cases h
  refine ⟨by rcases hw with rfl | rfl <;> rfl, by rcases hw with rfl | rfl <;> rfl, by rcases hw with rfl | rfl <;> rfl, by rw [e1]; simp, fun n hn _ => ?_, fun _ => sing w.heap.size o, ?_, ?_, ?_⟩
  · rw [e1, Array.getElem?_push]
    rw [if_neg (by omega)]
  · intro x c h
    obtain ⟨rfl, rfl⟩ := hat x c h
    exact hb
  · intro x y c d hx hy hne
    obtain ⟨rfl, _⟩ := hat x c hx
    obtain ⟨rfl, _⟩ := hat y d hy
    exact absurd rfl hne
  · intro x c hx n o' hn
    obtain ⟨rfl, rfl⟩ := sing_some hn
    refine ⟨?_, Or.inl (Nat.le_refl _)⟩
    rw [e1, Array.getElem?_push]
    simp

/-- an entry is written: the block stays the same one -/
theorem fits_write {o : Obj} {b b' : Blk} {x : Nm} {p : Prop} {g : Nat} (hx : pkN S.own x = some (p, b)) (hp : p) (hg : g < w.heap.size) (hown : ∀ H, HeapOk B W E S.own H w → H x = sing g (w.heap[g]?.getD default))
    (hb : b'.den E x (sing g o)) (w1 : World) (h0 : w1.os = w.os ∧ w1.tape = w.tape ∧ w1.output = w.output) (hw : ∀ n, w1.heap[n]? = if n = g then some o else w.heap[n]?) : Fits B W E S w w1 (setN S.own x b') [] := by
  refine ⟨fun H hH => ?_, fun _ _ x A h => by simp [atN, look] at h⟩
  have hHx := hown H hH
  have hat := pkN_at hx hp
  have hsz : w.heap.size ≤ w1.heap.size := by
    rcases Nat.lt_or_ge w1.heap.size w.heap.size with h | h
    · have h1 := hw w1.heap.size
      rw [Array.getElem?_eq_none (Nat.le_refl _)] at h1
      split at h1
      · cases h1
      · rw [Array.getElem?_eq_getElem h] at h1; cases h1
    · exact h
  refine ⟨h0.1, h0.2.1, h0.2.2, hsz, fun n hn h => ?_, fun y => if y = x then sing g o else H y, ?_, ?_, ?_⟩
  · rw [hw n]
    split
    · next e =>
      subst e
      have := h x b ((setN_look hx b' x.1).2 rfl) hat
      rw [hHx] at this
      simp [sing] at this
    · rfl
  · intro y c hc
    rw [atN_setN hx hp] at hc
    split at hc
    · split at hc
      · next e => subst e; cases hc; simpa using hb
      · next e => simp only [e, if_false]; exact hH.den y c hc
    · cases hc
  · intro y z c d hc hd hne n
    rw [atN_setN hx hp] at hc hd
    have key : ∀ z d, z ≠ x → atN S.own z = some d → sing g o n = none ∨ H z n = none := by
      intro z d hz hd
      by_cases e : n = g
      · right
        rcases hH.disj x z b d hat hd (Ne.symm hz) n with h | h
        · rw [hHx, e] at h
          simp [sing] at h
        · exact h
      · left
        simp [sing, e]
    split at hc
    · split at hd
      · by_cases ey : y = x
        · by_cases ez : z = x
          · exact absurd (ey.trans ez.symm) hne
          · simp only [ey, ez, if_true, if_false] at hc hd ⊢
            exact key z d ez hd
        · by_cases ez : z = x
          · simp only [ey, ez, if_true, if_false] at hc hd ⊢
            exact (key y c ey hc).symm
          · simp only [ey, ez, if_false] at hc hd ⊢
            exact hH.disj y z c d hc hd hne n
      · cases hd
    · cases hc
  · intro y c hc n o' hn
    rw [atN_setN hx hp] at hc
    split at hc
    · next e1 =>
      by_cases ey : y = x
      · simp only [ey, if_true] at hn
        unfold sing at hn
        split at hn
        · next e =>
          subst e
          cases hn
          refine ⟨by rw [hw]; simp, Or.inr ⟨x, b, (setN_look hx b' x.1).2 rfl, hat, ?_⟩⟩
          rw [hHx]; simp [sing]
        · cases hn
      · simp only [ey, if_false] at hc hn
        have h4 := (hH.sub y c hc n o' hn).1
        have hng : n ≠ g := by
          intro e
          rcases hH.disj x y b c hat hc (Ne.symm ey) n with h | h
          · rw [hHx, e] at h
            simp [sing] at h
          · rw [h] at hn; cases hn
        refine ⟨by rw [hw, if_neg hng]; exact h4, Or.inr ⟨y, c, ?_, hc, ?_⟩⟩
        · exact (setN_look hx b' y.1).2 e1
        · rw [hn]; simp
    · cases hc
end
end Go.Proofs.Ytkjeedlkkpgopaa.Z
