
/- What one operation does to a state is what the model's run of it does: append, copy, new slices, as steps. No statement of the program. -/
import Derived.Test.YtkjeedlkkpgopaaZE
namespace Go.Proofs.Ytkjeedlkkpgopaa.Z
open Go Go.RowKit
set_option linter.unusedSimpArgs false

section
variable {P : Program} {T : TT} {B : Nat} {W : Nat → Prop} {w0 : World} {E : Env} {S : St} {a : Act} {w : World}

theorem emp_some {n : Nat} {o : Obj} (h : emp n = some o) : False := by cases h

/-- a new entry without a block -/
theorem fits_emp {b : Blk} {i : Nat} (hb : b.den E (i, 0, 0) emp) : Fits B W E S w w [(i, .one b)] [] := by
  refine ⟨fun H hH => ?_, fun _ _ x A h => by simp [atN, look] at h⟩
  have hat : ∀ x c, atN [(i, Fm.one b)] x = some c → x = (i, 0, 0) ∧ c = b := by
    rintro ⟨j, k, l⟩ c h
    simp only [atN, look] at h
    by_cases e : i = j
    · subst e
      simp only [if_true, Fm.get] at h
      split at h
      · next e =>
        obtain ⟨rfl, rfl⟩ := e
        cases h
        exact ⟨rfl, rfl⟩
      · cases h
    · rw [if_neg e] at h
      cases h
  refine ⟨rfl, rfl, rfl, Nat.le_refl _, fun _ _ _ => rfl, fun _ => emp, fun x c h => ?_, fun x y c d hx hy hne n => Or.inl rfl, fun x c hx n o hn => (emp_some hn).elim⟩
  obtain ⟨rfl, rfl⟩ := hat x c h
  exact hb

/-- an entry goes over into a new one -/
theorem fits_move {b b' : Blk} {y : Nm} {p : Prop} {i : Nat} {h' : PH} {w1 : World} (hy : pkN S.own y = some (p, b)) (hp : p) (hb : b'.den E (i, 0, 0) h') (h0 : w1.os = w.os ∧ w1.tape = w.tape ∧ w1.output = w.output)
    (hsz : w.heap.size ≤ w1.heap.size) (hk : ∀ H, HeapOk B W E S.own H w → ∀ n, n < w.heap.size → H y n = none → w1.heap[n]? = w.heap[n]?)
    (hs : ∀ H, HeapOk B W E S.own H w → ∀ n o, h' n = some o → w1.heap[n]? = some o ∧ (w.heap.size ≤ n ∨ H y n ≠ none)) : Fits B W E S w w1 ((i, .one b') :: setN S.own y .no) [] := by
  refine ⟨fun H hH => ?_, fun _ _ x A h => by simp [atN, look] at h⟩
  have hat := pkN_at hy hp
  have hkey : ∀ j, (look ((i, Fm.one b') :: setN S.own y .no) j).isSome = true ↔ (j = i ∨ j = y.1) := by
    intro j
    rw [look_cons]
    split
    · next e => subst e; simp
    · next e => rw [setN_look hy]; simp [Ne.symm e]
  have hget : ∀ x c, atN ((i, Fm.one b') :: setN S.own y .no) x = some c → (x = (i, 0, 0) ∧ c = b') ∨ (x.1 ≠ i ∧ x.1 = y.1 ∧ ((x = y ∧ c = .no) ∨ (x ≠ y ∧ atN S.own x = some c))) := by
    intro x c h
    unfold atN at h
    rw [look_cons] at h
    by_cases e : i = x.1
    · rw [if_pos e] at h
      left
      obtain ⟨j, k, l⟩ := x
      simp only [Fm.get] at h e
      split at h
      · next e2 =>
        obtain ⟨rfl, rfl⟩ := e2
        cases h
        subst e
        exact ⟨rfl, rfl⟩
      · cases h
    · rw [if_neg e] at h
      right
      have h2 : atN (setN S.own y .no) x = some c := h
      rw [atN_setN hy hp] at h2
      split at h2
      · next e1 =>
        refine ⟨Ne.symm e, e1, ?_⟩
        split at h2
        · next e2 => cases h2; exact Or.inl ⟨e2, rfl⟩
        · next e2 => exact Or.inr ⟨e2, h2⟩
      · cases h2
  -- an own block that is not y's lies in w1 as it did
  have hother : ∀ x c, x ≠ y → atN S.own x = some c → ∀ n o, H x n = some o → w1.heap[n]? = some o ∧ H y n = none ∧ n < w.heap.size := by
    intro x c hne hx n o hn
    have h1 := (hH.sub x c hx n o hn).1
    have hlt := hH.lt hx hn
    have hyn : H y n = none := by
      rcases hH.disj y x b c hat hx (Ne.symm hne) n with h | h
      · exact h
      · rw [h] at hn; cases hn
    exact ⟨by rw [hk H hH n hlt hyn]; exact h1, hyn, hlt⟩
  refine ⟨h0.1, h0.2.1, h0.2.2, hsz, fun n hn h => hk H hH n hn (h y b ((hkey _).2 (Or.inr rfl)) hat), fun x => if x.1 = i then h' else if x = y then emp else H x, ?_, ?_, ?_⟩
  · intro x c hc
    rcases hget x c hc with ⟨rfl, rfl⟩ | ⟨e1, e2, ⟨rfl, rfl⟩ | ⟨e3, h⟩⟩
    · simpa using hb
    · simp only [e1, if_false, if_true, Blk.den]
    · simp only [e1, e3, if_false]
      exact hH.den x c h
  · intro x z c d hc hd hne n
    have key : ∀ z d, z ≠ y → atN S.own z = some d → h' n = none ∨ H z n = none := by
      intro z d hz hd
      cases e1 : h' n with
      | none => exact Or.inl rfl
      | some o =>
        right
        cases e2 : H z n with
        | none => rfl
        | some o' =>
          obtain ⟨_, h3, h4⟩ := hother z d hz hd n o' e2
          rcases (hs H hH n o e1).2 with h5 | h5
          · omega
          · exact absurd h3 h5
    rcases hget x c hc with ⟨rfl, rfl⟩ | ⟨e1, e2, ⟨rfl, rfl⟩ | ⟨e3, h⟩⟩
    · rcases hget z d hd with ⟨rfl, rfl⟩ | ⟨f1, f2, ⟨rfl, rfl⟩ | ⟨f3, h2⟩⟩
      · exact absurd rfl hne
      · right; simp only [f1, if_false, if_true]; rfl
      · simp only [f1, f3, if_true, if_false]
        exact key z d f3 h2
    · left; simp only [e1, if_false, if_true]; rfl
    · rcases hget z d hd with ⟨rfl, rfl⟩ | ⟨f1, f2, ⟨rfl, rfl⟩ | ⟨f3, h2⟩⟩
      · simp only [e1, e3, if_true, if_false]
        exact (key x c e3 h).symm
      · right; simp only [f1, if_false, if_true]; rfl
      · simp only [e1, e3, f1, f3, if_false]
        exact hH.disj x z c d h h2 hne n
  · intro x c hc n o hn
    rcases hget x c hc with ⟨rfl, rfl⟩ | ⟨e1, e2, ⟨rfl, rfl⟩ | ⟨e3, h⟩⟩
    · simp only [if_true] at hn
      obtain ⟨g1, g2⟩ := hs H hH n o hn
      exact ⟨g1, g2.imp id fun h => ⟨y, b, (hkey _).2 (Or.inr rfl), hat, h⟩⟩
    · simp only [e1, if_false, if_true] at hn
      exact (emp_some hn).elim
    · simp only [e1, e3, if_false] at hn
      obtain ⟨g1, g2, g3⟩ := hother x c e3 h n o hn
      exact ⟨g1, Or.inr ⟨x, c, (hkey _).2 (Or.inr e2), h, by rw [hn]; simp⟩⟩

/-- a new name's reading -/
def one1 (b k : Nat) (nil : Bool) : Env := ⟨fun _ => b, fun _ => k, fun _ => nil, fun _ => .bool true⟩
theorem one1_one (b k : Nat) (nil : Bool) : OneC (one1 b k nil) := fun _ => rfl
theorem one1_at {b k : Nat} {nil : Bool} {i : Nat} (h : AgreeD (NewIds i 1) (one1 b k nil) E) : E.ρ (i, 0, 0) = b ∧ E.κ (i, 0, 0) = k ∧ E.ν (i, 0, 0) = nil := by
  have := h (i, 0, 0) ⟨Nat.le_refl _, by simp⟩
  exact ⟨this.1, this.2.1, this.2.2.1⟩

theorem ar_den {i n s ty : Nat} {at_ : Nat → List SC} {cells : Array Value} {b k : Nat} (hE : E.ρ (i, 0, 0) = b ∧ E.κ (i, 0, 0) = k ∧ E.ν (i, 0, 0) = false) (hn : n ≤ k) (hk : k ≤ maxLen) (hsz : cells.size = k * s) (hc : ArCells E n s at_ cells) :
    Blk.den E (i, 0, 0) (.ar n s at_ ty) (sing b (.cells cells ty (0, 0))) := by
  obtain ⟨h1, h2, h3⟩ := hE
  simp only [Blk.den]
  exact Or.inr ⟨h3, by omega, by omega, cells, by rw [h1], by rw [h2]; exact hsz, hc⟩

theorem sl_parts {x : Nm} {s n : Nat} {E E2 : Env} (h : (SC.sl x s 0 n none).den E = (SC.sl x s 0 n none).den E2) : E2.κ x = E.κ x ∧ E2.ν x = E.ν x ∧ (E.ν x = false → E2.ρ x = E.ρ x) := by
  rw [den_sl, den_sl] at h
  simp only [Value.slice.injEq, true_and, Option.getD_none, Nat.sub_zero] at h
  obtain ⟨h1, h2⟩ := h
  cases e1 : E.ν x <;> cases e2 : E2.ν x <;> rw [e1, e2] at h1 <;> simp at h1
  · exact ⟨h2.symm, rfl, fun _ => h1.symm⟩
  · exact ⟨h2.symm, rfl, fun h => by cases h⟩

theorem own_rd {own : Own} {H : Nm → PH} (hH : HeapOk B W E own H w) {x : Nm} {k s ty n o : Nat} {f : Nat → List SC} {c : Nat} (h : atN own x = some (.ar k s f ty)) (hon : o + n ≤ k) : RdAt E w (.slice (if E.ν x = true then none else some ⟨E.ρ x, o * s, none⟩) n c) s n (fun e => f (o + e)) := by
  refine ⟨_, _, rfl, ?_⟩
  rcases Nat.eq_zero_or_pos n with h0 | h0
  · exact Or.inl h0
  · right
    obtain ⟨hν, _, _⟩ := ar_cell hH h (show o < k by omega)
    refine ⟨E.ρ x, o * s, by rw [hν]; rfl, fun e he => ?_⟩
    obtain ⟨_, h1, h2⟩ := ar_cell hH h (show o + e < k by omega)
    refine ⟨h1, fun j u hu => ?_⟩
    rw [← Nat.add_mul]
    exact h2 j u hu

/-- a new row of so many -/
def Grown (P : Program) (E : Env) (w : World) (t u ty e : TypeId) (zs size : Nat) (sv xv : Value) (n m cap : Nat) (f g : Nat → List SC) : Prop :=
  ∃ cells, (Builtin.append_ #[t, u] ty #[sv, xv]).run P w = .ok (.slice (some ⟨w.heap.size, 0, none⟩) (n + m) (grownCap w (n + m) cap e)) (w.drew.alloc (.cells cells e)) ∧
      (zs = size → cells.size = grownCap w (n + m) cap e * size) ∧ ArCells E (n + m) size (appAt n f g) cells

/-- append -/
theorem app_ok {t u ty e e' : Nat} {s x : Operand} {is ix : IX} {ti tu te : TI} (hT : TOk P T) (ht : look T t = some ti) (htd : ti.desc = .slice e) (hu : look T u = some tu) (hud : tu.desc = .slice e') (he : look T e = some te)
    (hs1 : opd s = some is) (hx1 : opd x = some ix) {vc : Prop} {out : Out} (h : (stepOut (.app e te.size te.bytes (scs te.zero.cells) is ix) S).Sel vc out) (hvc : vc) (hs : Sat B W w0 E S a w) :
    ∃ v w', RunsTo ((do pure (Next.value (← Builtin.append_ #[t, u] ty #[a.eval s, a.eval x])) : Sem Next).run P w) v w' ∧ After B W w0 E [] S a w out.val out.cnt out.eff out.arrs v w' := by
  obtain ⟨hut, _⟩ := ti_parts hT ht
  obtain ⟨huu, _⟩ := ti_parts hT hu
  obtain ⟨_, i, hi, hz, hsz, hby⟩ := ti_parts hT he
  rw [htd] at hut
  rw [hud] at huu
  have hzl : ∀ {n : Nat}, len' (scs te.zero.cells) = n → te.zero.cells.size = n := by
    intro n h; rw [len'_eq] at h; simpa [scs] using h
  simp only [stepOut] at h
  split at h
  · next xv hxv =>
    split at h
    · next q m g hsrc =>
      split at h
      · next hsv =>
        -- onto nil
        obtain ⟨rfl, rfl⟩ := h
        obtain ⟨hq, hzc, hpos, hb, hm⟩ := hvc
        have hzc := hzl hzc
        have rd : ∀ E, Sat B W w0 E S a w → RdAt E w (a.eval x) i.size m g := fun E hs => by rw [opd_den hs hx1 hxv, hsz]; exact slSrc_ok hsrc hq hs
        have hes : a.eval s = .slice none 0 0 := by rw [opd_den hs hs1 hsv, den_c, den_v]
        rw [hes]
        rcases Nat.eq_zero_or_pos m with h0 | h0
        · subst h0
          have hrun : ∀ E, Sat B W w0 E S a w → (Builtin.append_ #[t, u] ty #[.slice none 0 0, a.eval x]).run P w = .ok (.slice none 0 0) w := by
            intro E hs
            have hsrc := (rd E hs).src (P := P) huu
            simp [Builtin.append_, run_underlying hut, run_underlying huu, sizeOf, typeInfo, hi, hsrc.len, hsrc.cells]
          refine det_after (one1 0 0 true) (one1_one _ _ _) ⟨_, _, Or.inl (run_val (hrun E hs))⟩ fun E2 hs2 hag => ⟨w, Or.inl ?_, ?_⟩
          · obtain ⟨_, h2, h3⟩ := one1_at hag
            rw [run_val (hrun E2 hs2), den_c, den_sl, h2, h3]; rfl
          · obtain ⟨_, h2, h3⟩ := one1_at hag
            exact fits_emp (by simp only [Blk.den]; exact Or.inl ⟨h3, h2, by trivial, by trivial⟩)
        · have hgrow := fun E hs => app_grow (E := E) (w := w) (ty := ty) hut huu hi hz (ba := none) (n := 0) (cap := 0) (f := fun _ => []) ⟨none, 0, rfl, Or.inl rfl⟩ (rd E hs) (by omega) (Or.inr ⟨rfl, by rw [hby, Nat.zero_add]; exact hb⟩) (by omega)
          obtain ⟨cells, hr, _⟩ := hgrow E hs
          have hge := grownCap_ge w (0 + m) 0 e
          have hcm := grownCap_le_maxLen w (0 + m) 0 e (by omega)
          refine det_after (one1 w.heap.size (grownCap w (0 + m) 0 e) false) (one1_one _ _ _) ⟨_, _, Or.inl (run_val hr)⟩ fun E2 hs2 hag => ?_
          obtain ⟨cells2, hr2, hc2, hat2⟩ := hgrow E2 hs2
          have hE := one1_at hag
          refine ⟨w.drew.alloc (.cells cells2 e), Or.inl ?_, fits_alloc (o := .cells cells2 e) (ar_den hE (n := m) (by omega) hcm ?_ ?_) _ (Or.inr rfl)⟩
          · rw [run_val hr2, den_c, den_sl, hE.1, hE.2.1, hE.2.2]; simp
          · rw [← hsz]; exact hc2 (by rw [hzc, hsz])
          · rw [← hsz]
            intro k hk
            have := hat2 k (by omega)
            have e0 : appAt 0 (fun _ => []) g k = g k := by simp [appAt]
            rw [e0] at this
            exact this
      · next y s' n hsv =>
        split at h
        · next p k s'' f t' hlook =>
          -- onto a slice of the state's own
          obtain ⟨rfl, rfl⟩ := h
          obtain ⟨hp, hq, rfl, rfl, rfl, hzc, hpos, hnk, hb, hm⟩ := hvc
          have hzc := hzl hzc
          rw [← hsz] at hlook hpos
          have rd : ∀ E, Sat B W w0 E S a w → RdAt E w (a.eval x) i.size m g := fun E hs => by rw [opd_den hs hx1 hxv, hsz]; exact slSrc_ok hsrc hq hs
          have hes : ∀ E, Sat B W w0 E S a w → a.eval s = .slice (if E.ν y = true then none else some ⟨E.ρ y, 0, none⟩) n (E.κ y) := fun E hs => by
            rw [opd_den hs hs1 hsv, den_c, den_sl]; simp
          have same : ∀ E2, Sat B W w0 E2 S a w → E2.κ y = E.κ y ∧ E2.ν y = E.ν y ∧ (E.ν y = false → E2.ρ y = E.ρ y) := fun E2 hs2 =>
            sl_parts ((opd_den hs hs1 hsv).symm.trans (opd_den hs2 hs1 hsv))
          have hmem : ∀ E, Sat B W w0 E S a w → ∃ H, HeapOk B W E S.own H w := fun E hs => let ⟨H, hH, _⟩ := hs.mem; ⟨H, hH⟩
          by_cases hroom : n + m ≤ E.κ y
          · cases hν : E.ν y with
            | true =>
              -- nil, and nothing comes
              have hzero : ∀ E2, Sat B W w0 E2 S a w → E2.κ y = 0 ∧ k = 0 := by
                intro E2 hs2
                obtain ⟨H, hH⟩ := hmem E2 hs2
                rcases ar_heap hH (pkN_at hlook hp) with ⟨_, h2, h3, _⟩ | ⟨h2, _⟩
                · exact ⟨h2, h3⟩
                · rw [(same E2 hs2).2.1, hν] at h2; cases h2
              have hk0 := (hzero E hs).1
              have hn0 : n = 0 := by omega
              have hm0 : m = 0 := by omega
              subst hn0 hm0
              have hrun : ∀ E2, Sat B W w0 E2 S a w → (Builtin.append_ #[t, u] ty #[a.eval s, a.eval x]).run P w = .ok (.slice none 0 0) w := by
                intro E2 hs2
                have hsrc := (rd E2 hs2).src (P := P) huu
                rw [hes E2 hs2, (same E2 hs2).2.1, hν, (hzero E2 hs2).1]
                simp [Builtin.append_, run_underlying hut, run_underlying huu, sizeOf, typeInfo, hi, hsrc.len, hsrc.cells]
              refine det_after (one1 0 0 true) (one1_one _ _ _) ⟨_, _, Or.inl (run_val (hrun E hs))⟩ fun E2 hs2 hag => ⟨w, Or.inl ?_, ?_⟩
              · obtain ⟨_, h2, h3⟩ := one1_at hag
                rw [run_val (hrun E2 hs2), den_c, den_sl, h2, h3]; rfl
              · obtain ⟨_, h2, h3⟩ := one1_at hag
                exact fits_move hlook hp (h' := emp) (by simp only [Blk.den]; exact Or.inl ⟨h3, h2, by trivial, by trivial⟩) ⟨rfl, rfl, rfl⟩ (Nat.le_refl _) (fun _ _ _ _ _ => rfl) (fun _ _ n o hn => (emp_some hn).elim)
            | false =>
              have hbl : ∀ E2, Sat B W w0 E2 S a w → k ≤ E2.κ y ∧ E2.κ y ≤ maxLen ∧ ∃ cells, w.heap[E2.ρ y]? = some (.cells cells t' (0, 0)) ∧ cells.size = E2.κ y * i.size ∧ ArCells E2 k i.size f cells ∧ ∀ H, HeapOk B W E2 S.own H w → H y = sing (E2.ρ y) (.cells cells t' (0, 0)) := by
                intro E2 hs2
                obtain ⟨H, hH⟩ := hmem E2 hs2
                rcases ar_heap hH (pkN_at hlook hp) with ⟨h2, _⟩ | ⟨h2, h3, h4, cells, h5, h6, h7, h8⟩
                · rw [(same E2 hs2).2.1, hν] at h2; cases h2
                · refine ⟨h3, h4, cells, h6, h7, h8, fun H' hH' => ?_⟩
                  rcases ar_heap hH' (pkN_at hlook hp) with ⟨g2, _⟩ | ⟨_, _, _, cells', g5, g6, _, _⟩
                  · rw [h2] at g2; cases g2
                  · rw [h6] at g6
                    cases g6
                    exact g5
              have hrun : ∀ E2 (hs2 : Sat B W w0 E2 S a w) cells, w.heap[E2.ρ y]? = some (.cells cells t' (0, 0)) → cells.size = E2.κ y * i.size →
                  (Builtin.append_ #[t, u] ty #[a.eval s, a.eval x]).run P w = .ok (.slice (some ⟨E2.ρ y, 0, none⟩) (n + m) (E2.κ y)) (w.setRow (E2.ρ y) (cells.toList.take (n * i.size) ++ cellsOf E2 m g ++ cells.toList.drop (n * i.size + (cellsOf E2 m g).length)).toArray) := by
                intro E2 hs2 cells h1 h2
                rw [hes E2 hs2, (same E2 hs2).2.1, hν]
                exact app_room hut huu hi h1 h2 (rd E2 hs2) (by rw [(same E2 hs2).1]; exact hroom)
              obtain ⟨_, _, cells, h1, h2, _, _⟩ := hbl E hs
              refine det_after (one1 (E.ρ y) (E.κ y) false) (one1_one _ _ _) ⟨_, _, Or.inl (run_val (hrun E hs cells h1 h2))⟩ fun E2 hs2 hag => ?_
              obtain ⟨hk2, hm2, cells2, g1, g2, g3, g4⟩ := hbl E2 hs2
              have hE := one1_at hag
              have hsame := same E2 hs2
              have eρ := hsame.2.2 hν
              have hlen : (cellsOf E2 m g).length = m * i.size := cellsOf_len (rd E2 hs2).lens
              have hle : (n + m) * i.size ≤ E2.κ y * i.size := Nat.mul_le_mul_right _ (by rw [hsame.1]; exact hroom)
              rw [Nat.add_mul] at hle
              refine ⟨w.setRow (E2.ρ y) (cells2.toList.take (n * i.size) ++ cellsOf E2 m g ++ cells2.toList.drop (n * i.size + (cellsOf E2 m g).length)).toArray, Or.inl ?_, fits_move hlook hp (h' := sing (E2.ρ y) (.cells (cells2.toList.take (n * i.size) ++ cellsOf E2 m g ++ cells2.toList.drop (n * i.size + (cellsOf E2 m g).length)).toArray t' (0, 0))) ?_ ⟨rfl, rfl, rfl⟩ ?_ ?_ ?_⟩
              · rw [run_val (hrun E2 hs2 cells2 g1 g2), den_c, den_sl, hE.1, hE.2.1, hE.2.2, eρ, hsame.1]; simp
              · rw [← hsz]
                refine ar_den (by rw [eρ]; exact hE) (by omega) (by rw [← hsame.1]; exact hm2) ?_ ?_
                · simp only [List.size_toArray, List.length_append, List.length_take, List.length_drop, Array.length_toList, hlen]
                  rw [hsame.1] at g2 hle
                  omega
                · have hfl : ∀ e, e < n → (f e).length = i.size := fun e he => (g3 e (by omega)).1
                  have hcl := cellsOf_len (E := E2) hfl
                  refine arCells_of (appAt_len hfl (rd E2 hs2).lens) (fun r hr j c hc => ?_) (fun r c hc => ?_)
                  · unfold appAt at hc
                    split at hc
                    · next h => exact ((g3 r (by omega)).2 j c hc).2
                    · exact (rd E2 hs2).one _ (by omega) j c hc
                  · rw [cellsOf_app] at hc
                    have hlt := (List.getElem?_eq_some_iff.1 hc).1
                    rw [List.length_append, hcl, hlen] at hlt
                    simp only [List.getElem?_toArray]
                    rw [List.getElem?_append_left (by simp only [List.length_append, List.length_take, Array.length_toList, hlen]; omega)]
                    by_cases hr : r < n * i.size
                    · rw [List.getElem?_append_left (by rw [hcl]; exact hr)] at hc
                      obtain ⟨e1, j, c1, he1, hj, rfl, hc1, rfl⟩ := cellsOf_inv hfl hc
                      rw [List.getElem?_append_left (by simp only [List.length_take, Array.length_toList]; omega), List.getElem?_take, if_pos hr, Array.getElem?_toList]
                      exact ((g3 e1 (by omega)).2 j c1 hc1).1
                    · rw [List.getElem?_append_right (by rw [hcl]; omega), hcl] at hc
                      rw [List.getElem?_append_right (by simp only [List.length_take, Array.length_toList]; omega)]
                      simp only [List.length_take, Array.length_toList]
                      rw [Nat.min_eq_left (by omega)]
                      exact hc
              · show w.heap.size ≤ (w.setRow _ _).heap.size
                simp [World.setRow]
              · intro H hH r hr hHr
                have e1 := g4 H hH
                refine setRow_other _ _ _ _ fun e2 => ?_
                rw [e1, e2] at hHr
                simp [sing] at hHr
              · intro H hH r o hr
                obtain ⟨rfl, rfl⟩ := sing_some hr
                refine ⟨setRow_heap w _ _ _ _ _ g1, Or.inr ?_⟩
                rw [g4 H hH]
                simp [sing]
          · -- there is no room
            have hgrow : ∀ E2, Sat B W w0 E2 S a w → Grown P E2 w t u ty t' te.zero.cells.size i.size (a.eval s) (a.eval x) n m (E2.κ y) f g := fun E2 hs2 => by
              obtain ⟨H, hH⟩ := hmem E2 hs2
              rw [hes E2 hs2]
              have hr := own_rd hH (c := E2.κ y) (pkN_at hlook hp) (show 0 + n ≤ k by omega)
              simp only [Nat.zero_add, Nat.zero_mul] at hr
              exact app_grow (E := E2) (w := w) (ty := ty) (u := u) hut huu hi hz hr (rd E2 hs2) (by rw [(same E2 hs2).1]; omega) (Or.inl (by rw [hby]; exact hb)) hm
            obtain ⟨cells, hr, _⟩ := hgrow E hs
            have hge := grownCap_ge w (n + m) (E.κ y) t'
            have hcm := grownCap_le_maxLen w (n + m) (E.κ y) t' (by omega)
            refine det_after (one1 w.heap.size (grownCap w (n + m) (E.κ y) t') false) (one1_one _ _ _) ⟨_, _, Or.inl (run_val hr)⟩ fun E2 hs2 hag => ?_
            obtain ⟨cells2, hr2, hc2, hat2⟩ := hgrow E2 hs2
            have hE := one1_at hag
            rw [(same E2 hs2).1] at hr2 hc2
            refine ⟨w.drew.alloc (.cells cells2 t'), Or.inl ?_, fits_move hlook hp (h' := sing w.heap.size (.cells cells2 t' (0, 0))) (ar_den hE (by omega) hcm ?_ ?_) ⟨rfl, rfl, rfl⟩ ?_ ?_ ?_⟩
            · rw [run_val hr2, den_c, den_sl, hE.1, hE.2.1, hE.2.2]; simp
            · rw [← hsz]; exact hc2 (by rw [hzc, hsz])
            · rw [← hsz]; exact hat2
            · simp
            · intro H hH r hr _
              exact Below.heap_alloc w.drew _ _ hr
            · intro H hH r o hr
              obtain ⟨rfl, rfl⟩ := sing_some hr
              exact ⟨heap_alloc_new w.drew _, Or.inl (Nat.le_refl _)⟩
        · exact h.elim
      · next y s' o n c hsv =>
        split at h
        · next p k s'' f t' hlook =>
          -- onto a slice without spare room
          obtain ⟨rfl, rfl⟩ := h
          obtain ⟨hp, hq, rfl, rfl, hzc, hpos, hnk, rfl, hm0, hb, hm⟩ := hvc
          have hzc := hzl hzc
          rw [← hsz] at hlook hpos
          have rd : ∀ E, Sat B W w0 E S a w → RdAt E w (a.eval x) i.size m g := fun E hs => by rw [opd_den hs hx1 hxv, hsz]; exact slSrc_ok hsrc hq hs
          have hgrow : ∀ E2, Sat B W w0 E2 S a w → Grown P E2 w t u ty e te.zero.cells.size i.size (a.eval s) (a.eval x) c m c (fun e => f (o + e)) g := fun E2 hs2 => by
            obtain ⟨H, hH, _⟩ := hs2.mem
            have hr := own_rd hH (c := c) (pkN_at hlook hp) hnk
            have e1 : a.eval s = .slice (if E2.ν y = true then none else some ⟨E2.ρ y, o * i.size, none⟩) c c := by
              rw [opd_den hs2 hs1 hsv, den_c, den_sl, hsz]; rfl
            rw [e1]
            exact app_grow (E := E2) (w := w) (ty := ty) (u := u) hut huu hi hz hr (rd E2 hs2) (by omega) (Or.inl (by rw [hby]; exact hb)) hm
          obtain ⟨cells, hr, _⟩ := hgrow E hs
          have hge := grownCap_ge w (c + m) c e
          have hcm := grownCap_le_maxLen w (c + m) c e (by omega)
          refine det_after (one1 w.heap.size (grownCap w (c + m) c e) false) (one1_one _ _ _) ⟨_, _, Or.inl (run_val hr)⟩ fun E2 hs2 hag => ?_
          obtain ⟨cells2, hr2, hc2, hat2⟩ := hgrow E2 hs2
          have hE := one1_at hag
          refine ⟨w.drew.alloc (.cells cells2 e), Or.inl ?_, fits_alloc (o := .cells cells2 e) (ar_den hE (by omega) hcm ?_ ?_) _ (Or.inr rfl)⟩
          · rw [run_val hr2, den_c, den_sl, hE.1, hE.2.1, hE.2.2]; simp
          · rw [← hsz]; exact hc2 (by rw [hzc, hsz])
          · rw [← hsz]; exact hat2
        · exact h.elim
      · next y s' o n c hsv =>
        split at h
        · next p A hlook =>
          -- onto a borrowed slice without spare room
          obtain ⟨rfl, rfl⟩ := h
          obtain ⟨hp, hq, rfl, hAs, hzc, hpos, hnk, rfl, hm0, hb, hm⟩ := hvc
          have hzc := hzl hzc
          have rd : ∀ E, Sat B W w0 E S a w → RdAt E w (a.eval x) i.size m g := fun E hs => by rw [opd_den hs hx1 hxv, hsz]; exact slSrc_ok hsrc hq hs
          have hgrow : ∀ E2, Sat B W w0 E2 S a w → Grown P E2 w t u ty e te.zero.cells.size i.size (a.eval s) (a.eval x) c m c (fun e => A.at_ (o + e)) g := fun E2 hs2 => by
            have hr := slSrc_ok (s := te.size) (v := .c (.xs y te.size o c (some c))) (m := c) (q := p ∧ te.size = te.size ∧ A.size = te.size ∧ o + c ≤ A.len) (g := fun e => A.at_ (o + e)) (by simp only [slSrc, hlook]) ⟨hp, rfl, hAs, hnk⟩ hs2
            rw [← hsz] at hr
            have e1 : a.eval s = (SV.c (.xs y te.size o c (some c))).den E2 := opd_den hs2 hs1 hsv
            rw [← hsz] at e1
            rw [← e1] at hr
            obtain ⟨ba, cap, e2, h3⟩ := hr
            have e3 : cap = c := by
              rw [e1] at e2
              obtain ⟨ba', cap', hχ, _⟩ := hs2.arr (pkN_at hlook hp)
              rw [den_c] at e2
              simp only [SC.den, hχ] at e2
              cases ba' <;> simp at e2 <;> exact e2.2.symm
            subst e3
            rw [e2]
            exact app_grow (E := E2) (w := w) (ty := ty) (u := u) hut huu hi hz (ba := ba) ⟨ba, cap, rfl, h3⟩ (rd E2 hs2) (by omega) (Or.inl (by rw [hby]; exact hb)) hm
          obtain ⟨cells, hr, _⟩ := hgrow E hs
          have hge := grownCap_ge w (c + m) c e
          have hcm := grownCap_le_maxLen w (c + m) c e (by omega)
          refine det_after (one1 w.heap.size (grownCap w (c + m) c e) false) (one1_one _ _ _) ⟨_, _, Or.inl (run_val hr)⟩ fun E2 hs2 hag => ?_
          obtain ⟨cells2, hr2, hc2, hat2⟩ := hgrow E2 hs2
          have hE := one1_at hag
          refine ⟨w.drew.alloc (.cells cells2 e), Or.inl ?_, fits_alloc (o := .cells cells2 e) (ar_den hE (by omega) hcm ?_ ?_) _ (Or.inr rfl)⟩
          · rw [run_val hr2, den_c, den_sl, hE.1, hE.2.1, hE.2.2]; simp
          · rw [← hsz]; exact hc2 (by rw [hzc, hsz])
          · rw [← hsz]; exact hat2
        · exact h.elim
      · exact h.elim
    · exact h.elim
  · exact h.elim
end
end Go.Proofs.Ytkjeedlkkpgopaa.Z
