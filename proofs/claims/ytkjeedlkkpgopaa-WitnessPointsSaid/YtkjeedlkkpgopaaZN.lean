
/- Lists that are given up for writing; functions that answer such. No statement of the program. -/
import Derived.Test.YtkjeedlkkpgopaaZM
namespace Go.Proofs.Ytkjeedlkkpgopaa.Z
open Go Go.RowKit
set_option linter.unusedSimpArgs false
set_option linter.unusedVariables false

/-- slots, where a list's slice is told by its new name -/
def TmpsFz (i s n z : Nat) (tmps : List (Nat × SV)) : List (Nat × SV) → Prop
  | [] => True
  | (t, v) :: r => (look tmps t = some v ∨ (look tmps t = some (.c (.sl (i, 0, 0) s 0 n none)) ∧ v = .c (.xv (z, 0, 0)))) ∧ TmpsFz i s n z tmps r
theorem tmpsFz_at {i s n z : Nat} {tmps : List (Nat × SV)} : ∀ {l : List (Nat × SV)}, TmpsFz i s n z tmps l → ∀ {t : Nat} {v : SV}, look l t = some v → (look tmps t = some v ∨ (look tmps t = some (.c (.sl (i, 0, 0) s 0 n none)) ∧ v = .c (.xv (z, 0, 0))))
  | [], _, t, v, h => by cases h
  | (k, u) :: r, hl, t, v, h => by
    rw [look_cons] at h
    split at h
    · next e => subst e; cases h; exact hl.1
    · exact tmpsFz_at hl.2 h

theorem atN_drop {ks : List Nat} {own : Own} {x : Nm} {b : Blk} (h : atN (dropL ks own) x = some b) : ¬ x.1 ∈ ks ∧ atN own x = some b := by
  obtain ⟨F, hF, hg⟩ := atN_some h
  obtain ⟨h1, h2⟩ := look_dropL hF
  exact ⟨h1, by unfold atN; rw [h2]; exact hg⟩

/-- an own list is given up for writing: from then on it is one that is read -/
theorem freeze_sat {C : Ctx} {nt : Nat} {tmps tmps' : List (Nat × SV)} {own : Own} {arrs : List (Nat × Fm ArrF)} {facts : List (Env → World → Prop)} {nid : Nat} (i k s n ty : Nat) (at_ : Nat → List SC)
    (hi : look own i = some (.one (.ar k s at_ ty))) (hn : n ≤ k) (hid : i < nid) (ht : TmpsFz i s n nid tmps tmps') {E : Env} {a : Act} {w : World} (hs : SatA C.B C.W C.w0 E ⟨nt, tmps, own, arrs, facts, nid⟩ a w) :
    ∃ E', SatA C.B C.W C.w0 E' ⟨nt, tmps', dropL [i] own, (nid, .one ⟨n, s, at_, 0⟩) :: arrs, facts, nid + 1⟩ a w ∧ (∀ x : Nm, x.1 < nid → Same E E' x) ∧ E'.χ (nid, 0, 0) = (SC.sl (i, 0, 0) s 0 n none).den E := by
  refine ⟨⟨E.ρ, E.κ, E.ν, fun x => if x.1 = nid then (SC.sl (i, 0, 0) s 0 n none).den E else E.χ x⟩, ⟨fun x => ?_, fun E2 hE2 ho2 => ?_⟩, fun x hx => ⟨rfl, rfl, rfl, by simp only [show x.1 ≠ nid by omega, if_false]⟩, by simp only [if_true]⟩
  · simp only
    split
    · simp only [SC.den]; rfl
    · exact hs.1 x
  have hs2 := hs.2 E2 (fun x hx => by
    have h := hE2 x (Nat.lt_succ_of_lt hx)
    have hne : x.1 ≠ nid := by have : x.1 < nid := hx; omega
    simp only [Same, hne, if_false] at h
    exact h) ho2
  have hsi := hE2 (i, 0, 0) (Nat.lt_succ_of_lt hid)
  have hsz := hE2 (nid, 0, 0) (Nat.lt_succ_self nid)
  have hz : E2.χ (nid, 0, 0) = (SC.sl (i, 0, 0) s 0 n none).den E2 := by
    have h := hsz.2.2.2
    simp only [if_true] at h
    rw [h]
    simp only [SC.den]
    rw [hsi.1, hsi.2.1, hsi.2.2.1]
  obtain ⟨H, hH, hF⟩ := hs2.mem
  have hat : atN own (i, 0, 0) = some (.ar k s at_ ty) := by simp [atN, hi, Fm.get]
  have hsub : ∀ x b, atN (dropL [i] own) x = some b → x.1 ≠ i ∧ atN own x = some b := fun x b h => by
    obtain ⟨h1, h2⟩ := atN_drop h
    exact ⟨fun e => h1 (by simp [e]), h2⟩
  refine ⟨hs2.size, hs2.defers, ho2, fun t v h => ?_, hs2.frame, H, ⟨fun x b hb => hH.den x b (hsub x b hb).2, fun x y b c hb hc => hH.disj x y b c (hsub x b hb).2 (hsub y c hc).2, fun x b hb => hH.sub x b (hsub x b hb).2⟩, fun w' hw' => ?_⟩
  · rcases tmpsFz_at ht h with h1 | ⟨h1, rfl⟩
    · exact hs2.tmps t v h1
    · obtain ⟨g1, h2⟩ := hs2.tmps t _ h1
      refine ⟨g1, ?_⟩
      rw [h2, den_c, den_c, ← hz]
      simp only [SC.den]
  have hold := hF w' (fun n hn hfr => hw' n hn (fun x b hb => hfr x b (hsub x b hb).2))
  refine ⟨fun x A hA => ?_, hold.2⟩
  rcases atN_one hA with ⟨rfl, rfl⟩ | hA
  · rcases ar_heap hH hat with ⟨h1, h2, h3, _⟩ | ⟨h1, h2, h3, cells, h4, h5, h6, h7⟩
    · have h0 : n = 0 := by omega
      subst h0
      exact ⟨none, 0, by rw [hz]; simp [SC.den, h1, h2], Nat.le_refl _, by simp [maxLen], Or.inl rfl⟩
    · refine ⟨some ⟨E2.ρ (i, 0, 0), 0, none⟩, E2.κ (i, 0, 0), by rw [hz]; simp [SC.den, h1], Nat.le_trans hn h2, h3, Or.inr ⟨_, _, rfl, Nat.zero_le _, fun e he => ⟨(h7 e (Nat.lt_of_lt_of_le he hn)).1, fun j u hu => ?_⟩⟩⟩
      have hlt : E2.ρ (i, 0, 0) < w.heap.size := (Array.getElem?_eq_some_iff.1 h5).1
      have hb : w'.heap[E2.ρ (i, 0, 0)]? = some (.cells cells ty (0, 0)) := by
        rw [hw' _ hlt (fun x b hb => ?_)]
        · exact h5
        · obtain ⟨g1, g2⟩ := hsub x b hb
          rcases hH.disj (i, 0, 0) x _ b hat g2 (fun e => g1 (by rw [← e])) (E2.ρ (i, 0, 0)) with g | g
          · rw [h4] at g; simp [sing] at g
          · exact g
      rw [cell_of_row w' _ _ _ ty (0, 0) hb, Nat.zero_add]
      exact (h7 e (Nat.lt_of_lt_of_le he hn)).2 j u hu
  · exact hold.1 x A hA

theorem le_freeze {C : Ctx} {nt : Nat} {tmps tmps' : List (Nat × SV)} {own : Own} {arrs : List (Nat × Fm ArrF)} {facts : List (Env → World → Prop)} {nid : Nat} (i k s n ty : Nat) (at_ : Nat → List SC)
    (hi : look own i = some (.one (.ar k s at_ ty))) (hn : n ≤ k) (hid : i < nid) (ht : TmpsFz i s n nid tmps tmps') :
    Le C ⟨nt, tmps, own, arrs, facts, nid⟩ ⟨nt, tmps', dropL [i] own, (nid, .one ⟨n, s, at_, 0⟩) :: arrs, facts, nid + 1⟩ := fun E a w hs => by
  obtain ⟨E', h, _⟩ := freeze_sat i k s n ty at_ hi hn hid ht hs
  exact ⟨E', h⟩
/-- .. ahead of a call that reads it -/
theorem call_freeze {C : Ctx} {f : Nat} {dst : Option Nat} {K : St → Prop} {nt : Nat} {tmps : List (Nat × SV)} {own : Own} {arrs : List (Nat × Fm ArrF)} {facts : List (Env → World → Prop)} {nid : Nat} (tmps' : List (Nat × SV)) (i k s n ty : Nat) (at_ : Nat → List SC) (vs vs' : List SV)
    (hi : look own i = some (.one (.ar k s at_ ty))) (hn : n ≤ k) (hid : i < nid) (ht : TmpsFz i s n nid tmps tmps')
    (hv : ∀ E E' : Env, (∀ x : Nm, x.1 < nid → Same E E' x) → E'.χ (nid, 0, 0) = (SC.sl (i, 0, 0) s 0 n none).den E → vs'.map (SV.den E') = vs.map (SV.den E))
    (h : CallVC C f vs' dst ⟨nt, tmps', dropL [i] own, (nid, .one ⟨n, s, at_, 0⟩) :: arrs, facts, nid + 1⟩ K) : CallVC C f vs dst ⟨nt, tmps, own, arrs, facts, nid⟩ K := fun E a w hs => by
  obtain ⟨E', h1, h2, h3⟩ := freeze_sat i k s n ty at_ hi hn hid ht hs
  rw [← hv E E' h2 h3]
  exact h E' a w h1

/-- slots, where no list is told as an own one of no elements -/
def TmpsNil (s z : Nat) (tmps : List (Nat × SV)) : List (Nat × SV) → Prop
  | [] => True
  | (t, v) :: r => (look tmps t = some v ∨ (look tmps t = some (.c (.v (.slice none 0 0))) ∧ v = .c (.sl (z, 0, 0) s 0 0 none))) ∧ TmpsNil s z tmps r
theorem tmpsNil_at {s z : Nat} {tmps : List (Nat × SV)} : ∀ {l : List (Nat × SV)}, TmpsNil s z tmps l → ∀ {t : Nat} {v : SV}, look l t = some v → (look tmps t = some v ∨ (look tmps t = some (.c (.v (.slice none 0 0))) ∧ v = .c (.sl (z, 0, 0) s 0 0 none)))
  | [], _, t, v, h => by cases h
  | (k, u) :: r, hl, t, v, h => by
    rw [look_cons] at h
    split at h
    · next e => subst e; cases h; exact hl.1
    · exact tmpsNil_at hl.2 h
/-- a list that is none is an own one of no elements -/
theorem le_nilown {C : Ctx} {nt : Nat} {tmps tmps' : List (Nat × SV)} {own : Own} {arrs : List (Nat × Fm ArrF)} {facts : List (Env → World → Prop)} {nid : Nat} (s ty : Nat) (at_ : Nat → List SC)
    (ht : TmpsNil s nid tmps tmps') (hn : look own nid = none) : Le C ⟨nt, tmps, own, arrs, facts, nid⟩ ⟨nt, tmps', (nid, .one (.ar 0 s at_ ty)) :: own, arrs, facts, nid + 1⟩ := by
  intro E a w hs
  refine ⟨⟨E.ρ, fun x => if x.1 = nid then 0 else E.κ x, fun x => if x.1 = nid then true else E.ν x, E.χ⟩, fun x => hs.1 x, fun E2 hE2 ho2 => ?_⟩
  have hs2 := hs.2 E2 (fun x hx => by
    have h := hE2 x (Nat.lt_succ_of_lt hx)
    have hne : x.1 ≠ nid := by have : x.1 < nid := hx; omega
    simp only [Same, hne, if_false] at h
    exact h) ho2
  have hsz := hE2 (nid, 0, 0) (Nat.lt_succ_self nid)
  have hκ : E2.κ (nid, 0, 0) = 0 := by have h := hsz.2.1; simpa using h
  have hν : E2.ν (nid, 0, 0) = true := by have h := hsz.2.2.1; simpa using h
  obtain ⟨H, hH, hF⟩ := hs2.mem
  have hat : ∀ x b, atN own x = some b → x.1 ≠ nid := fun x b h e => by
    obtain ⟨F, hF, _⟩ := atN_some h
    rw [e, hn] at hF
    cases hF
  refine ⟨hs2.size, hs2.defers, ho2, fun t v h => ?_, hs2.frame, fun x => if x.1 = nid then emp else H x, ⟨fun x b hb => ?_, fun x y b c hb hc hne n => ?_, fun x b hb n o hn => ?_⟩, fun w' hw' => ?_⟩
  · rcases tmpsNil_at ht h with h1 | ⟨h1, rfl⟩
    · exact hs2.tmps t v h1
    · obtain ⟨g1, h2⟩ := hs2.tmps t _ h1
      refine ⟨g1, ?_⟩
      rw [h2, den_c, den_c, den_v]
      simp [SC.den, hκ, hν]
  · rcases atN_one hb with ⟨rfl, rfl⟩ | hb
    · exact Or.inl ⟨hν, hκ, rfl, by simp⟩
    · simp only [hat x b hb, if_false]
      exact hH.den x b hb
  · rcases atN_one hb with ⟨rfl, rfl⟩ | hb
    · simp [emp]
    · rcases atN_one hc with ⟨rfl, rfl⟩ | hc
      · simp [emp]
      · simp only [hat x b hb, hat y c hc, if_false]
        exact hH.disj x y b c hb hc hne n
  · rcases atN_one hb with ⟨rfl, rfl⟩ | hb
    · simp [emp] at hn
    · simp only [hat x b hb, if_false] at hn
      exact hH.sub x b hb n o hn
  · exact hF w' fun n hn hfr => hw' n hn fun x b hb => by
      rcases atN_one hb with ⟨rfl, rfl⟩ | hb
      · simp [emp]
      · simp only [hat x b hb, if_false]
        exact hfr x b hb

theorem holds_of {C : Ctx} {E : Env} {S : St} {a : Act} {w : World} (hs : Sat C.B C.W C.w0 E S a w) : Holds E S w := by
  obtain ⟨H, _, hF⟩ := hs.mem
  exact hF w fun _ _ _ => rfl

/-! ### functions that answer a list that is only read (where Pre holds still, and new memory is as it was) -/
def RetA (w : World) (Pre : World → Prop) {α : Type} (enc : α → List Value) (s : Nat) (ys : List α) (e : Ending) (w' : World) : Prop :=
  ∃ v, e = .returned v ∧ Below w.heap.size w w' ∧ ∀ w'' : World, Pre w'' → (∀ n, w.heap.size ≤ n → n < w'.heap.size → w''.heap[n]? = w'.heap[n]?) → Arr w'' enc s v ys

theorem cr_retA {C : Ctx} {S : St} {f : Nat} {vs : List SV} {α : Type} {enc : α → List Value} {s : Nat} {ys : List α} {d : α} (T : EncT enc s) (ks : List Nat) (Pre : Env → World → Prop)
    (hp : ∀ E E2 w'', AgreeD (· ∈ ks) E E2 → Holds E2 S w'' → Pre E w'')
    (hc : ∀ E a w, Sat C.B C.W C.w0 E S a w → Calls C.P f (vs.map (SV.den E)).toArray w (RetA w (Pre E) enc s ys)) : CR C f vs S ks (.c (.xv (S.nid, 0, 0))) 1 [] [(S.nid, .one (arrOf enc s ys d))] := by
  intro E a w hs
  refine (hc E a w hs).mono ?_
  rintro e w' ⟨v, rfl, hb, hA⟩
  have hold : Holds E S w' := by
    obtain ⟨H, _, hF⟩ := hs.mem
    exact hF w' fun n hn _ => hb.block n hn
  have hv := arr_one (hA w' (hp E E w' (.refl _ _) hold) fun _ _ _ => rfl)
  refine ⟨v, rfl, E1 v, E1_one hv, fun E2 hs2 hk hn => ?_⟩
  have hχ : E2.χ (S.nid, 0, 0) = v := (hn (S.nid, 0, 0) ⟨Nat.le_refl _, Nat.lt_succ_self _⟩).2.2.2
  refine ⟨?_, fun n => w.heap.size ≤ n ∧ n < w'.heap.size, fun n h => h, fun H hH => ⟨hb.os, hb.tape, hb.output, hb.size, fun n hn _ => hb.block n hn, fun _ => emp, fun x b h => (atN_nil h).elim, fun x y b c h => (atN_nil h).elim, fun x b h => (atN_nil h).elim⟩, fun w'' hw'' hG x A hA' => ?_⟩
  · simp only [den_c, SC.den, hχ]
  · rcases atN_one hA' with ⟨rfl, rfl⟩ | h
    · exact arrAt_of T (by rw [hχ]; exact hA w'' (hp E E2 w'' hk hw'') fun n h1 h2 => hG n ⟨h1, h2⟩)
    · exact (atN_nil h).elim

/-- .. of one list, read -/
theorem callA {C : Ctx} {S : St} {f : Nat} {dst : Option Nat} {K : St → Prop} {α β : Type} {enc : α → List Value} {s : Nat} {xs : List α} {enc' : β → List Value} {s' : Nat} {ys : List β} {d : β} (T : EncT enc' s') (c : SC) (ks : List Nat) (hks : ∀ i ∈ ks, i < S.nid)
    (hden : ∀ E E2, AgreeD (· ∈ ks) E E2 → c.den E2 = c.den E) (hrd : ∀ E w'', Holds E S w'' → Arr w'' enc s (c.den E) xs)
    (hc : ∀ w v, Arr w enc s v xs → Calls C.P f #[v] w (RetA w (fun w'' => Arr w'' enc s v xs) enc' s' ys)) (hk : K (S.call dst (.c (.xv (S.nid, 0, 0))) 1 [] [(S.nid, .one (arrOf enc' s' ys d))])) : CallVC C f [.c c] dst S K := by
  refine call_intro (cr_retA T ks (fun E w'' => Arr w'' enc s (c.den E) xs) (fun E E2 w'' hE h => by rw [← hden E E2 hE]; exact hrd E2 w'' h) fun E a w hs => ?_) hks hk
  exact hc w (c.den E) (hrd E w (holds_of hs))

/-- part of a list that is read -/
theorem arr_xs {α : Type} {E : Env} {w : World} {x : Nm} {s : Nat} {enc : α → List Value} {xs : List α} {d : α} {o n l : Nat} (h : ArrAt E w x (arrOf enc s xs d l)) (hon : o + n ≤ xs.length) : Arr w enc s ((SC.xs x s o n none).den E) ((xs.drop o).take n) := by
  obtain ⟨ba, cap, hv, hl, hm, hc⟩ := arr_of h
  have hlen : ((xs.drop o).take n).length = n := by simp; omega
  cases ba with
  | none =>
    refine ⟨none, cap - o, by simp only [SC.den, hv, Option.getD_none, hlen], by rw [hlen]; omega, by omega, ?_⟩
    rcases hc with hc | ⟨b, off, hb, _⟩
    · left; rw [hc]; simp
    · cases hb
  | some ad =>
    refine ⟨some (ad.add (o * s)), cap - o, by simp only [SC.den, hv, Option.getD_none, hlen], by rw [hlen]; omega, by omega, ?_⟩
    rcases hc with hc | ⟨b, off, hb, hc⟩
    · left; rw [hc]; simp
    · right
      cases hb
      refine ⟨b, off + o * s, by simp [Addr.add], fun k y hy j u hu => ?_⟩
      have hk : k < n := by
        have := (List.getElem?_eq_some_iff.1 hy).1
        rw [hlen] at this
        exact this
      rw [List.getElem?_take_of_lt hk, List.getElem?_drop] at hy
      have := hc (o + k) y hy j u hu
      rw [Nat.add_mul] at this
      rw [show off + o * s + k * s + j = off + (o * s + k * s) + j by omega]
      exact this

theorem retA_own {P : Program} {A : List Nat} {w : World} {rs : List RS} {Pre : World → Prop} {α : Type} {ty s : Nat} {enc : α → List Value} {ys : List α} {d : α} {S : St} (i k n : Nat) (at_ : Nat → List SC) (hi : look S.own i = some (.one (.ar k s at_ ty))) (hn : n = ys.length) (hk : ys.length ≤ k)
    (ha : ∀ e, e < ys.length → at_ e = ats enc ys d e) : RetVC (mkC P A w rs (RetA w Pre enc s ys)) (.c (.sl (i, 0, 0) s 0 n none)) S := by
  subst hn
  intro E a w' hs
  have hs := hs.sat
  refine ⟨_, rfl, below_of hs, fun w'' _ hw'' => ?_⟩
  obtain ⟨H, hH, _⟩ := hs.mem
  have hat : atN S.own (i, 0, 0) = some (.ar k s at_ ty) := by simp [atN, hi, Fm.get]
  rcases ar_heap hH hat with ⟨h1, h2, h3, _⟩ | ⟨h1, h2, h3, cells, h4, h5, h6, h7⟩
  · have h0 : ys = [] := List.eq_nil_of_length_eq_zero (by omega)
    subst h0
    exact ⟨none, 0, by simp [den_c, SC.den, h1, h2], Nat.le_refl _, by simp [maxLen], Or.inl rfl⟩
  · refine ⟨some ⟨E.ρ (i, 0, 0), 0, none⟩, E.κ (i, 0, 0), by simp [den_c, SC.den, h1], by omega, h3, Or.inr ⟨_, _, rfl, fun e y hy j u hu => ?_⟩⟩
    obtain ⟨g1, g2⟩ := hH.sub _ _ hat (E.ρ (i, 0, 0)) (.cells cells ty (0, 0)) (by rw [h4]; simp [sing])
    have hge : w.heap.size ≤ E.ρ (i, 0, 0) := g2.resolve_right fun h => h.elim
    have hlt : E.ρ (i, 0, 0) < w'.heap.size := (Array.getElem?_eq_some_iff.1 h5).1
    rw [cell_of_row w'' _ _ _ ty (0, 0) (by rw [hw'' _ hge hlt]; exact h5), Nat.zero_add]
    have he : e < ys.length := (List.getElem?_eq_some_iff.1 hy).1
    have := ((h7 e (by omega)).2 j (.v u) (by
      rw [ha e he]
      have : ys.getD e d = y := by rw [List.getD_eq_getElem?_getD, hy]; rfl
      simp only [ats, this, List.getElem?_map, hu]; rfl)).1
    rw [den_v] at this
    exact this
theorem retA_arg {P : Program} {A : List Nat} {w : World} {rs : List RS} {Pre : World → Prop} {α : Type} {s : Nat} {enc : α → List Value} {ys : List α} {S : St} {x : Nm} {v0 : Value} (hf : (fun E _ => E.χ x = v0) ∈ S.facts) (hp : ∀ w'', Pre w'' → Arr w'' enc s v0 ys) : RetVC (mkC P A w rs (RetA w Pre enc s ys)) (.c (.xv x)) S := by
  intro E a w' hs
  have hs := hs.sat
  have hx : E.χ x = v0 := (holds_of (C := mkC P A w rs (RetA w Pre enc s ys)) hs).2 _ hf
  refine ⟨_, rfl, below_of hs, fun w'' hw'' _ => ?_⟩
  simp only [den_c, SC.den, hx]
  exact hp w'' hw''
theorem retA_nil {P : Program} {A : List Nat} {w : World} {rs : List RS} {Pre : World → Prop} {α : Type} {s : Nat} {enc : α → List Value} {S : St} : RetVC (mkC P A w rs (RetA w Pre enc s [])) (.c (.v (.slice none 0 0))) S := by
  intro E a w' hs
  exact ⟨_, rfl, below_of hs.sat, fun w'' _ _ => ⟨none, 0, by simp [den_c, den_v], Nat.le_refl _, by simp [maxLen], Or.inl rfl⟩⟩
/-- a borrowed list, and facts -/
theorem inOk_arrsF {P : Program} {A : List Nat} {w : World} {rs : List RS} {R : Ending → World → Prop} {E : Env} {arrs : List (Nat × Fm ArrF)} {facts : List (Env → World → Prop)} (h : ∀ w' : World, (∀ n, n < w.heap.size → w'.heap[n]? = w.heap[n]?) → ∀ x A, atN arrs x = some A → ArrAt E w' x A)
    (hf : ∀ w', ∀ φ ∈ facts, φ E w') : InOk (mkC P A w rs R) E [] arrs facts w :=
  ⟨fun _ => emp, fun x b h => by simp [atN, look] at h, fun x y b c h => by simp [atN, look] at h, fun x b h => by simp [atN, look] at h, fun w' hw' => ⟨h w' fun n hn => hw' n hn fun x b hb => rfl, hf w'⟩⟩
/-- an own list, read -/
theorem arr_own {C : Ctx} {E : Env} {S : St} {a : Act} {w : World} (hs : Sat C.B C.W C.w0 E S a w) {α : Type} {ty s : Nat} {enc : α → List Value} {ys : List α} {d : α} (i k n : Nat) (at_ : Nat → List SC) (hi : look S.own i = some (.one (.ar k s at_ ty))) (hn : n = ys.length) (hk : ys.length ≤ k)
    (ha : ∀ e, e < ys.length → at_ e = ats enc ys d e) : Arr w enc s ((SC.sl (i, 0, 0) s 0 n none).den E) ys := by
  subst hn
  obtain ⟨H, hH, _⟩ := hs.mem
  have hat : atN S.own (i, 0, 0) = some (.ar k s at_ ty) := by simp [atN, hi, Fm.get]
  rcases ar_heap hH hat with ⟨h1, h2, h3, _⟩ | ⟨h1, h2, h3, cells, h4, h5, h6, h7⟩
  · have h0 : ys = [] := List.eq_nil_of_length_eq_zero (by omega)
    subst h0
    exact ⟨none, 0, by simp [SC.den, h1, h2], Nat.le_refl _, by simp [maxLen], Or.inl rfl⟩
  · refine ⟨some ⟨E.ρ (i, 0, 0), 0, none⟩, E.κ (i, 0, 0), by simp [SC.den, h1], by omega, h3, Or.inr ⟨_, _, rfl, fun e y hy j u hu => ?_⟩⟩
    rw [cell_of_row w _ _ _ ty (0, 0) h5, Nat.zero_add]
    have he : e < ys.length := (List.getElem?_eq_some_iff.1 hy).1
    have := ((h7 e (by omega)).2 j (.v u) (by
      rw [ha e he]
      have : ys.getD e d = y := by rw [List.getD_eq_getElem?_getD, hy]; rfl
      simp only [ats, this, List.getElem?_map, hu]; rfl)).1
    rw [den_v] at this
    exact this
/-- a guarded call that answers a value alone -/
theorem crv_retV {C : Ctx} {f : Nat} {vs : List SV} {S : St} (tmpl : SV) (u : Value) (hv : ∀ E, tmpl.den E = u) (h : ∀ E a w, Sat C.B C.W C.w0 E S a w → Calls C.P f (vs.map (SV.den E)).toArray w (RetV w u)) : CRv C f vs S tmpl := by
  intro E a w hs
  refine (h E a w hs).mono ?_
  rintro e w' ⟨rfl, hb⟩
  exact ⟨u, rfl, E, hs.one, fun E2 _ _ _ => ⟨(hv E2).symm, Fits.G ⟨fun H _ => effOk_below hb, fun _ _ x A h => by simp [atN, look] at h⟩⟩⟩
/-! ### entering -/
/-- the names of lists that are handed in -/
def E2 (v0 v1 : Value) : Env := ⟨fun _ => 0, fun _ => 0, fun _ => false, fun x => if x.1 = 1 then v1 else v0⟩
theorem enter0 {P : Program} {A : List Nat} {f nt : Nat} {fn : Func} {x : Code} {c : IR} {w : World} {rs : List RS} {R : Ending → World → Prop} (sc : List SV) (args : Array Value)
    (hf : P.funcs[f]? = some fn) (hb : fn.body = some x) (hc : compC (mkTab P A) x = some c.strip) (hr : compR (mkTab P A).T fn.results.toList = some rs) (hn : fn.ntmps = nt)
    (hargs : ∀ E', (sc.map (SV.den E')).toArray = args) (hnt : sc.length ≤ nt)
    (hex : exec (mkC P A w rs R) 1000 [.code c] ⟨nt, enumT 0 sc, [], [], [], 0⟩) : Calls P f args w R :=
  calls_sym (c := c) (C := mkC P A w rs R) 1000 sc (E1 (.bool true)) [] [] [] 0 nt args (mkTab_ok _ _) hf hb hc hr hn rfl rfl (E1_one rfl) (fun E' _ => hargs E') hnt (fun E' _ => inOk_nil) hex
theorem enter1 {P : Program} {A : List Nat} {f nt : Nat} {fn : Func} {x : Code} {c : IR} {w : World} {rs : List RS} {R : Ending → World → Prop} {α : Type} {enc : α → List Value} {s : Nat} {xs : List α} (d : α) {v : Value} (T : EncT enc s) (h : Arr w enc s v xs) (sc : List SV) (args : Array Value)
    (hf : P.funcs[f]? = some fn) (hb : fn.body = some x) (hc : compC (mkTab P A) x = some c.strip) (hr : compR (mkTab P A).T fn.results.toList = some rs) (hn : fn.ntmps = nt)
    (hargs : ∀ E', E'.χ (0, 0, 0) = v → (sc.map (SV.den E')).toArray = args) (hnt : sc.length ≤ nt)
    (hex : exec (mkC P A w rs R) 1000 [.code c] ⟨nt, enumT 0 sc, [], [(0, .one (arrOf enc s xs d))], [], 1⟩) : Calls P f args w R := by
  refine calls_sym (c := c) (C := mkC P A w rs R) 1000 sc (E1 v) [] [(0, .one (arrOf enc s xs d))] [] 1 nt args (mkTab_ok _ _) hf hb hc hr hn rfl rfl (E1_one (arr_one h)) (fun E' hE' => hargs E' ?_) hnt (fun E' hE' => inOk_arrs fun w' hw' x A hA => ?_) hex
  · exact (hE' (0, 0, 0) Nat.zero_lt_one).2.2.2
  · rcases atN_one hA with ⟨rfl, rfl⟩ | hA
    · exact arr1 T (hE' (0, 0, 0) Nat.zero_lt_one).2.2.2 h hw'
    exact (atN_nil hA).elim
theorem enter2 {P : Program} {A : List Nat} {f nt : Nat} {fn : Func} {x : Code} {c : IR} {w : World} {rs : List RS} {R : Ending → World → Prop} {α β : Type} {enc : α → List Value} {s : Nat} {xs : List α} (d : α) {v : Value} (T : EncT enc s) (h : Arr w enc s v xs)
    {enc' : β → List Value} {s' : Nat} {ys : List β} (d' : β) {v' : Value} (T' : EncT enc' s') (h' : Arr w enc' s' v' ys) (sc : List SV) (args : Array Value)
    (hf : P.funcs[f]? = some fn) (hb : fn.body = some x) (hc : compC (mkTab P A) x = some c.strip) (hr : compR (mkTab P A).T fn.results.toList = some rs) (hn : fn.ntmps = nt)
    (hargs : ∀ E', E'.χ (0, 0, 0) = v → E'.χ (1, 0, 0) = v' → (sc.map (SV.den E')).toArray = args) (hnt : sc.length ≤ nt)
    (hex : exec (mkC P A w rs R) 1000 [.code c] ⟨nt, enumT 0 sc, [], [(0, .one (arrOf enc s xs d)), (1, .one (arrOf enc' s' ys d'))], [], 2⟩) : Calls P f args w R := by
  have hone : OneC (E2 v v') := fun x => by
    simp only [E2]
    split
    · exact arr_one h'
    · exact arr_one h
  have h0 : ∀ E' : Env, AgreeD (· < 2) (E2 v v') E' → E'.χ (0, 0, 0) = v := fun E' hE' => by
    have := (hE' (0, 0, 0) Nat.zero_lt_two).2.2.2
    simpa [E2] using this
  have h1 : ∀ E' : Env, AgreeD (· < 2) (E2 v v') E' → E'.χ (1, 0, 0) = v' := fun E' hE' => by
    have := (hE' (1, 0, 0) Nat.one_lt_two).2.2.2
    simpa [E2] using this
  refine calls_sym (c := c) (C := mkC P A w rs R) 1000 sc (E2 v v') [] _ [] 2 nt args (mkTab_ok _ _) hf hb hc hr hn rfl rfl hone (fun E' hE' => hargs E' (h0 E' hE') (h1 E' hE')) hnt (fun E' hE' => inOk_arrs fun w' hw' x A hA => ?_) hex
  rcases atN_one hA with ⟨rfl, rfl⟩ | hA
  · exact arr1 T (h0 E' hE') h hw'
  rcases atN_one hA with ⟨rfl, rfl⟩ | hA
  · exact arr1 T' (h1 E' hE') h' hw'
  exact (atN_nil hA).elim
end Go.Proofs.Ytkjeedlkkpgopaa.Z
