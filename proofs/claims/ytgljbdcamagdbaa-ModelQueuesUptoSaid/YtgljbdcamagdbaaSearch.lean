/- slices.BinarySearch and slices.BinarySearchFunc at the types of lists: the place of a key in a rising list. -/
import Derived.Test.YtgljbdcamagdbaaDelete
import Derived.Deep.LoopGhost
namespace Go.Proofs.Ytgljbdcamagdbaa
open Go.RowKit

/-- the place of key k in a rising list -/
structure Pos (l : List Int) (k : Int) (i : Nat) : Prop where
  le : i ≤ l.length
  lo : ∀ j x, l[j]? = some x → j < i → x < k
  hi : ∀ j x, l[j]? = some x → i ≤ j → k ≤ x

theorem inc_lt {l : List Int} (h : incB l = true) : ∀ (a b : Nat) (x y : Int), a < b → l[a]? = some x → l[b]? = some y → x < y := by
  intro a b
  induction b with
  | zero => intro x y hab; omega
  | succ b ih =>
    intro x y hab hx hy
    have hl : b < l.length := by have := (List.getElem?_eq_some_iff.1 hy).1; omega
    have hz : l[b]? = some l[b] := List.getElem?_eq_getElem hl
    have h1 := (incB_iff l).1 h b _ _ hz hy
    by_cases e : a = b
    · subst e; rw [hz] at hx; cases hx; exact h1
    · have := ih x _ (by omega) hx hz; omega

theorem cmpIsNaN (x : Int) (w : World) : Calls Try.prog 94 #[.int .i64 x] w fun e w' => e = .returned (.bool false) ∧ w' = w := by
  go_enter Try.func94, Try.ntmps94
  go_wp2
  go_ret
  exact ⟨by simp, rfl⟩
theorem slicesIsNaN (x : Int) (w : World) : Calls Try.prog 91 #[.int .i64 x] w fun e w' => e = .returned (.bool false) ∧ w' = w := by
  go_enter Try.func91, Try.ntmps91
  go_wp2
  go_ret
  exact ⟨by simp, rfl⟩
theorem cmpLess (x y : Int) (w : World) : Calls Try.prog 90 #[.int .i64 x, .int .i64 y] w fun e w' => e = .returned (.bool (decide (x < y))) ∧ w' = w := by
  go_enter Try.func90, Try.ntmps90
  go_wp2_with (go_at_call 94; refine (cmpIsNaN _ _).mono ?_; rintro e w' ⟨rfl, rfl⟩)
  go_ret
  exact ⟨rfl, rfl⟩

/-- what a search answers -/
def RetS (W : World) (l : List Int) (k : Int) (r : Ending) (w' : World) : Prop := ∃ i : Nat, r = .returned (.tuple #[.int .i64 i, .bool (decide (l[i]? = some k))]) ∧ Pos l k i ∧ Below W.heap.size W w'

set_option maxRecDepth 100000 in
set_option maxHeartbeats 4000000 in
theorem search_set {v : Value} {l : List Int} {k : Int} {w : World} (h : Arr w eI 1 v l) (hinc : incB l = true) (hl : l.length < 4611686018427387904) :
    Calls Try.prog 85 #[v, .int .i64 k] w (RetS w l k) := by
  obtain ⟨ba, cap, rfl, hlc, hcm, g⟩ := h.at1
  have S := Lib.hid (inc_lt hinc)
  have G := Lib.hid g
  clear g hinc h
  obtain ⟨n, hn⟩ : ∃ n, n = l.length := ⟨_, rfl⟩
  rw [← hn] at hl hlc ⊢
  have HN := Lib.hid hn; clear hn
  go_enter Try.func85, Try.ntmps85
  go_wp2
  go_loopg [7, 8] n (fun g s7 s8 wr => ∃ lo hi : Nat, s7 = .int .i64 lo ∧ s8 = .int .i64 hi ∧ lo ≤ hi ∧ hi ≤ n ∧ hi - lo ≤ g ∧ Hid (Below w.heap.size w wr) ∧ Hid ((∀ j x, l[j]? = some x → j < lo → x < k) ∧ (∀ j x, l[j]? = some x → hi ≤ j → k ≤ x)))
  case atStart => exact ⟨0, n, rfl, rfl, Nat.zero_le _, Nat.le_refl _, by omega, Below.refl _ _, (⟨fun j x _ hj => by omega, fun j x hx hj => by have := (List.getElem?_eq_some_iff.1 hx).1; have := HN.out; omega⟩ : _ ∧ _)⟩
  case round =>
    obtain ⟨lo, hi, rfl, rfl, hlh, hin, hg, hb, I⟩ := hrel
    by_cases hlt : lo < hi
    · obtain ⟨y, hy⟩ : ∃ y, l[(lo + hi) / 2]? = some y := ⟨_, List.getElem?_eq_getElem (by rw [← HN.out]; omega)⟩
      obtain ⟨b1, o1, rfl, hb1, c1⟩ := G.out _ y hy
      have d1 := (hb.out.cell (by exact hb1)).trans c1
      clear c1 hb1
      have Y := Lib.hid hy; clear hy
      by_cases hyx : y < k
      · go_wp2_with (first | (go_at_call 90; refine (cmpLess _ _ _).mono ?_; rintro e w' ⟨rfl, rfl⟩) | (go_at_call 91; refine (slicesIsNaN _ _).mono ?_; rintro e w' ⟨rfl, rfl⟩))
        go_roundg (hi - ((lo + hi) / 2 + 1))
        case measure => omega
        case rel =>
          refine ⟨(lo + hi) / 2 + 1, hi, by rw [show ((lo : Int) + (hi : Int)) / 2 + 1 = (((lo + hi) / 2 + 1 : Nat) : Int) by omega], rfl, by omega, hin, Nat.le_refl _, ?_, (⟨fun j x hx hj => ?_, I.out.2⟩ : _ ∧ _)⟩
          · exact hb
          · by_cases e : j = (lo + hi) / 2
            · subst e; rw [Y.out] at hx; cases hx; exact hyx
            · have := S.out j ((lo + hi) / 2) x y (by omega) hx Y.out; omega
      · go_wp2_with (first | (go_at_call 90; refine (cmpLess _ _ _).mono ?_; rintro e w' ⟨rfl, rfl⟩) | (go_at_call 91; refine (slicesIsNaN _ _).mono ?_; rintro e w' ⟨rfl, rfl⟩))
        go_roundg ((lo + hi) / 2 - lo)
        case measure => omega
        case rel =>
          refine ⟨lo, (lo + hi) / 2, rfl, by rw [show ((lo : Int) + (hi : Int)) / 2 = (((lo + hi) / 2 : Nat) : Int) by omega], by omega, by omega, Nat.le_refl _, ?_, (⟨I.out.1, fun j x hx hj => ?_⟩ : _ ∧ _)⟩
          · exact hb
          · by_cases e : j = (lo + hi) / 2
            · subst e; rw [Y.out] at hx; cases hx; omega
            · have := S.out ((lo + hi) / 2) j y x (by omega) Y.out hx; omega
    · obtain rfl : hi = lo := by omega
      have P0 : Hid (Pos l k hi) := (⟨by rw [← HN.out]; exact hin, I.out.1, I.out.2⟩ : Pos l k hi)
      clear I S
      by_cases hn : hi < n
      · obtain ⟨y, hy⟩ : ∃ y, l[hi]? = some y := ⟨_, List.getElem?_eq_getElem (by rw [← HN.out]; exact hn)⟩
        obtain ⟨b1, o1, rfl, hb1, c1⟩ := G.out _ y hy
        have d1 := (hb.out.cell (by exact hb1)).trans c1
        clear c1 hb1
        have Y := Lib.hid hy; clear hy
        by_cases hyx : y = k
        · go_wp2_with (first | (go_at_call 90; refine (cmpLess _ _ _).mono ?_; rintro e w' ⟨rfl, rfl⟩) | (go_at_call 91; refine (slicesIsNaN _ _).mono ?_; rintro e w' ⟨rfl, rfl⟩))
          go_ret2
          exact ⟨hi, by rw [Y.out, decide_eq_true (congrArg some hyx)]; first | rfl | simp [*], P0.out, by first | exact hb.out | exact hb.out.drew | exact below_drewN hb.out _⟩
        · go_wp2_with (first | (go_at_call 90; refine (cmpLess _ _ _).mono ?_; rintro e w' ⟨rfl, rfl⟩) | (go_at_call 91; refine (slicesIsNaN _ _).mono ?_; rintro e w' ⟨rfl, rfl⟩))
          go_ret2
          exact ⟨hi, by rw [Y.out, decide_eq_false (fun h => hyx (Option.some.inj h))]; first | rfl | simp [*], P0.out, by first | exact hb.out | exact hb.out.drew | exact below_drewN hb.out _⟩
      · have hnone : l[hi]? = none := List.getElem?_eq_none (by rw [← HN.out]; omega)
        have Y := Lib.hid hnone; clear hnone
        go_wp2_with (first | (go_at_call 90; refine (cmpLess _ _ _).mono ?_; rintro e w' ⟨rfl, rfl⟩) | (go_at_call 91; refine (slicesIsNaN _ _).mono ?_; rintro e w' ⟨rfl, rfl⟩))
        go_ret2
        exact ⟨hi, by rw [Y.out]; first | rfl | simp [*], P0.out, by first | exact hb.out | exact hb.out.drew | exact below_drewN hb.out _⟩

/-- what find's closure says of a pair against a key -/
def cmpP (p : Int × Int) (k : Int) : Int := if p.1 < k then -1 else if p.1 > k then 1 else 0
theorem find1 (p : Int × Int) (k : Int) (w : World) : Calls Try.prog 105 #[.agg #[.int .i64 p.1, .int .i64 p.2], .int .i64 k] w fun e w' => e = .returned (.int .i64 (cmpP p k)) ∧ Below w.heap.size w w' := by
  obtain ⟨a, b⟩ := p
  have E : Hid ((a < k → cmpP (a, b) k = -1) ∧ (¬ a < k → a > k → cmpP (a, b) k = 1) ∧ (¬ a < k → ¬ a > k → cmpP (a, b) k = 0)) :=
    (⟨fun h => by simp [cmpP, h], fun h h2 => by simp only [cmpP]; rw [if_neg h, if_pos h2], fun h h2 => by simp only [cmpP]; rw [if_neg h, if_neg h2]⟩ : _ ∧ _ ∧ _)
  by_cases h1 : a < k
  · go_enter Try.func105, Try.ntmps105
    go_wp2
    go_ret
    exact ⟨by rw [E.out.1 h1]; rfl, below_box _ _⟩
  · by_cases h2 : a > k
    · go_enter Try.func105, Try.ntmps105
      go_wp2
      go_ret
      exact ⟨by rw [E.out.2.1 (by omega) (by omega)]; rfl, below_box _ _⟩
    · go_enter Try.func105, Try.ntmps105
      go_wp2
      go_ret
      exact ⟨by rw [E.out.2.2 (by omega) (by omega)]; rfl, below_box _ _⟩

def keys (l : List (Int × Int)) : List Int := l.map (·.1)
theorem keys_at {l : List (Int × Int)} {j : Nat} {p : Int × Int} (h : l[j]? = some p) : (keys l)[j]? = some p.1 := by simp [keys, h]

set_option maxRecDepth 100000 in
set_option maxHeartbeats 4000000 in
theorem search_table {v : Value} {l : List (Int × Int)} {k : Int} {w : World} (h : Arr w eP 2 v l) (hinc : incB (keys l) = true) (hl : l.length < 4611686018427387904) :
    Calls Try.prog 104 #[v, .int .i64 k, .func (.func 105) #[] #[]] w (RetS w (keys l) k) := by
  obtain ⟨ba, cap, rfl, hlc, hcm, g⟩ := h.at2
  have S := Lib.hid (inc_lt hinc)
  have G := Lib.hid g
  clear g hinc h
  obtain ⟨n, hn⟩ : ∃ n, n = l.length := ⟨_, rfl⟩
  rw [← hn] at hl hlc ⊢
  have HK : Hid ((keys l).length = n) := by show _ = _; rw [hn]; simp [keys]
  have HN := Lib.hid hn; clear hn
  go_enter Try.func104, Try.ntmps104
  go_wp2
  go_loopg [9, 10] n (fun g s9 s10 wr => ∃ lo hi : Nat, s9 = .int .i64 lo ∧ s10 = .int .i64 hi ∧ lo ≤ hi ∧ hi ≤ n ∧ hi - lo ≤ g ∧ Hid (Below w.heap.size w wr) ∧ Hid ((∀ j x, (keys l)[j]? = some x → j < lo → x < k) ∧ (∀ j x, (keys l)[j]? = some x → hi ≤ j → k ≤ x)))
  case atStart => exact ⟨0, n, rfl, rfl, Nat.zero_le _, Nat.le_refl _, by omega, Below.refl _ _, (⟨fun j x _ hj => by omega, fun j x hx hj => by have := (List.getElem?_eq_some_iff.1 hx).1; have := HK.out; omega⟩ : _ ∧ _)⟩
  case round =>
    obtain ⟨lo, hi, rfl, rfl, hlh, hin, hg, hb, I⟩ := hrel
    by_cases hlt : lo < hi
    · obtain ⟨y, hy⟩ : ∃ y, l[(lo + hi) / 2]? = some y := ⟨_, List.getElem?_eq_getElem (by rw [← HN.out]; omega)⟩
      obtain ⟨b1, o1, rfl, hb1, c1, c2⟩ := G.out _ y hy
      have d1 := (hb.out.cell (by exact hb1)).trans c1
      have d2 := (hb.out.cell (by exact hb1)).trans c2
      clear c1 c2 hb1
      have Y := Lib.hid (keys_at hy); clear hy
      by_cases hyx : y.1 < k
      · have hc : cmpP y k = -1 := by simp [cmpP, hyx]
        have C : Hid (∀ wx, Calls Try.prog 105 #[.agg #[.int .i64 y.1, .int .i64 y.2], .int .i64 k] wx fun e w' => e = .returned (.int .i64 (-1)) ∧ Below wx.heap.size wx w') := fun wx => by rw [← hc]; exact find1 y k wx
        clear hc
        go_wp2_with (go_at_call 105; (with_reducible refine (C.out _).mono ?_); rintro e w' ⟨rfl, hb2⟩; have hb3 := Lib.hid (hb.out.trans (hb2.mono hb.out.size)); clear hb hb2)
        go_roundg (hi - ((lo + hi) / 2 + 1))
        case measure => omega
        case rel =>
          refine ⟨(lo + hi) / 2 + 1, hi, by rw [show ((lo : Int) + (hi : Int)) / 2 + 1 = (((lo + hi) / 2 + 1 : Nat) : Int) by omega], rfl, by omega, hin, Nat.le_refl _, ?_, (⟨fun j x hx hj => ?_, I.out.2⟩ : _ ∧ _)⟩
          · exact hb3
          · by_cases e : j = (lo + hi) / 2
            · subst e; rw [Y.out] at hx; cases hx; exact hyx
            · have := S.out j ((lo + hi) / 2) x y.1 (by omega) hx Y.out; omega
      · obtain ⟨c, hc, hc0⟩ : ∃ c, cmpP y k = c ∧ ¬ c < 0 := ⟨_, rfl, by simp only [cmpP, hyx, if_false]; split <;> omega⟩
        have C : Hid (∀ wx, Calls Try.prog 105 #[.agg #[.int .i64 y.1, .int .i64 y.2], .int .i64 k] wx fun e w' => e = .returned (.int .i64 c) ∧ Below wx.heap.size wx w') := fun wx => by rw [← hc]; exact find1 y k wx
        clear hc
        go_wp2_with (go_at_call 105; (with_reducible refine (C.out _).mono ?_); rintro e w' ⟨rfl, hb2⟩; have hb3 := Lib.hid (hb.out.trans (hb2.mono hb.out.size)); clear hb hb2)
        go_roundg ((lo + hi) / 2 - lo)
        case measure => omega
        case rel =>
          refine ⟨lo, (lo + hi) / 2, rfl, by rw [show ((lo : Int) + (hi : Int)) / 2 = (((lo + hi) / 2 : Nat) : Int) by omega], by omega, by omega, Nat.le_refl _, ?_, (⟨I.out.1, fun j x hx hj => ?_⟩ : _ ∧ _)⟩
          · exact hb3
          · by_cases e : j = (lo + hi) / 2
            · subst e; rw [Y.out] at hx; cases hx; omega
            · have := S.out ((lo + hi) / 2) j y.1 x (by omega) Y.out hx; omega
    · obtain rfl : hi = lo := by omega
      have P0 : Hid (Pos (keys l) k hi) := (⟨by rw [HK.out]; exact hin, I.out.1, I.out.2⟩ : Pos (keys l) k hi)
      clear I S
      by_cases hn : hi < n
      · obtain ⟨y, hy⟩ : ∃ y, l[hi]? = some y := ⟨_, List.getElem?_eq_getElem (by rw [← HN.out]; exact hn)⟩
        obtain ⟨b1, o1, rfl, hb1, c1, c2⟩ := G.out _ y hy
        have d1 := (hb.out.cell (by exact hb1)).trans c1
        have d2 := (hb.out.cell (by exact hb1)).trans c2
        clear c1 c2 hb1
        have Y := Lib.hid (keys_at hy); clear hy
        obtain ⟨c, hc⟩ : ∃ c, cmpP y k = c := ⟨_, rfl⟩
        have hck : Hid ((c == 0) = decide (some y.1 = some k)) := by
          show _ = _
          rw [← hc, Bool.eq_iff_iff, beq_iff_eq, decide_eq_true_iff, Option.some.injEq]
          simp only [cmpP]
          split
          · constructor <;> intro <;> omega
          · split <;> constructor <;> intro <;> omega
        have C : Hid (∀ wx, Calls Try.prog 105 #[.agg #[.int .i64 y.1, .int .i64 y.2], .int .i64 k] wx fun e w' => e = .returned (.int .i64 c) ∧ Below wx.heap.size wx w') := fun wx => by rw [← hc]; exact find1 y k wx
        clear hc
        go_wp2_with (go_at_call 105; (with_reducible refine (C.out _).mono ?_); rintro e w' ⟨rfl, hb2⟩; have hb3 := Lib.hid (hb.out.trans (hb2.mono hb.out.size)); clear hb hb2)
        go_ret2
        exact ⟨hi, by rw [Y.out, ← hck.out]; rfl, P0.out, hb3.out⟩
      · have hnone : (keys l)[hi]? = none := List.getElem?_eq_none (by rw [HK.out]; omega)
        have Y := Lib.hid hnone; clear hnone
        go_wp2
        go_ret2
        exact ⟨hi, by rw [Y.out]; first | rfl | simp [*], P0.out, by first | exact hb.out | exact hb.out.drew | exact below_drewN hb.out _⟩

theorem tableFind {v : Value} {l : List (Int × Int)} {k : Int} {w : World} (h : Arr w eP 2 v l) (hinc : incB (keys l) = true) (hl : l.length < 4611686018427387904) :
    Calls Try.prog 100 #[v, .int .i64 k] w (RetS w (keys l) k) := by
  obtain ⟨ba, cap, hv, _⟩ := h.at2
  have C := Lib.hid (search_table (k := k) h hinc hl)
  clear h hinc hl
  subst hv
  go_enter Try.func100, Try.ntmps100
  go_wp2_with (go_at_call 104; refine C.out.mono ?_; rintro e w' ⟨i, rfl, hp, hb⟩; have HP := Lib.hid hp; clear hp; have HB := Lib.hid hb; clear hb)
  go_ret2
  exact ⟨i, rfl, HP.out, HB.out⟩
end Go.Proofs.Ytgljbdcamagdbaa
