/- Comparing slices of ints: reclaimmodel.SameInts and slices.Equal answer whether the two lists are one. No conditions. -/
import Derived.Test.YtgljbdcamagdbaaLib
namespace Go.Proofs.Ytgljbdcamagdbaa
open Go.RowKit

set_option maxHeartbeats 400000 in
theorem sameInts_core (ba bb : Option Addr) (n m c c' : Nat) (xs ys : List Int) (w : World) (hn : n = xs.length) (hm : m = ys.length) (hnc : n ≤ 9223372036854775807) (_hmc : m ≤ 9223372036854775807)
    (hx : ∀ k x, xs[k]? = some x → ∃ b off, ba = some ⟨b, off, none⟩ ∧ b < w.heap.size ∧ w.cell? ⟨b, off + k, none⟩ = some (.int .i64 x))
    (hy : ∀ k x, ys[k]? = some x → ∃ b off, bb = some ⟨b, off, none⟩ ∧ b < w.heap.size ∧ w.cell? ⟨b, off + k, none⟩ = some (.int .i64 x)) :
    Calls Try.prog 50 #[.slice ba n c, .slice bb m c'] w fun e w' => e = .returned (.bool (decide (xs = ys))) ∧ Below w.heap.size w w' := by
  have HX := Lib.hid hx; clear hx
  have HY := Lib.hid hy; clear hy
  have HN := Lib.hid hn; clear hn
  have HM := Lib.hid hm; clear hm
  by_cases he : n = m
  · subst he
    go_enter Try.func50, Try.ntmps50
    go_wp2
    go_loopw [5] (fun i wr => ∃ k : Nat, k ≤ n ∧ i = .int .i64 k ∧ Hid (xs.take k = ys.take k) ∧ Below w.heap.size w wr) (fun i _ => n - (intOf i).toNat)
    case atStart => exact ⟨0, Nat.zero_le _, rfl, rfl, Below.refl _ _⟩
    case round =>
      obtain ⟨k, hk, rfl, hkk, hb⟩ := hrel
      by_cases hlt : k < n
      · obtain ⟨x, hxk⟩ : ∃ x, xs[k]? = some x := ⟨_, List.getElem?_eq_getElem (by rw [← HN.out]; exact hlt)⟩
        obtain ⟨y, hyk⟩ : ∃ x, ys[k]? = some x := ⟨_, List.getElem?_eq_getElem (by rw [← HM.out]; exact hlt)⟩
        obtain ⟨b1, o1, rfl, hb1, c1⟩ := HX.out k x hxk
        obtain ⟨b2, o2, rfl, hb2, c2⟩ := HY.out k y hyk
        have d1 := (hb.cell (by exact hb1)).trans c1
        have d2 := (hb.cell (by exact hb2)).trans c2
        clear c1 c2 hb1 hb2
        have HXK := Lib.hid hxk; clear hxk
        have HYK := Lib.hid hyk; clear hyk
        have hI : (k : Int) < (n : Int) := by omega
        go_wp2
        go_quiet (fail)
        go_wp2
        · go_ret
          have hxy : x ≠ y := by simpa using ‹(x != y) = true›
          exact ⟨by rw [decide_eq_false (ne_of_at HXK.out HYK.out hxy)]; rfl, below_drewN hb _⟩
        · go_roundw
          case rel =>
            have hxy : x = y := by simpa using ‹(x != y) = false›
            exact ⟨k + 1, by omega, by go_num, take_eq_succ hkk HXK.out HYK.out hxy, below_drewN hb _⟩
          case measure => simp [intOf]; omega
      · have hkn : k = n := by omega
        have hxy : xs = ys := by
          have h := Hid.out hkk
          rwa [List.take_of_length_le (by rw [← HN.out]; omega), List.take_of_length_le (by rw [← HM.out]; omega)] at h
        clear hkk
        have HE := Lib.hid hxy; clear hxy hkn
        go_wp2
        go_ret
        exact ⟨by rw [decide_eq_true HE.out]; rfl, hb⟩
  · have hne : xs ≠ ys := by intro h; apply he; rw [HN.out, HM.out, h]
    have HE := Lib.hid hne; clear hne
    go_enter Try.func50, Try.ntmps50
    go_wp2
    all_goals go_ret
    all_goals exact ⟨by rw [decide_eq_false HE.out]; rfl, Below.refl _ _⟩

set_option maxHeartbeats 400000 in
theorem equal_core (ba bb : Option Addr) (n m c c' : Nat) (xs ys : List Int) (w : World) (hn : n = xs.length) (hm : m = ys.length) (hnc : n ≤ 9223372036854775807) (_hmc : m ≤ 9223372036854775807)
    (hx : ∀ k x, xs[k]? = some x → ∃ b off, ba = some ⟨b, off, none⟩ ∧ b < w.heap.size ∧ w.cell? ⟨b, off + k, none⟩ = some (.int .i64 x))
    (hy : ∀ k x, ys[k]? = some x → ∃ b off, bb = some ⟨b, off, none⟩ ∧ b < w.heap.size ∧ w.cell? ⟨b, off + k, none⟩ = some (.int .i64 x)) :
    Calls Try.prog 37 #[.slice ba n c, .slice bb m c'] w fun e w' => e = .returned (.bool (decide (xs = ys))) ∧ Below w.heap.size w w' := by
  have HX := Lib.hid hx; clear hx
  have HY := Lib.hid hy; clear hy
  have HN := Lib.hid hn; clear hn
  have HM := Lib.hid hm; clear hm
  by_cases he : n = m
  · subst he
    go_enter Try.func37, Try.ntmps37
    go_wp2
    go_loopw [13] (fun i wr => ∃ k : Nat, k ≤ n ∧ i = .int .i64 k ∧ Hid (xs.take k = ys.take k) ∧ Below w.heap.size w wr) (fun i _ => n - (intOf i).toNat)
    case atStart => exact ⟨0, Nat.zero_le _, rfl, rfl, Below.refl _ _⟩
    case round =>
      obtain ⟨k, hk, rfl, hkk, hb⟩ := hrel
      by_cases hlt : k < n
      · obtain ⟨x, hxk⟩ : ∃ x, xs[k]? = some x := ⟨_, List.getElem?_eq_getElem (by rw [← HN.out]; exact hlt)⟩
        obtain ⟨y, hyk⟩ : ∃ x, ys[k]? = some x := ⟨_, List.getElem?_eq_getElem (by rw [← HM.out]; exact hlt)⟩
        obtain ⟨b1, o1, rfl, hb1, c1⟩ := HX.out k x hxk
        obtain ⟨b2, o2, rfl, hb2, c2⟩ := HY.out k y hyk
        have d1 := (hb.cell (by exact hb1)).trans c1
        have d2 := (hb.cell (by exact hb2)).trans c2
        clear c1 c2 hb1 hb2
        have HXK := Lib.hid hxk; clear hxk
        have HYK := Lib.hid hyk; clear hyk
        have hI : (k : Int) < (n : Int) := by omega
        go_wp2
        go_quiet (fail)
        go_wp2
        · go_ret
          have hxy : x ≠ y := by simpa using ‹(x != y) = true›
          exact ⟨by rw [decide_eq_false (ne_of_at HXK.out HYK.out hxy)]; rfl, below_drewN hb _⟩
        · go_roundw
          case rel =>
            have hxy : x = y := by simpa using ‹(x != y) = false›
            exact ⟨k + 1, by omega, by go_num, take_eq_succ hkk HXK.out HYK.out hxy, below_drewN hb _⟩
          case measure => simp [intOf]; omega
      · have hkn : k = n := by omega
        have hxy : xs = ys := by
          have h := Hid.out hkk
          rwa [List.take_of_length_le (by rw [← HN.out]; omega), List.take_of_length_le (by rw [← HM.out]; omega)] at h
        clear hkk
        have HE := Lib.hid hxy; clear hxy hkn
        go_wp2
        go_ret
        exact ⟨by rw [decide_eq_true HE.out]; rfl, hb⟩
  · have hne : xs ≠ ys := by intro h; apply he; rw [HN.out, HM.out, h]
    have HE := Lib.hid hne; clear hne
    go_enter Try.func37, Try.ntmps37
    go_wp2
    all_goals go_ret
    all_goals exact ⟨by rw [decide_eq_false HE.out]; rfl, Below.refl _ _⟩


theorem sameInts_any {va vb : Value} {xs ys : List Int} {w : World} (hx : Arr w eI 1 va xs) (hy : Arr w eI 1 vb ys) :
    Calls Try.prog 50 #[va, vb] w fun e w' => e = .returned (.bool (decide (xs = ys))) ∧ Below w.heap.size w w' := by
  obtain ⟨ba, c, rfl, h1, h2, h3⟩ := hx.at1
  obtain ⟨bb, c', rfl, h4, h5, h6⟩ := hy.at1
  exact sameInts_core ba bb _ _ c c' xs ys w rfl rfl (by omega) (by omega) h3 h6
theorem equal_any {va vb : Value} {xs ys : List Int} {w : World} (hx : Arr w eI 1 va xs) (hy : Arr w eI 1 vb ys) :
    Calls Try.prog 37 #[va, vb] w fun e w' => e = .returned (.bool (decide (xs = ys))) ∧ Below w.heap.size w w' := by
  obtain ⟨ba, c, rfl, h1, h2, h3⟩ := hx.at1
  obtain ⟨bb, c', rfl, h4, h5, h6⟩ := hy.at1
  exact equal_core ba bb _ _ c c' xs ys w rfl rfl (by omega) (by omega) h3 h6

end Go.Proofs.Ytgljbdcamagdbaa
