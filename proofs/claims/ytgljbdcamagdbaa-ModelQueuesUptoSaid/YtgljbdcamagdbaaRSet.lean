/- The reference's small parts: answers, and the place of a key. The lists are so short that memory bears them. -/
import Derived.Test.YtgljbdcamagdbaaMDo2
import Derived.Deep.LoopGhost
namespace Go.Proofs.Ytgljbdcamagdbaa
open Go.RowKit

theorem rkind_any (k : Int) (w : World) : Calls Try.prog 51 #[.int .i64 k] w (RetA w k 0) := by
  go_enter Try.func51, Try.ntmps51
  go_wp2
  refine bodyPost_ret (v := .agg #[.int .i64 k, .int .i64 0]) ?_ rfl ⟨rfl, below_box _ _⟩
  obtain ⟨⟨z0, z1⟩, _⟩ := blk2 (heap_alloc_new w (.cells #[.int .i64 k, .int .i64 0] 42))
  simp [results, Try.results51, go_sem, z0, z1]
theorem rvalue_any (v : Int) (w : World) : Calls Try.prog 52 #[.int .i64 v] w (RetA w 2 v) := by
  go_enter Try.func52, Try.ntmps52
  go_wp2
  refine bodyPost_ret (v := .agg #[.int .i64 2, .int .i64 v]) ?_ rfl ⟨rfl, below_box _ _⟩
  obtain ⟨⟨z0, z1⟩, _⟩ := blk2 (heap_alloc_new w (.cells #[.int .i64 2, .int .i64 v] 42))
  simp [results, Try.results52, go_sem, z0, z1]
theorem ryes_any (b : Bool) (w : World) : Calls Try.prog 56 #[.bool b] w (RetA w (if b then 5 else 6) 0) := by
  have C : Hid (∀ k wx, Calls Try.prog 51 #[.int .i64 k] wx (RetA wx k 0)) := rkind_any
  cases b
  · go_enter Try.func56, Try.ntmps56
    go_wp2_with fail
    obtain ⟨hW, hS, hA⟩ := one_box w #[.int .i64 0, .int .i64 0] 42
    generalize w.alloc (.cells #[.int .i64 0, .int .i64 0] 42) = W1 at *
    (with_reducible refine (C.out _ _).mono ?_)
    rintro r w2 ⟨rfl, hb⟩
    have hA2 := (hb.block w.heap.size (by omega)).trans hA
    have hbw : Below w.heap.size w w2 := hW.trans (hb.mono (by omega))
    have HA := Lib.hid hA2
    have HB := Lib.hid hbw
    clear hA hb hbw hW
    obtain ⟨⟨x0, x1⟩, ⟨f0, f1⟩⟩ := blk2 hA2
    clear hA2
    go_wp2
    rw [set2 HA.out]
    clear x0 x1 f0 f1
    obtain ⟨⟨z0, z1⟩, _⟩ := blk2 (setRow_heap w2 w.heap.size _ #[.int .i64 6, .int .i64 0] 42 (0, 0) HA.out)
    refine bodyPost_ret (v := .agg #[.int .i64 6, .int .i64 0]) ?_ rfl ⟨rfl, below_setRow' HB.out (Nat.le_refl _) _⟩
    simp [results, Try.results56, go_sem, z0, z1]
  · go_enter Try.func56, Try.ntmps56
    go_wp2_with fail
    obtain ⟨hW, hS, hA⟩ := one_box w #[.int .i64 0, .int .i64 0] 42
    generalize w.alloc (.cells #[.int .i64 0, .int .i64 0] 42) = W1 at *
    (with_reducible refine (C.out _ _).mono ?_)
    rintro r w2 ⟨rfl, hb⟩
    have hA2 := (hb.block w.heap.size (by omega)).trans hA
    have hbw : Below w.heap.size w w2 := hW.trans (hb.mono (by omega))
    have HA := Lib.hid hA2
    have HB := Lib.hid hbw
    clear hA hb hbw hW
    obtain ⟨⟨x0, x1⟩, ⟨f0, f1⟩⟩ := blk2 hA2
    clear hA2
    go_wp2
    rw [set2 HA.out]
    clear x0 x1 f0 f1
    obtain ⟨⟨z0, z1⟩, _⟩ := blk2 (setRow_heap w2 w.heap.size _ #[.int .i64 5, .int .i64 0] 42 (0, 0) HA.out)
    refine bodyPost_ret (v := .agg #[.int .i64 5, .int .i64 0]) ?_ rfl ⟨rfl, below_setRow' HB.out (Nat.le_refl _) _⟩
    simp [results, Try.results56, go_sem, z0, z1]

set_option maxRecDepth 100000 in
set_option maxHeartbeats 4000000 in
theorem rsearch_set {v : Value} {l : List Int} {k : Int} {w : World} (h : Arr w eI 1 v l) (hinc : incB l = true) (hl : l.length < 4611686018427387904) :
    Calls Try.prog 54 #[v, .int .i64 k] w (RetS w l k) := by
  obtain ⟨ba, cap, rfl, hlc, hcm, g⟩ := h.at1
  have S := Lib.hid (inc_lt hinc)
  have G := Lib.hid g
  clear g hinc h
  obtain ⟨n, hn⟩ : ∃ n, n = l.length := ⟨_, rfl⟩
  rw [← hn] at hl hlc ⊢
  have HK : Hid ((l).length = n) := by show _ = _; rw [hn]
  have HN := Lib.hid hn; clear hn
  go_enter Try.func54, Try.ntmps54
  go_wp2
  go_loopg [6] n (fun g s6 wr => ∃ lo : Nat, s6 = .int .i64 lo ∧ lo ≤ n ∧ n - lo ≤ g ∧ Hid (Below w.heap.size w wr) ∧ Hid (∀ j x, l[j]? = some x → j < lo → x < k))
  case atStart => exact ⟨0, rfl, Nat.zero_le _, by omega, Below.refl _ _, (fun j x _ hj => by omega : ∀ j x, l[j]? = some x → j < 0 → x < k)⟩
  case round =>
    obtain ⟨lo, rfl, hin, hg, hb, I⟩ := hrel
    by_cases hlt : lo < n
    · obtain ⟨y, hy⟩ : ∃ y, l[lo]? = some y := ⟨_, List.getElem?_eq_getElem (by rw [← HN.out]; exact hlt)⟩
      obtain ⟨b1, o1, rfl, hb1, c1⟩ := G.out _ y hy
      have d1 := (hb.out.cell (by exact hb1)).trans c1
      clear c1 hb1
      have hI : (lo : Int) < (n : Int) := by omega
      have Y := Lib.hid hy; clear hy
      by_cases hyx : y < k
      · go_wp2
        go_roundg (n - (lo + 1))
        case measure => omega
        case rel =>
          refine ⟨lo + 1, rfl, by omega, Nat.le_refl _, hb, (fun j x hx hj => ?_ : ∀ j x, l[j]? = some x → j < lo + 1 → x < k)⟩
          by_cases e : j = lo
          · subst e; rw [Y.out] at hx; cases hx; exact hyx
          · exact I.out j x hx (by omega)
      · have P0 : Hid (Pos l k lo) := (⟨by rw [HK.out]; omega, I.out, fun j x hx hj => by
          by_cases e : j = lo
          · subst e; rw [Y.out] at hx; cases hx; omega
          · have := S.out lo j _ x (by omega) Y.out hx; omega⟩ : Pos l k lo)
        clear I S
        by_cases hyk : y = k
        · go_wp2
          go_quiet (fail)
          go_wp2
          go_ret2
          exact ⟨lo, by rw [Y.out, decide_eq_true (congrArg some hyk)]; first | rfl | simp [*], P0.out, by first | exact hb.out | exact hb.out.drew | exact below_drewN hb.out _⟩
        · go_wp2
          go_quiet (fail)
          go_wp2
          go_ret2
          exact ⟨lo, by rw [Y.out, decide_eq_false (fun h => hyk (Option.some.inj h))]; first | rfl | simp [*], P0.out, by first | exact hb.out | exact hb.out.drew | exact below_drewN hb.out _⟩
    · obtain rfl : lo = n := by omega
      have hnone : l[lo]? = none := List.getElem?_eq_none (by rw [HK.out]; omega)
      have Y := Lib.hid hnone; clear hnone
      have P0 : Hid (Pos l k lo) := (⟨by rw [HK.out]; omega, I.out, fun j x hx hj => by have := (List.getElem?_eq_some_iff.1 hx).1; have := HK.out; omega⟩ : Pos l k lo)
      clear I S
      have hI : ¬ (lo : Int) < (lo : Int) := by omega
      have hd : decide ((lo : Int) < (lo : Int)) = false := by simp
      go_wp2
      go_quiet (fail)
      go_wp2
      go_ret2
      exact ⟨lo, by rw [Y.out]; first | rfl | simp [*], P0.out, by first | exact hb.out | exact hb.out.drew | exact below_drewN hb.out _⟩

set_option maxRecDepth 100000 in
set_option maxHeartbeats 4000000 in
theorem rsearch_table {v : Value} {l : List (Int × Int)} {k : Int} {w : World} (h : Arr w eP 2 v l) (hinc : incB (keys l) = true) (hl : l.length < 4611686018427387904) :
    Calls Try.prog 55 #[v, .int .i64 k] w (RetS w (keys l) k) := by
  obtain ⟨ba, cap, rfl, hlc, hcm, g⟩ := h.at2
  have S := Lib.hid (inc_lt hinc)
  have G := Lib.hid g
  clear g hinc h
  obtain ⟨n, hn⟩ : ∃ n, n = l.length := ⟨_, rfl⟩
  rw [← hn] at hl hlc ⊢
  have HK : Hid (((keys l)).length = n) := by show _ = _; rw [hn]; simp [keys]
  have HN := Lib.hid hn; clear hn
  go_enter Try.func55, Try.ntmps55
  go_wp2
  go_loopg [6] n (fun g s6 wr => ∃ lo : Nat, s6 = .int .i64 lo ∧ lo ≤ n ∧ n - lo ≤ g ∧ Hid (Below w.heap.size w wr) ∧ Hid (∀ j x, (keys l)[j]? = some x → j < lo → x < k))
  case atStart => exact ⟨0, rfl, Nat.zero_le _, by omega, Below.refl _ _, (fun j x _ hj => by omega : ∀ j x, (keys l)[j]? = some x → j < 0 → x < k)⟩
  case round =>
    obtain ⟨lo, rfl, hin, hg, hb, I⟩ := hrel
    by_cases hlt : lo < n
    · obtain ⟨y, hy⟩ : ∃ y, l[lo]? = some y := ⟨_, List.getElem?_eq_getElem (by rw [← HN.out]; exact hlt)⟩
      obtain ⟨b1, o1, rfl, hb1, c1, c2⟩ := G.out _ y hy
      have d1 := (hb.out.cell (by exact hb1)).trans c1
      clear c1 c2 hb1
      have hI : (lo : Int) < (n : Int) := by omega
      have Y := Lib.hid (keys_at hy); clear hy
      by_cases hyx : y.1 < k
      · go_wp2
        go_roundg (n - (lo + 1))
        case measure => omega
        case rel =>
          refine ⟨lo + 1, rfl, by omega, Nat.le_refl _, hb, (fun j x hx hj => ?_ : ∀ j x, (keys l)[j]? = some x → j < lo + 1 → x < k)⟩
          by_cases e : j = lo
          · subst e; rw [Y.out] at hx; cases hx; exact hyx
          · exact I.out j x hx (by omega)
      · have P0 : Hid (Pos (keys l) k lo) := (⟨by rw [HK.out]; omega, I.out, fun j x hx hj => by
          by_cases e : j = lo
          · subst e; rw [Y.out] at hx; cases hx; omega
          · have := S.out lo j _ x (by omega) Y.out hx; omega⟩ : Pos (keys l) k lo)
        clear I S
        by_cases hyk : y.1 = k
        · go_wp2
          go_quiet (fail)
          go_wp2
          go_ret2
          exact ⟨lo, by rw [Y.out, decide_eq_true (congrArg some hyk)]; first | rfl | simp [*], P0.out, by first | exact hb.out | exact hb.out.drew | exact below_drewN hb.out _⟩
        · go_wp2
          go_quiet (fail)
          go_wp2
          go_ret2
          exact ⟨lo, by rw [Y.out, decide_eq_false (fun h => hyk (Option.some.inj h))]; first | rfl | simp [*], P0.out, by first | exact hb.out | exact hb.out.drew | exact below_drewN hb.out _⟩
    · obtain rfl : lo = n := by omega
      have hnone : (keys l)[lo]? = none := List.getElem?_eq_none (by rw [HK.out]; omega)
      have Y := Lib.hid hnone; clear hnone
      have P0 : Hid (Pos (keys l) k lo) := (⟨by rw [HK.out]; omega, I.out, fun j x hx hj => by have := (List.getElem?_eq_some_iff.1 hx).1; have := HK.out; omega⟩ : Pos (keys l) k lo)
      clear I S
      have hI : ¬ (lo : Int) < (lo : Int) := by omega
      have hd : decide ((lo : Int) < (lo : Int)) = false := by simp
      go_wp2
      go_quiet (fail)
      go_wp2
      go_ret2
      exact ⟨lo, by rw [Y.out]; first | rfl | simp [*], P0.out, by first | exact hb.out | exact hb.out.drew | exact below_drewN hb.out _⟩

end Go.Proofs.Ytgljbdcamagdbaa
