/- model.Same and reclaimmodel.Same answer whether two contents are one. No conditions. -/
import Derived.Test.YtgljbdcamagdbaaMay
namespace Go.Proofs.Ytgljbdcamagdbaa
open Go.RowKit

theorem guardPair : Try.prog.eqGuardType Try.prog.depth 76 = false := by kernel_rfl
theorem eqPair (x x2 y y2 : Int) (w : World) : (binOp .eql 76 (.agg #[.int .i64 x, .int .i64 x2]) (.agg #[.int .i64 y, .int .i64 y2])).run Try.prog w = .ok (.bool (x == y && x2 == y2)) w := by
  have u3 := Try.underlying3
  have a3 := Try.isAgg3
  have z3 := Try.sizeOf3
  have hS : Try.prog.underlying 76 = some (.struct (Try.prog.fieldsOf 76)) := by kernel_rfl
  have hp : Try.prog.stoodInHeld 76 = false := by kernel_rfl
  rw [run_eql_struct, show (10000 : Nat) = 9999 + 1 from rfl, run_equalIn_agg w 9999 76 _ _ hS hp]
  simp only [Program.fieldsOf, Try.underlying76]
  go_simp
  by_cases h1 : x = y <;> by_cases h2 : x2 = y2 <;> simp [h1, h2]
theorem nePair (x x2 y y2 : Int) (w : World) : (binOp .neq 76 (.agg #[.int .i64 x, .int .i64 x2]) (.agg #[.int .i64 y, .int .i64 y2])).run Try.prog w = .ok (.bool (!(x == y && x2 == y2))) w := by
  have u3 := Try.underlying3
  have a3 := Try.isAgg3
  have z3 := Try.sizeOf3
  have hS : Try.prog.underlying 76 = some (.struct (Try.prog.fieldsOf 76)) := by kernel_rfl
  have hp : Try.prog.stoodInHeld 76 = false := by kernel_rfl
  rw [run_neq_struct, show (10000 : Nat) = 9999 + 1 from rfl, run_equalIn_agg w 9999 76 _ _ hS hp]
  simp only [Program.fieldsOf, Try.underlying76]
  go_simp
  by_cases h1 : x = y <;> by_cases h2 : x2 = y2 <;> simp [h1, h2]

theorem box5 {W wr : World} {n m : Nat} {a b c d e : Value} (hX : ∀ j u, #[a, b, c, d, e][j]? = some u → W.cell? ⟨n, j, none⟩ = some u) (hb : Below m W wr) (h : n < m) :
    wr.cell? ⟨n, 0, none⟩ = some a ∧ wr.cell? ⟨n, 1, none⟩ = some b ∧ wr.cell? ⟨n, 2, none⟩ = some c ∧ wr.cell? ⟨n, 3, none⟩ = some d ∧ wr.cell? ⟨n, 4, none⟩ = some e :=
  ⟨(hb.cell h).trans (hX 0 _ rfl), (hb.cell h).trans (hX 1 _ rfl), (hb.cell h).trans (hX 2 _ rfl), (hb.cell h).trans (hX 3 _ rfl), (hb.cell h).trans (hX 4 _ rfl)⟩
theorem below_call {B : Nat} {W wr w' : World} (hb : Below B W wr) (hB : B ≤ W.heap.size) (h : Below wr.heap.size wr w') : Below B W w' :=
  hb.trans (h.mono (Nat.le_trans hB hb.size))

set_option maxHeartbeats 1000000 in
theorem mSame_core (a b c d a' b' c' d' : Value) (be bf : Option Addr) (n n' ce cf : Nat) (m m' : MC) (w : World)
    (hn : n = m.table.length) (hn' : n' = m'.table.length) (hnc : n ≤ 9223372036854775807) (hnc' : n' ≤ 9223372036854775807)
    (ha : Arr w eI 1 a m.cell) (hb : Arr w eI 1 b m.stack) (hc : Arr w eI 1 c m.queue) (hd : Arr w eI 1 d m.set)
    (ha' : Arr w eI 1 a' m'.cell) (hb' : Arr w eI 1 b' m'.stack) (hc' : Arr w eI 1 c' m'.queue) (hd' : Arr w eI 1 d' m'.set)
    (he : ∀ k x, m.table[k]? = some x → ∃ b off, be = some ⟨b, off, none⟩ ∧ b < w.heap.size ∧ w.cell? ⟨b, off + k * 2, none⟩ = some (.int .i64 x.1) ∧ w.cell? ⟨b, off + k * 2 + 1, none⟩ = some (.int .i64 x.2))
    (he' : ∀ k x, m'.table[k]? = some x → ∃ b off, bf = some ⟨b, off, none⟩ ∧ b < w.heap.size ∧ w.cell? ⟨b, off + k * 2, none⟩ = some (.int .i64 x.1) ∧ w.cell? ⟨b, off + k * 2 + 1, none⟩ = some (.int .i64 x.2)) :
    Calls Try.prog 19 #[.agg #[a, b, c, d, .slice be n ce], .agg #[a', b', c', d', .slice bf n' cf]] w fun e w' => e = .returned (.bool (decide (m = m'))) ∧ Below w.heap.size w w' := by
  have HE := Lib.hid he; clear he
  have HE' := Lib.hid he'; clear he'
  have HN := Lib.hid hn; clear hn
  have HN' := Lib.hid hn'; clear hn'
  have HA := Lib.hid ha; clear ha
  have HB := Lib.hid hb; clear hb
  have HC := Lib.hid hc; clear hc
  have HD := Lib.hid hd; clear hd
  have HA' := Lib.hid ha'; clear ha'
  have HB' := Lib.hid hb'; clear hb'
  have HC' := Lib.hid hc'; clear hc'
  have HD' := Lib.hid hd'; clear hd'
  by_cases hnn : n = n'
  · subst hnn
    go_enter Try.func19, Try.ntmps19
    go_wp2
    have hW0' : Below w.heap.size w ((w.alloc (.cells #[a, b, c, d, .slice be n ce] 29)).alloc (.cells #[a', b', c', d', .slice bf n cf] 29)) := (below_box _ _).trans ((below_box _ _).mono (by simp))
    have hsz : w.heap.size + 2 ≤ ((w.alloc (.cells #[a, b, c, d, .slice be n ce] 29)).alloc (.cells #[a', b', c', d', .slice bf n cf] 29)).heap.size := by simp
    have X : Hid (∀ j u, #[a, b, c, d, Value.slice be n ce][j]? = some u → ((w.alloc (.cells #[a, b, c, d, .slice be n ce] 29)).alloc (.cells #[a', b', c', d', .slice bf n cf] 29)).cell? ⟨w.heap.size, j, none⟩ = some u) :=
      fun j u h => ((below_box _ _).cell (by simp)).trans (box_cell w _ _ j u h)
    have X' : Hid (∀ j u, #[a', b', c', d', Value.slice bf n cf][j]? = some u → ((w.alloc (.cells #[a, b, c, d, .slice be n ce] 29)).alloc (.cells #[a', b', c', d', .slice bf n cf] 29)).cell? ⟨w.heap.size + 1, j, none⟩ = some u) :=
      fun j u h => box_cell' _ _ (by simp) j u h
    generalize (w.alloc (.cells #[a, b, c, d, .slice be n ce] 29)).alloc (.cells #[a', b', c', d', .slice bf n cf] 29) = W1 at *
    go_loopw [16] (fun i wr => ∃ k : Nat, k ≤ n ∧ i = .int .i64 k ∧ Hid (m.table.take k = m'.table.take k) ∧ Below (w.heap.size + 2) W1 wr) (fun i _ => n - (intOf i).toNat)
    case atStart => exact ⟨0, by omega, rfl, rfl, Below.refl _ _⟩
    case round =>
      obtain ⟨k, hk, rfl, hkk, hb⟩ := hrel
      have y4 := (hb.cell (by show w.heap.size < w.heap.size + 2; omega)).trans (X.out 4 _ rfl)
      have y4' := (hb.cell (by show w.heap.size + 1 < w.heap.size + 2; omega)).trans (X'.out 4 _ rfl)
      have hbw : Below w.heap.size w wr := hW0'.trans (hb.mono (by omega))
      by_cases hlt : k < n
      · obtain ⟨x, hxk⟩ : ∃ x, m.table[k]? = some x := ⟨_, List.getElem?_eq_getElem (by rw [← HN.out]; omega)⟩
        obtain ⟨y, hyk⟩ : ∃ x, m'.table[k]? = some x := ⟨_, List.getElem?_eq_getElem (by rw [← HN'.out]; exact hlt)⟩
        obtain ⟨b1, o1, rfl, hb1, c1, e1⟩ := HE.out k x hxk
        obtain ⟨b2, o2, rfl, hb2, c2, e2⟩ := HE'.out k y hyk
        have d1 := (hbw.cell (by exact hb1)).trans c1
        have d2 := (hbw.cell (by exact hb2)).trans c2
        have f1 := (hbw.cell (by exact hb1)).trans e1
        have f2 := (hbw.cell (by exact hb2)).trans e2
        clear c1 c2 e1 e2 hb1 hb2
        have HXK := Lib.hid hxk; clear hxk
        have HYK := Lib.hid hyk; clear hyk
        obtain ⟨x, x2⟩ := x
        obtain ⟨y, y2⟩ := y
        have hI : (k : Int) < (n : Int) := by omega
        have hg := guardPair
        have hne := fun wx => nePair x x2 y y2 wx
        go_wp2
        go_quiet (fail)
        clear hne hg
        go_wp2
        · go_ret
          have hxy := ‹(!x == y) = true ∨ (!x2 == y2) = true›
          have hxy' : (x, x2) ≠ (y, y2) := by intro e; simp at e; simp [e] at hxy
          have hmm : m ≠ m' := by rintro rfl; exact ne_of_at HXK.out HYK.out hxy' rfl
          exact ⟨by rw [decide_eq_false hmm]; rfl, below_drewN (hW0'.trans (hb.mono (by omega))) _⟩
        · go_roundw
          case rel =>
            have hxy := ‹(!x == y) = false ∧ (!x2 == y2) = false›
            have hxy' : (x, x2) = (y, y2) := by simpa using hxy
            exact ⟨k + 1, by omega, by go_num, take_eq_succ hkk.out HXK.out HYK.out hxy', below_drewN hb _⟩
          case measure => simp [intOf]; omega
      · have htab : m.table = m'.table := by
          have h := hkk.out
          rwa [List.take_of_length_le (by rw [← HN.out]; omega), List.take_of_length_le (by rw [← HN'.out]; omega)] at h
        have HTAB := Lib.hid htab; clear htab hkk y4 y4'
        have hI : ¬ (k : Int) < (n : Int) := by omega
        obtain ⟨p1, q1⟩ : ∃ p, decide (m.cell = m'.cell) = p := ⟨_, rfl⟩
        obtain ⟨p2, q2⟩ : ∃ p, decide (m.stack = m'.stack) = p := ⟨_, rfl⟩
        obtain ⟨p3, q3⟩ : ∃ p, decide (m.queue = m'.queue) = p := ⟨_, rfl⟩
        obtain ⟨p4, q4⟩ : ∃ p, decide (m.set = m'.set) = p := ⟨_, rfl⟩
        have hfin : decide (m = m') = (p1 && p2 && p3 && p4) := by
          rw [← q1, ← q2, ← q3, ← q4]
          obtain ⟨m1, m2, m3, m4, m5⟩ := m
          obtain ⟨n1, n2, n3, n4, n5⟩ := m'
          have h5 : m5 = n5 := HTAB.out
          rw [Bool.eq_iff_iff]
          simp [h5, and_assoc]
        have HF := Lib.hid hfin; clear hfin
        have C1 : Hid (∀ wx, Below w.heap.size w wx → Calls Try.prog 37 #[a, a'] wx fun e w' => e = .returned (.bool p1) ∧ Below wx.heap.size wx w') := by intro wx h; rw [← q1]; exact equal_any (HA.out.below h) (HA'.out.below h)
        have C2 : Hid (∀ wx, Below w.heap.size w wx → Calls Try.prog 37 #[b, b'] wx fun e w' => e = .returned (.bool p2) ∧ Below wx.heap.size wx w') := by intro wx h; rw [← q2]; exact equal_any (HB.out.below h) (HB'.out.below h)
        have C3 : Hid (∀ wx, Below w.heap.size w wx → Calls Try.prog 37 #[c, c'] wx fun e w' => e = .returned (.bool p3) ∧ Below wx.heap.size wx w') := by intro wx h; rw [← q3]; exact equal_any (HC.out.below h) (HC'.out.below h)
        have C4 : Hid (∀ wx, Below w.heap.size w wx → Calls Try.prog 37 #[d, d'] wx fun e w' => e = .returned (.bool p4) ∧ Below wx.heap.size wx w') := by intro wx h; rw [← q4]; exact equal_any (HD.out.below h) (HD'.out.below h)
        clear q1 q2 q3 q4 HA HB HC HD HA' HB' HC' HD' HE HE' HN HN' HTAB hk hlt
        obtain ⟨y0, y1, y2, y3, y4⟩ := box5 X.out hb (by omega)
        obtain ⟨z0, z1, z2, z3, z4⟩ := box5 X'.out hb (by omega)
        go_wp2_with (first
          | (go_at_call 37; (first | (with_reducible refine (C1.out _ hbw).mono ?_) | (with_reducible refine (C2.out _ hbw).mono ?_) | (with_reducible refine (C3.out _ hbw).mono ?_) | (with_reducible refine (C4.out _ hbw).mono ?_)); rintro e w2 ⟨rfl, hb2⟩; have hb := below_call hb hsz hb2; have hbw := hW0'.trans (hb.mono (by omega)); obtain ⟨y0, y1, y2, y3, y4⟩ := box5 X.out hb (by omega); obtain ⟨z0, z1, z2, z3, z4⟩ := box5 X'.out hb (by omega)))
        all_goals go_ret
        all_goals exact ⟨by rw [HF.out]; simp [*], hbw⟩
  · have hmm : m ≠ m' := by rintro rfl; exact hnn (HN.out.trans HN'.out.symm)
    have HMM := Lib.hid hmm; clear hmm
    go_enter Try.func19, Try.ntmps19
    go_wp2
    go_ret
    exact ⟨by rw [decide_eq_false HMM.out]; rfl, (below_box _ _).trans ((below_box _ _).mono (by simp))⟩
set_option maxHeartbeats 1000000 in
theorem rSame_core (a b c d a' b' c' d' : Value) (be bf : Option Addr) (n n' ce cf : Nat) (m m' : MC) (w : World)
    (hn : n = m.table.length) (hn' : n' = m'.table.length) (hnc : n ≤ 9223372036854775807) (hnc' : n' ≤ 9223372036854775807)
    (ha : Arr w eI 1 a m.cell) (hb : Arr w eI 1 b m.stack) (hc : Arr w eI 1 c m.queue) (hd : Arr w eI 1 d m.set)
    (ha' : Arr w eI 1 a' m'.cell) (hb' : Arr w eI 1 b' m'.stack) (hc' : Arr w eI 1 c' m'.queue) (hd' : Arr w eI 1 d' m'.set)
    (he : ∀ k x, m.table[k]? = some x → ∃ b off, be = some ⟨b, off, none⟩ ∧ b < w.heap.size ∧ w.cell? ⟨b, off + k * 2, none⟩ = some (.int .i64 x.1) ∧ w.cell? ⟨b, off + k * 2 + 1, none⟩ = some (.int .i64 x.2))
    (he' : ∀ k x, m'.table[k]? = some x → ∃ b off, bf = some ⟨b, off, none⟩ ∧ b < w.heap.size ∧ w.cell? ⟨b, off + k * 2, none⟩ = some (.int .i64 x.1) ∧ w.cell? ⟨b, off + k * 2 + 1, none⟩ = some (.int .i64 x.2)) :
    Calls Try.prog 39 #[.agg #[a, b, c, d, .slice be n ce], .agg #[a', b', c', d', .slice bf n' cf]] w fun e w' => e = .returned (.bool (decide (m = m'))) ∧ Below w.heap.size w w' := by
  have HE := Lib.hid he; clear he
  have HE' := Lib.hid he'; clear he'
  have HN := Lib.hid hn; clear hn
  have HN' := Lib.hid hn'; clear hn'
  have HA := Lib.hid ha; clear ha
  have HB := Lib.hid hb; clear hb
  have HC := Lib.hid hc; clear hc
  have HD := Lib.hid hd; clear hd
  have HA' := Lib.hid ha'; clear ha'
  have HB' := Lib.hid hb'; clear hb'
  have HC' := Lib.hid hc'; clear hc'
  have HD' := Lib.hid hd'; clear hd'
  obtain ⟨p1, q1⟩ : ∃ p, decide (m.cell = m'.cell) = p := ⟨_, rfl⟩
  obtain ⟨p2, q2⟩ : ∃ p, decide (m.stack = m'.stack) = p := ⟨_, rfl⟩
  obtain ⟨p3, q3⟩ : ∃ p, decide (m.queue = m'.queue) = p := ⟨_, rfl⟩
  obtain ⟨p4, q4⟩ : ∃ p, decide (m.set = m'.set) = p := ⟨_, rfl⟩
  have hfin : decide (m = m') = (p1 && p2 && p3 && p4 && decide (m.table = m'.table)) := by
    rw [← q1, ← q2, ← q3, ← q4]
    obtain ⟨m1, m2, m3, m4, m5⟩ := m
    obtain ⟨n1, n2, n3, n4, n5⟩ := m'
    rw [Bool.eq_iff_iff]
    simp [and_assoc]
  have HF := Lib.hid hfin; clear hfin
  have C1 : Hid (∀ wx, Below w.heap.size w wx → Calls Try.prog 50 #[a, a'] wx fun e w' => e = .returned (.bool p1) ∧ Below wx.heap.size wx w') := by intro wx h; rw [← q1]; exact sameInts_any (HA.out.below h) (HA'.out.below h)
  have C2 : Hid (∀ wx, Below w.heap.size w wx → Calls Try.prog 50 #[b, b'] wx fun e w' => e = .returned (.bool p2) ∧ Below wx.heap.size wx w') := by intro wx h; rw [← q2]; exact sameInts_any (HB.out.below h) (HB'.out.below h)
  have C3 : Hid (∀ wx, Below w.heap.size w wx → Calls Try.prog 50 #[c, c'] wx fun e w' => e = .returned (.bool p3) ∧ Below wx.heap.size wx w') := by intro wx h; rw [← q3]; exact sameInts_any (HC.out.below h) (HC'.out.below h)
  have C4 : Hid (∀ wx, Below w.heap.size w wx → Calls Try.prog 50 #[d, d'] wx fun e w' => e = .returned (.bool p4) ∧ Below wx.heap.size wx w') := by intro wx h; rw [← q4]; exact sameInts_any (HD.out.below h) (HD'.out.below h)
  clear q1 q2 q3 q4 HA HB HC HD HA' HB' HC' HD'
  by_cases hnn : n = n'
  · subst hnn
    go_enter Try.func39, Try.ntmps39
    have hW0' : Below w.heap.size w ((w.alloc (.cells #[a, b, c, d, .slice be n ce] 29)).alloc (.cells #[a', b', c', d', .slice bf n cf] 29)) := (below_box _ _).trans ((below_box _ _).mono (by simp))
    have hsz : w.heap.size + 2 ≤ ((w.alloc (.cells #[a, b, c, d, .slice be n ce] 29)).alloc (.cells #[a', b', c', d', .slice bf n cf] 29)).heap.size := by simp
    have X : Hid (∀ j u, #[a, b, c, d, Value.slice be n ce][j]? = some u → ((w.alloc (.cells #[a, b, c, d, .slice be n ce] 29)).alloc (.cells #[a', b', c', d', .slice bf n cf] 29)).cell? ⟨w.heap.size, j, none⟩ = some u) :=
      fun j u h => ((below_box _ _).cell (by simp)).trans (box_cell w _ _ j u h)
    have X' : Hid (∀ j u, #[a', b', c', d', Value.slice bf n cf][j]? = some u → ((w.alloc (.cells #[a, b, c, d, .slice be n ce] 29)).alloc (.cells #[a', b', c', d', .slice bf n cf] 29)).cell? ⟨w.heap.size + 1, j, none⟩ = some u) :=
      fun j u h => box_cell' _ _ (by simp) j u h
    have hb := Below.refl (w.heap.size + 2) ((w.alloc (.cells #[a, b, c, d, .slice be n ce] 29)).alloc (.cells #[a', b', c', d', .slice bf n cf] 29))
    have HB2 := Lib.hid hb; clear hb
    have HSZ := Lib.hid hsz; clear hsz
    go_wp2_with (first
      | (go_at_call 50; have hsz := HSZ.out; generalize (w.alloc (.cells #[a, b, c, d, .slice be n ce] 29)).alloc (.cells #[a', b', c', d', .slice bf n cf] 29) = W1 at *; have hb := HB2.out; clear HB2 HSZ; (with_reducible refine (C1.out _ hW0').mono ?_); rintro e w2 ⟨rfl, hb2⟩; have hb := below_call hb hsz hb2; have hbw := hW0'.trans (hb.mono (by omega)); obtain ⟨y0, y1, y2, y3, y4⟩ := box5 X.out hb (by omega); obtain ⟨z0, z1, z2, z3, z4⟩ := box5 X'.out hb (by omega))
      | (go_at_call 50; (first | (with_reducible refine (C2.out _ hbw).mono ?_) | (with_reducible refine (C3.out _ hbw).mono ?_) | (with_reducible refine (C4.out _ hbw).mono ?_)); rintro e w2 ⟨rfl, hb2⟩; have hb := below_call hb hsz hb2; have hbw := hW0'.trans (hb.mono (by omega)); obtain ⟨y0, y1, y2, y3, y4⟩ := box5 X.out hb (by omega); obtain ⟨z0, z1, z2, z3, z4⟩ := box5 X'.out hb (by omega)))
    all_goals first | (go_ret; exact ⟨by rw [HF.out]; simp_all, hbw⟩) | skip
    have hp4 : p4 = true := by simpa using ‹(!p4) = false›
    have hp3 : p3 = true := by assumption
    have hp2 : p2 = true := by assumption
    have hp1 : p1 = true := by assumption
    have HF' : Hid (decide (m = m') = decide (m.table = m'.table)) := by show _ = _; rw [HF.out, hp1, hp2, hp3, hp4]; rfl
    subst hp4
    simp only [Bool.not_true]
    clear HF hp1 hp2 hp3 C1 C2 C3 C4 y0 y1 y2 y3 y4 z0 z1 z2 z3 z4
    go_loopw [5] (fun i wr => ∃ k : Nat, k ≤ n ∧ i = .int .i64 k ∧ Hid (m.table.take k = m'.table.take k) ∧ Below (w.heap.size + 2) W1 wr) (fun i _ => n - (intOf i).toNat)
    case atStart => exact ⟨0, by omega, rfl, rfl, hb⟩
    case round =>
      obtain ⟨k, hk, rfl, hkk, hb⟩ := hrel
      obtain ⟨_, _, _, _, y4⟩ := box5 X.out hb (by omega)
      obtain ⟨_, _, _, _, z4⟩ := box5 X'.out hb (by omega)
      have hbw : Below w.heap.size w wr := hW0'.trans (hb.mono (by omega))
      by_cases hlt : k < n
      · obtain ⟨x, hxk⟩ : ∃ x, m.table[k]? = some x := ⟨_, List.getElem?_eq_getElem (by rw [← HN.out]; omega)⟩
        obtain ⟨y, hyk⟩ : ∃ x, m'.table[k]? = some x := ⟨_, List.getElem?_eq_getElem (by rw [← HN'.out]; exact hlt)⟩
        obtain ⟨b1, o1, rfl, hb1, c1, e1⟩ := HE.out k x hxk
        obtain ⟨b2, o2, rfl, hb2, c2, e2⟩ := HE'.out k y hyk
        have d1 := (hbw.cell (by exact hb1)).trans c1
        have d2 := (hbw.cell (by exact hb2)).trans c2
        have f1 := (hbw.cell (by exact hb1)).trans e1
        have f2 := (hbw.cell (by exact hb2)).trans e2
        clear c1 c2 e1 e2 hb1 hb2
        have HXK := Lib.hid hxk; clear hxk
        have HYK := Lib.hid hyk; clear hyk
        obtain ⟨x, x2⟩ := x
        obtain ⟨y, y2⟩ := y
        have hI : (k : Int) < (n : Int) := by omega
        by_cases hxy : x = y
        · by_cases hxy2 : x2 = y2
          · subst hxy
            subst hxy2
            have ht := take_eq_succ hkk.out HXK.out HYK.out rfl
            have HT := Lib.hid ht; clear ht
            go_wp2
            go_quiet (fail)
            go_wp2
            go_roundw
            case rel => exact ⟨k + 1, by omega, by go_num, HT, below_drewN hb _⟩
            case measure => simp [intOf]; omega
          · subst hxy
            have hmm : m.table ≠ m'.table := ne_of_at HXK.out HYK.out (by simpa using hxy2)
            have HMM := Lib.hid hmm; clear hmm
            have hne : (x2 != y2) = true := by simpa using hxy2
            clear hxy2
            go_wp2
            go_quiet (fail)
            go_wp2
            go_ret
            exact ⟨by rw [HF'.out, decide_eq_false HMM.out]; rfl, below_drewN hbw _⟩
        · have hmm : m.table ≠ m'.table := ne_of_at HXK.out HYK.out (by simp [hxy])
          have HMM := Lib.hid hmm; clear hmm
          have hne : (x != y) = true := by simpa using hxy
          clear hxy
          go_wp2
          go_quiet (fail)
          go_wp2
          go_ret
          exact ⟨by rw [HF'.out, decide_eq_false HMM.out]; rfl, below_drewN hbw _⟩
      · have htab : m.table = m'.table := by
          have h := hkk.out
          rwa [List.take_of_length_le (by rw [← HN.out]; omega), List.take_of_length_le (by rw [← HN'.out]; omega)] at h
        have HTAB := Lib.hid htab; clear htab hkk
        have hI : ¬ (k : Int) < (n : Int) := by omega
        go_wp2
        go_ret
        exact ⟨by rw [HF'.out, decide_eq_true HTAB.out]; rfl, hbw⟩
  · have hmm : m ≠ m' := by rintro rfl; exact hnn (HN.out.trans HN'.out.symm)
    have HMM := Lib.hid hmm; clear hmm
    go_enter Try.func39, Try.ntmps39
    have hW0' : Below w.heap.size w ((w.alloc (.cells #[a, b, c, d, .slice be n ce] 29)).alloc (.cells #[a', b', c', d', .slice bf n' cf] 29)) := (below_box _ _).trans ((below_box _ _).mono (by simp))
    have hsz : w.heap.size + 2 ≤ ((w.alloc (.cells #[a, b, c, d, .slice be n ce] 29)).alloc (.cells #[a', b', c', d', .slice bf n' cf] 29)).heap.size := by simp
    have X : Hid (∀ j u, #[a, b, c, d, Value.slice be n ce][j]? = some u → ((w.alloc (.cells #[a, b, c, d, .slice be n ce] 29)).alloc (.cells #[a', b', c', d', .slice bf n' cf] 29)).cell? ⟨w.heap.size, j, none⟩ = some u) :=
      fun j u h => ((below_box _ _).cell (by simp)).trans (box_cell w _ _ j u h)
    have X' : Hid (∀ j u, #[a', b', c', d', Value.slice bf n' cf][j]? = some u → ((w.alloc (.cells #[a, b, c, d, .slice be n ce] 29)).alloc (.cells #[a', b', c', d', .slice bf n' cf] 29)).cell? ⟨w.heap.size + 1, j, none⟩ = some u) :=
      fun j u h => box_cell' _ _ (by simp) j u h
    have hb := Below.refl (w.heap.size + 2) ((w.alloc (.cells #[a, b, c, d, .slice be n ce] 29)).alloc (.cells #[a', b', c', d', .slice bf n' cf] 29))
    have HB2 := Lib.hid hb; clear hb
    have HSZ := Lib.hid hsz; clear hsz
    go_wp2_with (first
      | (go_at_call 50; have hsz := HSZ.out; generalize (w.alloc (.cells #[a, b, c, d, .slice be n ce] 29)).alloc (.cells #[a', b', c', d', .slice bf n' cf] 29) = W1 at *; have hb := HB2.out; clear HB2 HSZ; (with_reducible refine (C1.out _ hW0').mono ?_); rintro e w2 ⟨rfl, hb2⟩; have hb := below_call hb hsz hb2; have hbw := hW0'.trans (hb.mono (by omega)); obtain ⟨y0, y1, y2, y3, y4⟩ := box5 X.out hb (by omega); obtain ⟨z0, z1, z2, z3, z4⟩ := box5 X'.out hb (by omega))
      | (go_at_call 50; (first | (with_reducible refine (C2.out _ hbw).mono ?_) | (with_reducible refine (C3.out _ hbw).mono ?_) | (with_reducible refine (C4.out _ hbw).mono ?_)); rintro e w2 ⟨rfl, hb2⟩; have hb := below_call hb hsz hb2; have hbw := hW0'.trans (hb.mono (by omega)); obtain ⟨y0, y1, y2, y3, y4⟩ := box5 X.out hb (by omega); obtain ⟨z0, z1, z2, z3, z4⟩ := box5 X'.out hb (by omega)))
    all_goals go_ret
    all_goals exact ⟨by rw [decide_eq_false HMM.out]; rfl, hbw⟩

end Go.Proofs.Ytgljbdcamagdbaa
