/- The law ModelParts: what the call answers in each of its three cases. The lists are so short that memory bears them. -/
import Derived.Test.YtgljbdcamagdbaaPart2
namespace Go.Proofs.Ytgljbdcamagdbaa
open Go.RowKit

set_option maxRecDepth 100000 in
set_option maxHeartbeats 1000000 in
theorem lawParts_no {v : Value} {m : MC} {w : World} {n : Int} (h : Cont w v m) (hm : mayB m = false) :
    Calls Try.prog 5 #[v, .int .i64 n] w fun r w' => r = .returned (.bool true) ∧ Below w.heap.size w w' := by
  have h0 := h
  obtain ⟨a, b, c, d, e, rfl, _⟩ := h
  go_enter Try.func5, Try.ntmps5
  go_wp2_with fail
  have k1 : Cont (((w.alloc (.cells #[a, b, c, d, e] 29)).alloc (.cells #[.int .i64 1] 3)).alloc (.cells #[.int .i64 2] 3))
      (.agg #[.slice none 0 0, .slice (some ⟨w.heap.size + 1, 0, none⟩) 1 1, .slice none 0 0, .slice (some ⟨w.heap.size + 1 + 1, 0, none⟩) 1 1, .slice none 0 0]) ⟨[], [1], [], [2], []⟩ := by
    refine ⟨_, _, _, _, _, rfl, Arr.nil _ _ _, (arr_one (t := 3) (w := (w.alloc (.cells #[a, b, c, d, e] 29)).alloc (.cells #[.int .i64 1] 3)) ?_).below (below_box _ _), Arr.nil _ _ _, arr_one (t := 3) ?_, Arr.nil _ _ _⟩
    · have := heap_alloc_new (w.alloc (.cells #[a, b, c, d, e] 29)) (.cells #[.int .i64 1] 3)
      simpa using this
    · have := heap_alloc_new ((w.alloc (.cells #[a, b, c, d, e] 29)).alloc (.cells #[.int .i64 1] 3)) (.cells #[.int .i64 2] 3)
      simpa using this
  have hW : Below w.heap.size w (((w.alloc (.cells #[a, b, c, d, e] 29)).alloc (.cells #[.int .i64 1] 3)).alloc (.cells #[.int .i64 2] 3)) :=
    ((below_box _ _).trans ((below_box _ _).mono (by simp))).trans ((below_box _ _).mono (by simp <;> omega))
  have hA : (((w.alloc (.cells #[a, b, c, d, e] 29)).alloc (.cells #[.int .i64 1] 3)).alloc (.cells #[.int .i64 2] 3)).heap[w.heap.size]? = some (.cells #[a, b, c, d, e] 29) := by
    rw [(below_box ((w.alloc (.cells #[a, b, c, d, e] 29)).alloc (.cells #[.int .i64 1] 3)) _).block w.heap.size (by simp <;> omega)]
    exact (two_boxes w _ _ _ _).2.2.1
  have hS : w.heap.size + 1 ≤ (((w.alloc (.cells #[a, b, c, d, e] 29)).alloc (.cells #[.int .i64 1] 3)).alloc (.cells #[.int .i64 2] 3)).heap.size := by simp <;> omega
  generalize ((w.alloc (.cells #[a, b, c, d, e] 29)).alloc (.cells #[.int .i64 1] 3)).alloc (.cells #[.int .i64 2] 3) = W1 at *
  refine (mPart (n := 4) ⟨by omega, by omega⟩ k1 (by simp [MC.ok]) rfl).mono ?_
  clear k1
  rintro r w4 ⟨v', rfl, ho, hb4⟩
  obtain ⟨p1, q1, p2, q2, p3, q3, p4, q4, p5, q5, rfl⟩ := ho.form
  clear ho
  have hs4 := hb4.size
  have hA4 := (hb4.block w.heap.size (by omega)).trans hA
  have hbw4 : Below w.heap.size w w4 := hW.trans (hb4.mono (by omega))
  clear hb4 hA hW
  show _
  simp only [partM, List.length_nil, List.length_cons, Int.reduceEq, ↓reduceIte, Nat.zero_add]
  obtain ⟨hW5, hS5, hP⟩ := one_box w4 #[.slice p1 0 q1, .slice p2 0 q2, .slice p3 0 q3, .slice p4 1 q4, .slice p5 0 q5] 29
  have HA2 := Lib.hid ((hW5.block w.heap.size (by omega)).trans hA4)
  have HB2 := Lib.hid (hbw4.trans (hW5.mono hbw4.size))
  have hS6 : w4.heap.size + 1 ≤ (w4.alloc (.cells #[.slice p1 0 q1, .slice p2 0 q2, .slice p3 0 q3, .slice p4 1 q4, .slice p5 0 q5] 29)).heap.size := by simp
  have HP := Lib.hid hP; clear hP
  clear hA4 hbw4 hW5 hS5
  go_upto_region 2 with (fail)
  generalize w4.alloc (.cells #[.slice p1 0 q1, .slice p2 0 q2, .slice p3 0 q3, .slice p4 1 q4, .slice p5 0 q5] 29) = W2 at *
  obtain ⟨⟨x0, x1, x2, x3, x4⟩, _⟩ := blk5 HP.out
  obtain ⟨⟨y0, y1, y2, y3, y4⟩, _⟩ := blk5 HA2.out
  have hlt4 : w.heap.size < w4.heap.size := by omega
  have hz : w.heap.size + 1 ≤ w4.heap.size := by omega
  have hz' : w.heap.size ≤ w4.heap.size := by omega
  go_wp2_with fail
  clear x0 x1 x2 x3 x4 y0 y1 y2 y3 y4
  refine (mPart_no (h0.below HB2.out) hm).mono ?_
  rintro r w6 ⟨rfl, hb6⟩
  have hs6 := hb6.size
  have HP6 := Lib.hid ((hb6.block w4.heap.size (by omega)).trans HP.out)
  have HA6 := Lib.hid ((hb6.block w.heap.size (by omega)).trans HA2.out)
  have HB6 := Lib.hid (HB2.out.trans (hb6.mono HB2.out.size))
  clear hb6 HP HA2 HB2
  simp only [zeroC]
  have HP7 := Lib.hid (setRow_heap w6 w4.heap.size _ #[.slice none 0 0, .slice none 0 0, .slice none 0 0, .slice none 0 0, .slice none 0 0] 29 (0, 0) HP6.out)
  have HA7 := Lib.hid ((setRow_other w6 w4.heap.size w.heap.size #[.slice none 0 0, .slice none 0 0, .slice none 0 0, .slice none 0 0, .slice none 0 0] (by omega)).trans HA6.out)
  have HB7 := Lib.hid (below_setRow' HB6.out hz' #[.slice none 0 0, .slice none 0 0, .slice none 0 0, .slice none 0 0, .slice none 0 0])
  have hs7 : w4.heap.size + 1 ≤ (w6.setRow w4.heap.size #[.slice none 0 0, .slice none 0 0, .slice none 0 0, .slice none 0 0, .slice none 0 0]).heap.size := by simp <;> omega
  have HE := Lib.hid (set5 HP6.out (.slice none 0 0) (.slice none 0 0) (.slice none 0 0) (.slice none 0 0) (.slice none 0 0))
  obtain ⟨⟨x0, x1, x2, x3, x4⟩, ⟨f0, f1, f2, f3, f4⟩⟩ := blk5 HP6.out
  go_upto_region 5 with (fail)
  rw [HE.out]
  clear HE x0 x1 x2 x3 x4 f0 f1 f2 f3 f4 HA6 HB6 HP6
  generalize w6.setRow w4.heap.size #[.slice none 0 0, .slice none 0 0, .slice none 0 0, .slice none 0 0, .slice none 0 0] = W3 at *
  obtain ⟨⟨y0, y1, y2, y3, y4⟩, _⟩ := blk5 HA7.out
  go_wp2_with fail
  refine (rMay (h0.below HB7.out)).mono ?_
  rintro r w8 ⟨rfl, hb8⟩
  rw [hm]
  have hs8 := hb8.size
  obtain ⟨⟨x0, x1, x2, x3, x4⟩, _⟩ := blk5 ((hb8.block w4.heap.size (by omega)).trans HP7.out)
  have HB8 := Lib.hid (HB7.out.trans (hb8.mono HB7.out.size))
  clear hb8 y0 y1 y2 y3 y4
  go_wp2_with fail
  refine (rSame (cont_zero _) (cont_zero _)).mono ?_
  rintro r w9 ⟨rfl, hb9⟩
  have HB9 := Lib.hid (HB8.out.trans (hb9.mono HB8.out.size))
  clear hb9
  simp only [decide_true]
  go_wp2
  go_ret
  exact ⟨rfl, HB9.out⟩

set_option maxRecDepth 100000 in
set_option maxHeartbeats 1000000 in
theorem lawParts_lo {v : Value} {m : MC} {w : World} {n : Int} (h : Cont w v m) (hm : mayB m = true) (hn : n < 1) :
    Calls Try.prog 5 #[v, .int .i64 n] w fun r w' => r = .returned (.bool true) ∧ Below w.heap.size w w' := by
  have h0 := h
  obtain ⟨a, b, c, d, e, rfl, _⟩ := h
  go_enter Try.func5, Try.ntmps5
  go_wp2_with fail
  have k1 : Cont (((w.alloc (.cells #[a, b, c, d, e] 29)).alloc (.cells #[.int .i64 1] 3)).alloc (.cells #[.int .i64 2] 3))
      (.agg #[.slice none 0 0, .slice (some ⟨w.heap.size + 1, 0, none⟩) 1 1, .slice none 0 0, .slice (some ⟨w.heap.size + 1 + 1, 0, none⟩) 1 1, .slice none 0 0]) ⟨[], [1], [], [2], []⟩ := by
    refine ⟨_, _, _, _, _, rfl, Arr.nil _ _ _, (arr_one (t := 3) (w := (w.alloc (.cells #[a, b, c, d, e] 29)).alloc (.cells #[.int .i64 1] 3)) ?_).below (below_box _ _), Arr.nil _ _ _, arr_one (t := 3) ?_, Arr.nil _ _ _⟩
    · have := heap_alloc_new (w.alloc (.cells #[a, b, c, d, e] 29)) (.cells #[.int .i64 1] 3)
      simpa using this
    · have := heap_alloc_new ((w.alloc (.cells #[a, b, c, d, e] 29)).alloc (.cells #[.int .i64 1] 3)) (.cells #[.int .i64 2] 3)
      simpa using this
  have hW : Below w.heap.size w (((w.alloc (.cells #[a, b, c, d, e] 29)).alloc (.cells #[.int .i64 1] 3)).alloc (.cells #[.int .i64 2] 3)) :=
    ((below_box _ _).trans ((below_box _ _).mono (by simp))).trans ((below_box _ _).mono (by simp <;> omega))
  have hA : (((w.alloc (.cells #[a, b, c, d, e] 29)).alloc (.cells #[.int .i64 1] 3)).alloc (.cells #[.int .i64 2] 3)).heap[w.heap.size]? = some (.cells #[a, b, c, d, e] 29) := by
    rw [(below_box ((w.alloc (.cells #[a, b, c, d, e] 29)).alloc (.cells #[.int .i64 1] 3)) _).block w.heap.size (by simp <;> omega)]
    exact (two_boxes w _ _ _ _).2.2.1
  have hS : w.heap.size + 1 ≤ (((w.alloc (.cells #[a, b, c, d, e] 29)).alloc (.cells #[.int .i64 1] 3)).alloc (.cells #[.int .i64 2] 3)).heap.size := by simp <;> omega
  generalize ((w.alloc (.cells #[a, b, c, d, e] 29)).alloc (.cells #[.int .i64 1] 3)).alloc (.cells #[.int .i64 2] 3) = W1 at *
  refine (mPart (n := 4) ⟨by omega, by omega⟩ k1 (by simp [MC.ok]) rfl).mono ?_
  clear k1
  rintro r w4 ⟨v', rfl, ho, hb4⟩
  obtain ⟨p1, q1, p2, q2, p3, q3, p4, q4, p5, q5, rfl⟩ := ho.form
  clear ho
  have hs4 := hb4.size
  have hA4 := (hb4.block w.heap.size (by omega)).trans hA
  have hbw4 : Below w.heap.size w w4 := hW.trans (hb4.mono (by omega))
  clear hb4 hA hW
  show _
  simp only [partM, List.length_nil, List.length_cons, Int.reduceEq, ↓reduceIte, Nat.zero_add]
  obtain ⟨hW5, hS5, hP⟩ := one_box w4 #[.slice p1 0 q1, .slice p2 0 q2, .slice p3 0 q3, .slice p4 1 q4, .slice p5 0 q5] 29
  have HA2 := Lib.hid ((hW5.block w.heap.size (by omega)).trans hA4)
  have HB2 := Lib.hid (hbw4.trans (hW5.mono hbw4.size))
  have hS6 : w4.heap.size + 1 ≤ (w4.alloc (.cells #[.slice p1 0 q1, .slice p2 0 q2, .slice p3 0 q3, .slice p4 1 q4, .slice p5 0 q5] 29)).heap.size := by simp
  have HP := Lib.hid hP; clear hP
  clear hA4 hbw4 hW5 hS5
  go_upto_region 2 with (fail)
  generalize w4.alloc (.cells #[.slice p1 0 q1, .slice p2 0 q2, .slice p3 0 q3, .slice p4 1 q4, .slice p5 0 q5] 29) = W2 at *
  obtain ⟨⟨x0, x1, x2, x3, x4⟩, _⟩ := blk5 HP.out
  obtain ⟨⟨y0, y1, y2, y3, y4⟩, _⟩ := blk5 HA2.out
  have hlt4 : w.heap.size < w4.heap.size := by omega
  have hz : w.heap.size + 1 ≤ w4.heap.size := by omega
  have hz' : w.heap.size ≤ w4.heap.size := by omega
  go_wp2_with fail
  clear x0 x1 x2 x3 x4 y0 y1 y2 y3 y4
  refine (mPart_range (h0.below HB2.out) hm (Or.inl hn)).mono ?_
  rintro r w6 ⟨rfl, hb6⟩
  have hs6 := hb6.size
  have HP6 := Lib.hid ((hb6.block w4.heap.size (by omega)).trans HP.out)
  have HA6 := Lib.hid ((hb6.block w.heap.size (by omega)).trans HA2.out)
  have HB6 := Lib.hid (HB2.out.trans (hb6.mono HB2.out.size))
  clear hb6 HP HA2 HB2
  simp only [zeroC]
  have HP7 := Lib.hid (setRow_heap w6 w4.heap.size _ #[.slice none 0 0, .slice none 0 0, .slice none 0 0, .slice none 0 0, .slice none 0 0] 29 (0, 0) HP6.out)
  have HA7 := Lib.hid ((setRow_other w6 w4.heap.size w.heap.size #[.slice none 0 0, .slice none 0 0, .slice none 0 0, .slice none 0 0, .slice none 0 0] (by omega)).trans HA6.out)
  have HB7 := Lib.hid (below_setRow' HB6.out hz' #[.slice none 0 0, .slice none 0 0, .slice none 0 0, .slice none 0 0, .slice none 0 0])
  have hs7 : w4.heap.size + 1 ≤ (w6.setRow w4.heap.size #[.slice none 0 0, .slice none 0 0, .slice none 0 0, .slice none 0 0, .slice none 0 0]).heap.size := by simp <;> omega
  have HE := Lib.hid (set5 HP6.out (.slice none 0 0) (.slice none 0 0) (.slice none 0 0) (.slice none 0 0) (.slice none 0 0))
  obtain ⟨⟨x0, x1, x2, x3, x4⟩, ⟨f0, f1, f2, f3, f4⟩⟩ := blk5 HP6.out
  go_upto_region 5 with (fail)
  rw [HE.out]
  clear HE x0 x1 x2 x3 x4 f0 f1 f2 f3 f4 HA6 HB6 HP6
  generalize w6.setRow w4.heap.size #[.slice none 0 0, .slice none 0 0, .slice none 0 0, .slice none 0 0, .slice none 0 0] = W3 at *
  obtain ⟨⟨y0, y1, y2, y3, y4⟩, _⟩ := blk5 HA7.out
  go_wp2_with fail
  refine (rMay (h0.below HB7.out)).mono ?_
  rintro r w8 ⟨rfl, hb8⟩
  rw [hm]
  have hs8 := hb8.size
  obtain ⟨⟨x0, x1, x2, x3, x4⟩, _⟩ := blk5 ((hb8.block w4.heap.size (by omega)).trans HP7.out)
  have HB8 := Lib.hid (HB7.out.trans (hb8.mono HB7.out.size))
  clear hb8 y0 y1 y2 y3 y4
  go_wp2_with fail
  refine (rSame (cont_zero _) (cont_zero _)).mono ?_
  rintro r w9 ⟨rfl, hb9⟩
  have HB9 := Lib.hid (HB8.out.trans (hb9.mono HB8.out.size))
  clear hb9
  simp only [decide_true]
  go_wp2
  go_ret
  exact ⟨rfl, HB9.out⟩

set_option maxRecDepth 100000 in
set_option maxHeartbeats 1000000 in
theorem lawParts_hi {v : Value} {m : MC} {w : World} {n : Int} (h : Cont w v m) (hm : mayB m = true) (hn : 5 < n) :
    Calls Try.prog 5 #[v, .int .i64 n] w fun r w' => r = .returned (.bool true) ∧ Below w.heap.size w w' := by
  have h0 := h
  obtain ⟨a, b, c, d, e, rfl, _⟩ := h
  go_enter Try.func5, Try.ntmps5
  go_wp2_with fail
  have k1 : Cont (((w.alloc (.cells #[a, b, c, d, e] 29)).alloc (.cells #[.int .i64 1] 3)).alloc (.cells #[.int .i64 2] 3))
      (.agg #[.slice none 0 0, .slice (some ⟨w.heap.size + 1, 0, none⟩) 1 1, .slice none 0 0, .slice (some ⟨w.heap.size + 1 + 1, 0, none⟩) 1 1, .slice none 0 0]) ⟨[], [1], [], [2], []⟩ := by
    refine ⟨_, _, _, _, _, rfl, Arr.nil _ _ _, (arr_one (t := 3) (w := (w.alloc (.cells #[a, b, c, d, e] 29)).alloc (.cells #[.int .i64 1] 3)) ?_).below (below_box _ _), Arr.nil _ _ _, arr_one (t := 3) ?_, Arr.nil _ _ _⟩
    · have := heap_alloc_new (w.alloc (.cells #[a, b, c, d, e] 29)) (.cells #[.int .i64 1] 3)
      simpa using this
    · have := heap_alloc_new ((w.alloc (.cells #[a, b, c, d, e] 29)).alloc (.cells #[.int .i64 1] 3)) (.cells #[.int .i64 2] 3)
      simpa using this
  have hW : Below w.heap.size w (((w.alloc (.cells #[a, b, c, d, e] 29)).alloc (.cells #[.int .i64 1] 3)).alloc (.cells #[.int .i64 2] 3)) :=
    ((below_box _ _).trans ((below_box _ _).mono (by simp))).trans ((below_box _ _).mono (by simp <;> omega))
  have hA : (((w.alloc (.cells #[a, b, c, d, e] 29)).alloc (.cells #[.int .i64 1] 3)).alloc (.cells #[.int .i64 2] 3)).heap[w.heap.size]? = some (.cells #[a, b, c, d, e] 29) := by
    rw [(below_box ((w.alloc (.cells #[a, b, c, d, e] 29)).alloc (.cells #[.int .i64 1] 3)) _).block w.heap.size (by simp <;> omega)]
    exact (two_boxes w _ _ _ _).2.2.1
  have hS : w.heap.size + 1 ≤ (((w.alloc (.cells #[a, b, c, d, e] 29)).alloc (.cells #[.int .i64 1] 3)).alloc (.cells #[.int .i64 2] 3)).heap.size := by simp <;> omega
  generalize ((w.alloc (.cells #[a, b, c, d, e] 29)).alloc (.cells #[.int .i64 1] 3)).alloc (.cells #[.int .i64 2] 3) = W1 at *
  refine (mPart (n := 4) ⟨by omega, by omega⟩ k1 (by simp [MC.ok]) rfl).mono ?_
  clear k1
  rintro r w4 ⟨v', rfl, ho, hb4⟩
  obtain ⟨p1, q1, p2, q2, p3, q3, p4, q4, p5, q5, rfl⟩ := ho.form
  clear ho
  have hs4 := hb4.size
  have hA4 := (hb4.block w.heap.size (by omega)).trans hA
  have hbw4 : Below w.heap.size w w4 := hW.trans (hb4.mono (by omega))
  clear hb4 hA hW
  show _
  simp only [partM, List.length_nil, List.length_cons, Int.reduceEq, ↓reduceIte, Nat.zero_add]
  obtain ⟨hW5, hS5, hP⟩ := one_box w4 #[.slice p1 0 q1, .slice p2 0 q2, .slice p3 0 q3, .slice p4 1 q4, .slice p5 0 q5] 29
  have HA2 := Lib.hid ((hW5.block w.heap.size (by omega)).trans hA4)
  have HB2 := Lib.hid (hbw4.trans (hW5.mono hbw4.size))
  have hS6 : w4.heap.size + 1 ≤ (w4.alloc (.cells #[.slice p1 0 q1, .slice p2 0 q2, .slice p3 0 q3, .slice p4 1 q4, .slice p5 0 q5] 29)).heap.size := by simp
  have HP := Lib.hid hP; clear hP
  clear hA4 hbw4 hW5 hS5
  go_upto_region 2 with (fail)
  generalize w4.alloc (.cells #[.slice p1 0 q1, .slice p2 0 q2, .slice p3 0 q3, .slice p4 1 q4, .slice p5 0 q5] 29) = W2 at *
  obtain ⟨⟨x0, x1, x2, x3, x4⟩, _⟩ := blk5 HP.out
  obtain ⟨⟨y0, y1, y2, y3, y4⟩, _⟩ := blk5 HA2.out
  have hlt4 : w.heap.size < w4.heap.size := by omega
  have hz : w.heap.size + 1 ≤ w4.heap.size := by omega
  have hz' : w.heap.size ≤ w4.heap.size := by omega
  go_wp2_with fail
  clear x0 x1 x2 x3 x4 y0 y1 y2 y3 y4
  refine (mPart_range (h0.below HB2.out) hm (Or.inr hn)).mono ?_
  rintro r w6 ⟨rfl, hb6⟩
  have hs6 := hb6.size
  have HP6 := Lib.hid ((hb6.block w4.heap.size (by omega)).trans HP.out)
  have HA6 := Lib.hid ((hb6.block w.heap.size (by omega)).trans HA2.out)
  have HB6 := Lib.hid (HB2.out.trans (hb6.mono HB2.out.size))
  clear hb6 HP HA2 HB2
  simp only [zeroC]
  have HP7 := Lib.hid (setRow_heap w6 w4.heap.size _ #[.slice none 0 0, .slice none 0 0, .slice none 0 0, .slice none 0 0, .slice none 0 0] 29 (0, 0) HP6.out)
  have HA7 := Lib.hid ((setRow_other w6 w4.heap.size w.heap.size #[.slice none 0 0, .slice none 0 0, .slice none 0 0, .slice none 0 0, .slice none 0 0] (by omega)).trans HA6.out)
  have HB7 := Lib.hid (below_setRow' HB6.out hz' #[.slice none 0 0, .slice none 0 0, .slice none 0 0, .slice none 0 0, .slice none 0 0])
  have hs7 : w4.heap.size + 1 ≤ (w6.setRow w4.heap.size #[.slice none 0 0, .slice none 0 0, .slice none 0 0, .slice none 0 0, .slice none 0 0]).heap.size := by simp <;> omega
  have HE := Lib.hid (set5 HP6.out (.slice none 0 0) (.slice none 0 0) (.slice none 0 0) (.slice none 0 0) (.slice none 0 0))
  obtain ⟨⟨x0, x1, x2, x3, x4⟩, ⟨f0, f1, f2, f3, f4⟩⟩ := blk5 HP6.out
  go_upto_region 5 with (fail)
  rw [HE.out]
  clear HE x0 x1 x2 x3 x4 f0 f1 f2 f3 f4 HA6 HB6 HP6
  generalize w6.setRow w4.heap.size #[.slice none 0 0, .slice none 0 0, .slice none 0 0, .slice none 0 0, .slice none 0 0] = W3 at *
  obtain ⟨⟨y0, y1, y2, y3, y4⟩, _⟩ := blk5 HA7.out
  go_wp2_with fail
  refine (rMay (h0.below HB7.out)).mono ?_
  rintro r w8 ⟨rfl, hb8⟩
  rw [hm]
  have hn1 : ¬ n < 1 := by omega
  have hs8 := hb8.size
  obtain ⟨⟨x0, x1, x2, x3, x4⟩, _⟩ := blk5 ((hb8.block w4.heap.size (by omega)).trans HP7.out)
  have HB8 := Lib.hid (HB7.out.trans (hb8.mono HB7.out.size))
  clear hb8 y0 y1 y2 y3 y4
  go_wp2_with fail
  refine (rSame (cont_zero _) (cont_zero _)).mono ?_
  rintro r w9 ⟨rfl, hb9⟩
  have HB9 := Lib.hid (HB8.out.trans (hb9.mono HB8.out.size))
  clear hb9
  simp only [decide_true]
  go_wp2
  go_ret
  exact ⟨rfl, HB9.out⟩

set_option maxRecDepth 100000 in
set_option maxHeartbeats 1000000 in
theorem lawParts_ok {v : Value} {m : MC} {w : World} {n : Int} (h : Cont w v m) (hok : m.ok 0) (hm : mayB m = true) (hn : 1 ≤ n ∧ n ≤ 5) :
    Calls Try.prog 5 #[v, .int .i64 n] w fun r w' => r = .returned (.bool true) ∧ Below w.heap.size w w' := by
  have h0 := h
  obtain ⟨a, b, c, d, e, rfl, _⟩ := h
  go_enter Try.func5, Try.ntmps5
  go_wp2_with fail
  have k1 : Cont (((w.alloc (.cells #[a, b, c, d, e] 29)).alloc (.cells #[.int .i64 1] 3)).alloc (.cells #[.int .i64 2] 3))
      (.agg #[.slice none 0 0, .slice (some ⟨w.heap.size + 1, 0, none⟩) 1 1, .slice none 0 0, .slice (some ⟨w.heap.size + 1 + 1, 0, none⟩) 1 1, .slice none 0 0]) ⟨[], [1], [], [2], []⟩ := by
    refine ⟨_, _, _, _, _, rfl, Arr.nil _ _ _, (arr_one (t := 3) (w := (w.alloc (.cells #[a, b, c, d, e] 29)).alloc (.cells #[.int .i64 1] 3)) ?_).below (below_box _ _), Arr.nil _ _ _, arr_one (t := 3) ?_, Arr.nil _ _ _⟩
    · have := heap_alloc_new (w.alloc (.cells #[a, b, c, d, e] 29)) (.cells #[.int .i64 1] 3)
      simpa using this
    · have := heap_alloc_new ((w.alloc (.cells #[a, b, c, d, e] 29)).alloc (.cells #[.int .i64 1] 3)) (.cells #[.int .i64 2] 3)
      simpa using this
  have hW : Below w.heap.size w (((w.alloc (.cells #[a, b, c, d, e] 29)).alloc (.cells #[.int .i64 1] 3)).alloc (.cells #[.int .i64 2] 3)) :=
    ((below_box _ _).trans ((below_box _ _).mono (by simp))).trans ((below_box _ _).mono (by simp <;> omega))
  have hA : (((w.alloc (.cells #[a, b, c, d, e] 29)).alloc (.cells #[.int .i64 1] 3)).alloc (.cells #[.int .i64 2] 3)).heap[w.heap.size]? = some (.cells #[a, b, c, d, e] 29) := by
    rw [(below_box ((w.alloc (.cells #[a, b, c, d, e] 29)).alloc (.cells #[.int .i64 1] 3)) _).block w.heap.size (by simp <;> omega)]
    exact (two_boxes w _ _ _ _).2.2.1
  have hS : w.heap.size + 1 ≤ (((w.alloc (.cells #[a, b, c, d, e] 29)).alloc (.cells #[.int .i64 1] 3)).alloc (.cells #[.int .i64 2] 3)).heap.size := by simp <;> omega
  generalize ((w.alloc (.cells #[a, b, c, d, e] 29)).alloc (.cells #[.int .i64 1] 3)).alloc (.cells #[.int .i64 2] 3) = W1 at *
  refine (mPart (n := 4) ⟨by omega, by omega⟩ k1 (by simp [MC.ok]) rfl).mono ?_
  clear k1
  rintro r w4 ⟨v', rfl, ho, hb4⟩
  obtain ⟨p1, q1, p2, q2, p3, q3, p4, q4, p5, q5, rfl⟩ := ho.form
  clear ho
  have hs4 := hb4.size
  have hA4 := (hb4.block w.heap.size (by omega)).trans hA
  have hbw4 : Below w.heap.size w w4 := hW.trans (hb4.mono (by omega))
  clear hb4 hA hW
  show _
  simp only [partM, List.length_nil, List.length_cons, Int.reduceEq, ↓reduceIte, Nat.zero_add]
  obtain ⟨hW5, hS5, hP⟩ := one_box w4 #[.slice p1 0 q1, .slice p2 0 q2, .slice p3 0 q3, .slice p4 1 q4, .slice p5 0 q5] 29
  have HA2 := Lib.hid ((hW5.block w.heap.size (by omega)).trans hA4)
  have HB2 := Lib.hid (hbw4.trans (hW5.mono hbw4.size))
  have hS6 : w4.heap.size + 1 ≤ (w4.alloc (.cells #[.slice p1 0 q1, .slice p2 0 q2, .slice p3 0 q3, .slice p4 1 q4, .slice p5 0 q5] 29)).heap.size := by simp
  have HP := Lib.hid hP; clear hP
  clear hA4 hbw4 hW5 hS5
  go_upto_region 2 with (fail)
  generalize w4.alloc (.cells #[.slice p1 0 q1, .slice p2 0 q2, .slice p3 0 q3, .slice p4 1 q4, .slice p5 0 q5] 29) = W2 at *
  obtain ⟨⟨x0, x1, x2, x3, x4⟩, _⟩ := blk5 HP.out
  obtain ⟨⟨y0, y1, y2, y3, y4⟩, _⟩ := blk5 HA2.out
  have hlt4 : w.heap.size < w4.heap.size := by omega
  have hz : w.heap.size + 1 ≤ w4.heap.size := by omega
  have hz' : w.heap.size ≤ w4.heap.size := by omega
  go_wp2_with fail
  clear x0 x1 x2 x3 x4 y0 y1 y2 y3 y4
  have hm' : ∃ m', partM m n = m' := ⟨_, rfl⟩
  obtain ⟨m', em⟩ := hm'
  have C3 : Hid (∀ wx, Below w.heap.size w wx → Calls Try.prog 24 #[.agg #[a, b, c, d, e], .int .i64 n] wx (RetD wx m')) := fun wx hb => by rw [← em]; exact rPart hn (h0.below hb) hok
  refine (mPart hn (h0.below HB2.out) hok hm).mono ?_
  rw [em]
  clear em
  rintro r w6 ⟨v', rfl, ho, hb6⟩
  obtain ⟨p1, q1, p2, q2, p3, q3, p4, q4, p5, q5, rfl⟩ := ho.form
  have hs6 := hb6.size
  have HP6 := Lib.hid ((hb6.block w4.heap.size (by omega)).trans HP.out)
  have HA6 := Lib.hid ((hb6.block w.heap.size (by omega)).trans HA2.out)
  have HB6 := Lib.hid (HB2.out.trans (hb6.mono HB2.out.size))
  have HO7 := Lib.hid (ho.keep (grownBy_setRow w6 w4.heap.size #[.slice p1 m'.cell.length q1, .slice p2 m'.stack.length q2, .slice p3 m'.queue.length q3, .slice p4 m'.set.length q4, .slice p5 m'.table.length q5]) (by omega)).cont
  clear hb6 HP HA2 HB2 ho
  have HP7 := Lib.hid (setRow_heap w6 w4.heap.size _ #[.slice p1 m'.cell.length q1, .slice p2 m'.stack.length q2, .slice p3 m'.queue.length q3, .slice p4 m'.set.length q4, .slice p5 m'.table.length q5] 29 (0, 0) HP6.out)
  have HA7 := Lib.hid ((setRow_other w6 w4.heap.size w.heap.size #[.slice p1 m'.cell.length q1, .slice p2 m'.stack.length q2, .slice p3 m'.queue.length q3, .slice p4 m'.set.length q4, .slice p5 m'.table.length q5] (by omega)).trans HA6.out)
  have HB7 := Lib.hid (below_setRow' HB6.out hz' #[.slice p1 m'.cell.length q1, .slice p2 m'.stack.length q2, .slice p3 m'.queue.length q3, .slice p4 m'.set.length q4, .slice p5 m'.table.length q5])
  have hs7 : w4.heap.size + 1 ≤ (w6.setRow w4.heap.size #[.slice p1 m'.cell.length q1, .slice p2 m'.stack.length q2, .slice p3 m'.queue.length q3, .slice p4 m'.set.length q4, .slice p5 m'.table.length q5]).heap.size := by simp <;> omega
  have HE := Lib.hid (set5 HP6.out (.slice p1 m'.cell.length q1) (.slice p2 m'.stack.length q2) (.slice p3 m'.queue.length q3) (.slice p4 m'.set.length q4) (.slice p5 m'.table.length q5))
  obtain ⟨⟨x0, x1, x2, x3, x4⟩, ⟨f0, f1, f2, f3, f4⟩⟩ := blk5 HP6.out
  go_upto_region 5 with (fail)
  rw [HE.out]
  clear HE x0 x1 x2 x3 x4 f0 f1 f2 f3 f4 HA6 HB6 HP6
  generalize w6.setRow w4.heap.size #[.slice p1 m'.cell.length q1, .slice p2 m'.stack.length q2, .slice p3 m'.queue.length q3, .slice p4 m'.set.length q4, .slice p5 m'.table.length q5] = W3 at *
  obtain ⟨⟨y0, y1, y2, y3, y4⟩, _⟩ := blk5 HA7.out
  go_wp2_with fail
  refine (rMay (h0.below HB7.out)).mono ?_
  rintro r w8 ⟨rfl, hb8⟩
  rw [hm]
  have hs8 := hb8.size
  have HX8 := Lib.hid ((hb8.block w4.heap.size (by omega)).trans HP7.out)
  have HY8 := Lib.hid ((hb8.block w.heap.size (by omega)).trans HA7.out)
  have HB8 := Lib.hid (HB7.out.trans (hb8.mono HB7.out.size))
  have HO8 := Lib.hid (HO7.out.below hb8)
  clear hb8 y0 y1 y2 y3 y4 HP7 HA7 HO7 HB7
  have hn1 : ¬ n < 1 := by omega
  have hn5 : ¬ 5 < n := by omega
  go_upto_region 9 with (fail)
  have X5 : Hid (∀ wx, Below w8.heap.size w8 wx → (wx.cell? ⟨w4.heap.size, 0, none⟩ = some (.slice p1 m'.cell.length q1) ∧ wx.cell? ⟨w4.heap.size, 1, none⟩ = some (.slice p2 m'.stack.length q2) ∧ wx.cell? ⟨w4.heap.size, 2, none⟩ = some (.slice p3 m'.queue.length q3) ∧ wx.cell? ⟨w4.heap.size, 3, none⟩ = some (.slice p4 m'.set.length q4) ∧ wx.cell? ⟨w4.heap.size, 4, none⟩ = some (.slice p5 m'.table.length q5)) ∧
      (wx.cell? ⟨w.heap.size, 0, none⟩ = some a ∧ wx.cell? ⟨w.heap.size, 1, none⟩ = some b ∧ wx.cell? ⟨w.heap.size, 2, none⟩ = some c ∧ wx.cell? ⟨w.heap.size, 3, none⟩ = some d ∧ wx.cell? ⟨w.heap.size, 4, none⟩ = some e)) := by
    intro wx hx
    exact ⟨(blk5 ((hx.block w4.heap.size (by omega)).trans HX8.out)).1, (blk5 ((hx.block w.heap.size (by omega)).trans HY8.out)).1⟩
  have hbx : Below w8.heap.size w8 w8.drew := (Below.refl _ _).drew
  have S4 : Hid (∀ wx v, Below w8.heap.size w8 wx → Hid (Cont wx v m') → Calls Try.prog 21 #[.agg #[.slice p1 m'.cell.length q1, .slice p2 m'.stack.length q2, .slice p3 m'.queue.length q3, .slice p4 m'.set.length q4, .slice p5 m'.table.length q5], v] wx fun e w' => e = .returned (.bool true) ∧ Below wx.heap.size wx w') := fun wx v h hv => by have := rSame (HO8.out.below h) hv.out; simpa using this
  go_region_held3 (fun wx => (wx.cell? ⟨w4.heap.size, 0, none⟩ = some (.slice p1 m'.cell.length q1) ∧ wx.cell? ⟨w4.heap.size, 1, none⟩ = some (.slice p2 m'.stack.length q2) ∧ wx.cell? ⟨w4.heap.size, 2, none⟩ = some (.slice p3 m'.queue.length q3) ∧ wx.cell? ⟨w4.heap.size, 3, none⟩ = some (.slice p4 m'.set.length q4) ∧ wx.cell? ⟨w4.heap.size, 4, none⟩ = some (.slice p5 m'.table.length q5)) ∧
      (wx.cell? ⟨w.heap.size, 0, none⟩ = some a ∧ wx.cell? ⟨w.heap.size, 1, none⟩ = some b ∧ wx.cell? ⟨w.heap.size, 2, none⟩ = some c ∧ wx.cell? ⟨w.heap.size, 3, none⟩ = some d ∧ wx.cell? ⟨w.heap.size, 4, none⟩ = some e))
    (first | (with_reducible exact X5.out _ hbx))
    (first
      | (go_at_call 24; (with_reducible refine (C3.out _ (HB8.out.trans (hbx.mono HB8.out.size))).mono ?_); rintro r w10 ⟨v10, rfl, ho10, hb10⟩; have hv10 := Lib.hid ho10.cont; have hbx := below_call hbx (Nat.le_refl _) hb10)
      | (go_at_call 21; (with_reducible refine (S4.out _ _ hbx hv10).mono ?_); rintro r w10 ⟨rfl, hb10⟩; have hbx := below_call hbx (Nat.le_refl _) hb10))
  go_wp2
  go_ret
  exact ⟨rfl, HB8.out.trans (hbx.mono HB8.out.size)⟩

end Go.Proofs.Ytgljbdcamagdbaa
