/- reclaimmodel.Part: one object's contents alone. The lists are so short that memory bears them. -/
import Derived.Test.YtgljbdcamagdbaaPart
import Derived.Deep.Cut
namespace Go.Proofs.Ytgljbdcamagdbaa
open Go.RowKit

set_option maxRecDepth 100000 in
set_option maxHeartbeats 1000000 in
theorem rPart0_cell {a b c d e : Value} {m : MC} {w : World} (h : Cont w (.agg #[a, b, c, d, e]) m) (hok : m.ok 0) :
    Calls Try.prog 43 #[.agg #[a, b, c, d, e], .int .i64 1] w (RetD w (partM m 1)) := by
  have C : Hid (∀ wx, Below w.heap.size w wx → Calls Try.prog 40 #[.agg #[a, b, c, d, e]] wx (RetOwn wx m)) := fun wx hb => rCopy0 (h.below hb) hok
  clear h hok
  go_enter Try.func43, Try.ntmps43
  go_wp2_with fail
  obtain ⟨hW, hS, hA, hB⟩ := two_boxes w #[a, b, c, d, e] #[.slice none 0 0, .slice none 0 0, .slice none 0 0, .slice none 0 0, .slice none 0 0] 29 29
  generalize (w.alloc (.cells #[a, b, c, d, e] 29)).alloc (.cells #[.slice none 0 0, .slice none 0 0, .slice none 0 0, .slice none 0 0, .slice none 0 0] 29) = W1 at *
  have HB := Lib.hid hB; clear hB
  have hS1 : w.heap.size + 2 ≤ W1.heap.size := by omega
  clear hS
  (with_reducible refine (C.out _ hW).mono ?_)
  rintro r w1 ⟨v', rfl, hc, hb1⟩
  obtain ⟨a', b', c', d', e', rfl, g1, g2, g3, g4, g5, _⟩ := hc
  obtain ⟨p1, q1, rfl⟩ := own_form g1
  obtain ⟨p2, q2, rfl⟩ := own_form g2
  obtain ⟨p3, q3, rfl⟩ := own_form g3
  obtain ⟨p4, q4, rfl⟩ := own_form g4
  obtain ⟨p5, q5, rfl⟩ := own_form g5
  have hs1 := hb1.size
  have hA1 := (hb1.block w.heap.size (by omega)).trans hA
  have hB1 := (hb1.block (w.heap.size + 1) (by omega)).trans HB.out
  have hs2 := setRow_heap w1 w.heap.size _ #[.slice p1 m.cell.length q1, .slice p2 m.stack.length q2, .slice p3 m.queue.length q3, .slice p4 m.set.length q4, .slice p5 m.table.length q5] 29 (0, 0) hA1
  have G0 := grownBy_setRow w1 w.heap.size #[.slice p1 m.cell.length q1, .slice p2 m.stack.length q2, .slice p3 m.queue.length q3, .slice p4 m.set.length q4, .slice p5 m.table.length q5]
  have g0 := own_keep g1 G0 (by omega)
  have hB2 := (setRow_other w1 w.heap.size (w.heap.size + 1) #[.slice p1 m.cell.length q1, .slice p2 m.stack.length q2, .slice p3 m.queue.length q3, .slice p4 m.set.length q4, .slice p5 m.table.length q5] (by omega)).trans hB1
  have hbw : Below w.heap.size w (w1.setRow w.heap.size #[.slice p1 m.cell.length q1, .slice p2 m.stack.length q2, .slice p3 m.queue.length q3, .slice p4 m.set.length q4, .slice p5 m.table.length q5]) := below_setRow' (hW.trans (hb1.mono (by omega))) (Nat.le_refl _) _
  have hsz : w.heap.size + 2 ≤ (w1.setRow w.heap.size #[.slice p1 m.cell.length q1, .slice p2 m.stack.length q2, .slice p3 m.queue.length q3, .slice p4 m.set.length q4, .slice p5 m.table.length q5]).heap.size := by simp; omega
  have HS2 := Lib.hid hs2; clear hs2
  have HB2 := Lib.hid hB2; clear hB2
  obtain ⟨⟨x0, x1, x2, x3, x4⟩, ⟨f0, f1, f2, f3, f4⟩⟩ := blk5 hA1
  have HE := Lib.hid (set5 hA1 (.slice p1 m.cell.length q1) (.slice p2 m.stack.length q2) (.slice p3 m.queue.length q3) (.slice p4 m.set.length q4) (.slice p5 m.table.length q5))
  clear g1 g2 g3 g4 g5 hb1 hA hA1 hB1 G0 hs1
  have HG := Lib.hid g0; clear g0
  go_upto_region 2 with (fail)
  rw [HE.out]
  clear HE x0 x1 x2 x3 x4 f0 f1 f2 f3 f4
  have HBW := Lib.hid hbw; clear hbw
  generalize w1.setRow w.heap.size #[.slice p1 m.cell.length q1, .slice p2 m.stack.length q2, .slice p3 m.queue.length q3, .slice p4 m.set.length q4, .slice p5 m.table.length q5] = W2 at *
  go_upto_region 3 with (fail)
  obtain ⟨hW3, hS3, hP⟩ := one_box W2 #[.slice none 0 0, .slice none 0 0, .slice none 0 0, .slice none 0 0, .slice none 0 0] 29
  generalize W2.alloc (.cells #[.slice none 0 0, .slice none 0 0, .slice none 0 0, .slice none 0 0, .slice none 0 0] 29) = W3 at *
  have hw3 : w.heap.size < W2.heap.size := by omega
  have y := (blk5 ((hW3.block w.heap.size hw3).trans HS2.out)).1
  have x0 := y.1
  clear y
  have z := blk5 hP
  have z0 := z.1.1
  have f0 := z.2.1
  clear z
  have hr : W3.setCell ⟨W2.heap.size, 0, none⟩ (.slice p1 m.cell.length q1) = W3.setRow W2.heap.size #[.slice p1 m.cell.length q1, .slice none 0 0, .slice none 0 0, .slice none 0 0, .slice none 0 0] := setCell_eq_setRow W3 W2.heap.size 0 _ _ (0, 0) _ hP
  have HR := Lib.hid hr; clear hr
  have HP4 := Lib.hid (setRow_heap W3 W2.heap.size _ #[.slice p1 m.cell.length q1, .slice none 0 0, .slice none 0 0, .slice none 0 0, .slice none 0 0] 29 (0, 0) hP)
  have hb4 : Below W2.heap.size W2 (W3.setRow W2.heap.size #[.slice p1 m.cell.length q1, .slice none 0 0, .slice none 0 0, .slice none 0 0, .slice none 0 0]) := below_setRow' hW3 (Nat.le_refl _) _
  have HB4 := Lib.hid hb4; clear hb4
  clear hP hW3
  go_upto_region 14 with (fail)
  rw [HR.out]
  clear HR x0 z0 f0
  generalize W3.setRow W2.heap.size #[.slice p1 m.cell.length q1, .slice none 0 0, .slice none 0 0, .slice none 0 0, .slice none 0 0] = W4 at *
  have hY := (HB4.out.block (w.heap.size + 1) (by omega)).trans HB2.out
  have HY := Lib.hid hY; clear hY
  have hs4 := HB4.out.size
  have OB : Hid (OwnD (W4.setRow (w.heap.size + 1) #[.slice p1 m.cell.length q1, .slice none 0 0, .slice none 0 0, .slice none 0 0, .slice none 0 0]) w.heap.size (.agg #[.slice p1 m.cell.length q1, .slice none 0 0, .slice none 0 0, .slice none 0 0, .slice none 0 0]) (partM m 1)) := by
    have G := grownBy_setRow W4 (w.heap.size + 1) #[.slice p1 m.cell.length q1, .slice none 0 0, .slice none 0 0, .slice none 0 0, .slice none 0 0]
    have h1 := HG.out
    have HO := OwnE.keep (OwnE.ext (enc := eI) (Or.inr h1) HB4.out) G (by omega)
    exact ⟨_, _, _, _, _, rfl, (HO.base (by omega)), ownE_nil _ _ _ _ _, ownE_nil _ _ _ _ _, ownE_nil _ _ _ _ _, ownE_nil _ _ _ _ _⟩
  have BB : Hid (Below w.heap.size w (W4.setRow (w.heap.size + 1) #[.slice p1 m.cell.length q1, .slice none 0 0, .slice none 0 0, .slice none 0 0, .slice none 0 0])) := below_setRow' (HBW.out.trans (HB4.out.mono (by omega))) (by omega) _
  obtain ⟨⟨x0, x1, x2, x3, x4⟩, _⟩ := blk5 HP4.out
  obtain ⟨⟨y0, y1, y2, y3, y4⟩, ⟨f0, f1, f2, f3, f4⟩⟩ := blk5 HY.out
  go_wp2
  rw [set5 HY.out]
  clear x0 x1 x2 x3 x4 y0 y1 y2 y3 y4 f0 f1 f2 f3 f4
  obtain ⟨⟨z0, z1, z2, z3, z4⟩, _⟩ := blk5 (setRow_heap W4 (w.heap.size + 1) _ #[.slice p1 m.cell.length q1, .slice none 0 0, .slice none 0 0, .slice none 0 0, .slice none 0 0] 29 (0, 0) HY.out)
  refine bodyPost_ret (v := .agg #[.slice p1 m.cell.length q1, .slice none 0 0, .slice none 0 0, .slice none 0 0, .slice none 0 0]) (by simp [results, Try.results43, go_sem, z0, z1, z2, z3, z4]) rfl ⟨_, rfl, OB.out, BB.out⟩

set_option maxRecDepth 100000 in
set_option maxHeartbeats 1000000 in
theorem rPart0_stack {a b c d e : Value} {m : MC} {w : World} (h : Cont w (.agg #[a, b, c, d, e]) m) (hok : m.ok 0) :
    Calls Try.prog 43 #[.agg #[a, b, c, d, e], .int .i64 2] w (RetD w (partM m 2)) := by
  have C : Hid (∀ wx, Below w.heap.size w wx → Calls Try.prog 40 #[.agg #[a, b, c, d, e]] wx (RetOwn wx m)) := fun wx hb => rCopy0 (h.below hb) hok
  clear h hok
  go_enter Try.func43, Try.ntmps43
  go_wp2_with fail
  obtain ⟨hW, hS, hA, hB⟩ := two_boxes w #[a, b, c, d, e] #[.slice none 0 0, .slice none 0 0, .slice none 0 0, .slice none 0 0, .slice none 0 0] 29 29
  generalize (w.alloc (.cells #[a, b, c, d, e] 29)).alloc (.cells #[.slice none 0 0, .slice none 0 0, .slice none 0 0, .slice none 0 0, .slice none 0 0] 29) = W1 at *
  have HB := Lib.hid hB; clear hB
  have hS1 : w.heap.size + 2 ≤ W1.heap.size := by omega
  clear hS
  (with_reducible refine (C.out _ hW).mono ?_)
  rintro r w1 ⟨v', rfl, hc, hb1⟩
  obtain ⟨a', b', c', d', e', rfl, g1, g2, g3, g4, g5, _⟩ := hc
  obtain ⟨p1, q1, rfl⟩ := own_form g1
  obtain ⟨p2, q2, rfl⟩ := own_form g2
  obtain ⟨p3, q3, rfl⟩ := own_form g3
  obtain ⟨p4, q4, rfl⟩ := own_form g4
  obtain ⟨p5, q5, rfl⟩ := own_form g5
  have hs1 := hb1.size
  have hA1 := (hb1.block w.heap.size (by omega)).trans hA
  have hB1 := (hb1.block (w.heap.size + 1) (by omega)).trans HB.out
  have hs2 := setRow_heap w1 w.heap.size _ #[.slice p1 m.cell.length q1, .slice p2 m.stack.length q2, .slice p3 m.queue.length q3, .slice p4 m.set.length q4, .slice p5 m.table.length q5] 29 (0, 0) hA1
  have G0 := grownBy_setRow w1 w.heap.size #[.slice p1 m.cell.length q1, .slice p2 m.stack.length q2, .slice p3 m.queue.length q3, .slice p4 m.set.length q4, .slice p5 m.table.length q5]
  have g0 := own_keep g2 G0 (by omega)
  have hB2 := (setRow_other w1 w.heap.size (w.heap.size + 1) #[.slice p1 m.cell.length q1, .slice p2 m.stack.length q2, .slice p3 m.queue.length q3, .slice p4 m.set.length q4, .slice p5 m.table.length q5] (by omega)).trans hB1
  have hbw : Below w.heap.size w (w1.setRow w.heap.size #[.slice p1 m.cell.length q1, .slice p2 m.stack.length q2, .slice p3 m.queue.length q3, .slice p4 m.set.length q4, .slice p5 m.table.length q5]) := below_setRow' (hW.trans (hb1.mono (by omega))) (Nat.le_refl _) _
  have hsz : w.heap.size + 2 ≤ (w1.setRow w.heap.size #[.slice p1 m.cell.length q1, .slice p2 m.stack.length q2, .slice p3 m.queue.length q3, .slice p4 m.set.length q4, .slice p5 m.table.length q5]).heap.size := by simp; omega
  have HS2 := Lib.hid hs2; clear hs2
  have HB2 := Lib.hid hB2; clear hB2
  obtain ⟨⟨x0, x1, x2, x3, x4⟩, ⟨f0, f1, f2, f3, f4⟩⟩ := blk5 hA1
  have HE := Lib.hid (set5 hA1 (.slice p1 m.cell.length q1) (.slice p2 m.stack.length q2) (.slice p3 m.queue.length q3) (.slice p4 m.set.length q4) (.slice p5 m.table.length q5))
  clear g1 g2 g3 g4 g5 hb1 hA hA1 hB1 G0 hs1
  have HG := Lib.hid g0; clear g0
  go_upto_region 2 with (fail)
  rw [HE.out]
  clear HE x0 x1 x2 x3 x4 f0 f1 f2 f3 f4
  have HBW := Lib.hid hbw; clear hbw
  generalize w1.setRow w.heap.size #[.slice p1 m.cell.length q1, .slice p2 m.stack.length q2, .slice p3 m.queue.length q3, .slice p4 m.set.length q4, .slice p5 m.table.length q5] = W2 at *
  go_upto_region 3 with (fail)
  obtain ⟨hW3, hS3, hP⟩ := one_box W2 #[.slice none 0 0, .slice none 0 0, .slice none 0 0, .slice none 0 0, .slice none 0 0] 29
  generalize W2.alloc (.cells #[.slice none 0 0, .slice none 0 0, .slice none 0 0, .slice none 0 0, .slice none 0 0] 29) = W3 at *
  have hw3 : w.heap.size < W2.heap.size := by omega
  have y := (blk5 ((hW3.block w.heap.size hw3).trans HS2.out)).1
  have x1 := y.2.1
  clear y
  have z := blk5 hP
  have z1 := z.1.2.1
  have f1 := z.2.2.1
  clear z
  have hr : W3.setCell ⟨W2.heap.size, 1, none⟩ (.slice p2 m.stack.length q2) = W3.setRow W2.heap.size #[.slice none 0 0, .slice p2 m.stack.length q2, .slice none 0 0, .slice none 0 0, .slice none 0 0] := setCell_eq_setRow W3 W2.heap.size 1 _ _ (0, 0) _ hP
  have HR := Lib.hid hr; clear hr
  have HP4 := Lib.hid (setRow_heap W3 W2.heap.size _ #[.slice none 0 0, .slice p2 m.stack.length q2, .slice none 0 0, .slice none 0 0, .slice none 0 0] 29 (0, 0) hP)
  have hb4 : Below W2.heap.size W2 (W3.setRow W2.heap.size #[.slice none 0 0, .slice p2 m.stack.length q2, .slice none 0 0, .slice none 0 0, .slice none 0 0]) := below_setRow' hW3 (Nat.le_refl _) _
  have HB4 := Lib.hid hb4; clear hb4
  clear hP hW3
  go_upto_region 14 with (fail)
  rw [HR.out]
  clear HR x1 z1 f1
  generalize W3.setRow W2.heap.size #[.slice none 0 0, .slice p2 m.stack.length q2, .slice none 0 0, .slice none 0 0, .slice none 0 0] = W4 at *
  have hY := (HB4.out.block (w.heap.size + 1) (by omega)).trans HB2.out
  have HY := Lib.hid hY; clear hY
  have hs4 := HB4.out.size
  have OB : Hid (OwnD (W4.setRow (w.heap.size + 1) #[.slice none 0 0, .slice p2 m.stack.length q2, .slice none 0 0, .slice none 0 0, .slice none 0 0]) w.heap.size (.agg #[.slice none 0 0, .slice p2 m.stack.length q2, .slice none 0 0, .slice none 0 0, .slice none 0 0]) (partM m 2)) := by
    have G := grownBy_setRow W4 (w.heap.size + 1) #[.slice none 0 0, .slice p2 m.stack.length q2, .slice none 0 0, .slice none 0 0, .slice none 0 0]
    have h1 := HG.out
    have HO := OwnE.keep (OwnE.ext (enc := eI) (Or.inr h1) HB4.out) G (by omega)
    exact ⟨_, _, _, _, _, rfl, ownE_nil _ _ _ _ _, (HO.base (by omega)), ownE_nil _ _ _ _ _, ownE_nil _ _ _ _ _, ownE_nil _ _ _ _ _⟩
  have BB : Hid (Below w.heap.size w (W4.setRow (w.heap.size + 1) #[.slice none 0 0, .slice p2 m.stack.length q2, .slice none 0 0, .slice none 0 0, .slice none 0 0])) := below_setRow' (HBW.out.trans (HB4.out.mono (by omega))) (by omega) _
  obtain ⟨⟨x0, x1, x2, x3, x4⟩, _⟩ := blk5 HP4.out
  obtain ⟨⟨y0, y1, y2, y3, y4⟩, ⟨f0, f1, f2, f3, f4⟩⟩ := blk5 HY.out
  go_wp2
  rw [set5 HY.out]
  clear x0 x1 x2 x3 x4 y0 y1 y2 y3 y4 f0 f1 f2 f3 f4
  obtain ⟨⟨z0, z1, z2, z3, z4⟩, _⟩ := blk5 (setRow_heap W4 (w.heap.size + 1) _ #[.slice none 0 0, .slice p2 m.stack.length q2, .slice none 0 0, .slice none 0 0, .slice none 0 0] 29 (0, 0) HY.out)
  refine bodyPost_ret (v := .agg #[.slice none 0 0, .slice p2 m.stack.length q2, .slice none 0 0, .slice none 0 0, .slice none 0 0]) (by simp [results, Try.results43, go_sem, z0, z1, z2, z3, z4]) rfl ⟨_, rfl, OB.out, BB.out⟩

set_option maxRecDepth 100000 in
set_option maxHeartbeats 1000000 in
theorem rPart0_queue {a b c d e : Value} {m : MC} {w : World} (h : Cont w (.agg #[a, b, c, d, e]) m) (hok : m.ok 0) :
    Calls Try.prog 43 #[.agg #[a, b, c, d, e], .int .i64 3] w (RetD w (partM m 3)) := by
  have C : Hid (∀ wx, Below w.heap.size w wx → Calls Try.prog 40 #[.agg #[a, b, c, d, e]] wx (RetOwn wx m)) := fun wx hb => rCopy0 (h.below hb) hok
  clear h hok
  go_enter Try.func43, Try.ntmps43
  go_wp2_with fail
  obtain ⟨hW, hS, hA, hB⟩ := two_boxes w #[a, b, c, d, e] #[.slice none 0 0, .slice none 0 0, .slice none 0 0, .slice none 0 0, .slice none 0 0] 29 29
  generalize (w.alloc (.cells #[a, b, c, d, e] 29)).alloc (.cells #[.slice none 0 0, .slice none 0 0, .slice none 0 0, .slice none 0 0, .slice none 0 0] 29) = W1 at *
  have HB := Lib.hid hB; clear hB
  have hS1 : w.heap.size + 2 ≤ W1.heap.size := by omega
  clear hS
  (with_reducible refine (C.out _ hW).mono ?_)
  rintro r w1 ⟨v', rfl, hc, hb1⟩
  obtain ⟨a', b', c', d', e', rfl, g1, g2, g3, g4, g5, _⟩ := hc
  obtain ⟨p1, q1, rfl⟩ := own_form g1
  obtain ⟨p2, q2, rfl⟩ := own_form g2
  obtain ⟨p3, q3, rfl⟩ := own_form g3
  obtain ⟨p4, q4, rfl⟩ := own_form g4
  obtain ⟨p5, q5, rfl⟩ := own_form g5
  have hs1 := hb1.size
  have hA1 := (hb1.block w.heap.size (by omega)).trans hA
  have hB1 := (hb1.block (w.heap.size + 1) (by omega)).trans HB.out
  have hs2 := setRow_heap w1 w.heap.size _ #[.slice p1 m.cell.length q1, .slice p2 m.stack.length q2, .slice p3 m.queue.length q3, .slice p4 m.set.length q4, .slice p5 m.table.length q5] 29 (0, 0) hA1
  have G0 := grownBy_setRow w1 w.heap.size #[.slice p1 m.cell.length q1, .slice p2 m.stack.length q2, .slice p3 m.queue.length q3, .slice p4 m.set.length q4, .slice p5 m.table.length q5]
  have g0 := own_keep g3 G0 (by omega)
  have hB2 := (setRow_other w1 w.heap.size (w.heap.size + 1) #[.slice p1 m.cell.length q1, .slice p2 m.stack.length q2, .slice p3 m.queue.length q3, .slice p4 m.set.length q4, .slice p5 m.table.length q5] (by omega)).trans hB1
  have hbw : Below w.heap.size w (w1.setRow w.heap.size #[.slice p1 m.cell.length q1, .slice p2 m.stack.length q2, .slice p3 m.queue.length q3, .slice p4 m.set.length q4, .slice p5 m.table.length q5]) := below_setRow' (hW.trans (hb1.mono (by omega))) (Nat.le_refl _) _
  have hsz : w.heap.size + 2 ≤ (w1.setRow w.heap.size #[.slice p1 m.cell.length q1, .slice p2 m.stack.length q2, .slice p3 m.queue.length q3, .slice p4 m.set.length q4, .slice p5 m.table.length q5]).heap.size := by simp; omega
  have HS2 := Lib.hid hs2; clear hs2
  have HB2 := Lib.hid hB2; clear hB2
  obtain ⟨⟨x0, x1, x2, x3, x4⟩, ⟨f0, f1, f2, f3, f4⟩⟩ := blk5 hA1
  have HE := Lib.hid (set5 hA1 (.slice p1 m.cell.length q1) (.slice p2 m.stack.length q2) (.slice p3 m.queue.length q3) (.slice p4 m.set.length q4) (.slice p5 m.table.length q5))
  clear g1 g2 g3 g4 g5 hb1 hA hA1 hB1 G0 hs1
  have HG := Lib.hid g0; clear g0
  go_upto_region 2 with (fail)
  rw [HE.out]
  clear HE x0 x1 x2 x3 x4 f0 f1 f2 f3 f4
  have HBW := Lib.hid hbw; clear hbw
  generalize w1.setRow w.heap.size #[.slice p1 m.cell.length q1, .slice p2 m.stack.length q2, .slice p3 m.queue.length q3, .slice p4 m.set.length q4, .slice p5 m.table.length q5] = W2 at *
  go_upto_region 3 with (fail)
  obtain ⟨hW3, hS3, hP⟩ := one_box W2 #[.slice none 0 0, .slice none 0 0, .slice none 0 0, .slice none 0 0, .slice none 0 0] 29
  generalize W2.alloc (.cells #[.slice none 0 0, .slice none 0 0, .slice none 0 0, .slice none 0 0, .slice none 0 0] 29) = W3 at *
  have hw3 : w.heap.size < W2.heap.size := by omega
  have y := (blk5 ((hW3.block w.heap.size hw3).trans HS2.out)).1
  have x2 := y.2.2.1
  clear y
  have z := blk5 hP
  have z2 := z.1.2.2.1
  have f2 := z.2.2.2.1
  clear z
  have hr : W3.setCell ⟨W2.heap.size, 2, none⟩ (.slice p3 m.queue.length q3) = W3.setRow W2.heap.size #[.slice none 0 0, .slice none 0 0, .slice p3 m.queue.length q3, .slice none 0 0, .slice none 0 0] := setCell_eq_setRow W3 W2.heap.size 2 _ _ (0, 0) _ hP
  have HR := Lib.hid hr; clear hr
  have HP4 := Lib.hid (setRow_heap W3 W2.heap.size _ #[.slice none 0 0, .slice none 0 0, .slice p3 m.queue.length q3, .slice none 0 0, .slice none 0 0] 29 (0, 0) hP)
  have hb4 : Below W2.heap.size W2 (W3.setRow W2.heap.size #[.slice none 0 0, .slice none 0 0, .slice p3 m.queue.length q3, .slice none 0 0, .slice none 0 0]) := below_setRow' hW3 (Nat.le_refl _) _
  have HB4 := Lib.hid hb4; clear hb4
  clear hP hW3
  go_upto_region 14 with (fail)
  rw [HR.out]
  clear HR x2 z2 f2
  generalize W3.setRow W2.heap.size #[.slice none 0 0, .slice none 0 0, .slice p3 m.queue.length q3, .slice none 0 0, .slice none 0 0] = W4 at *
  have hY := (HB4.out.block (w.heap.size + 1) (by omega)).trans HB2.out
  have HY := Lib.hid hY; clear hY
  have hs4 := HB4.out.size
  have OB : Hid (OwnD (W4.setRow (w.heap.size + 1) #[.slice none 0 0, .slice none 0 0, .slice p3 m.queue.length q3, .slice none 0 0, .slice none 0 0]) w.heap.size (.agg #[.slice none 0 0, .slice none 0 0, .slice p3 m.queue.length q3, .slice none 0 0, .slice none 0 0]) (partM m 3)) := by
    have G := grownBy_setRow W4 (w.heap.size + 1) #[.slice none 0 0, .slice none 0 0, .slice p3 m.queue.length q3, .slice none 0 0, .slice none 0 0]
    have h1 := HG.out
    have HO := OwnE.keep (OwnE.ext (enc := eI) (Or.inr h1) HB4.out) G (by omega)
    exact ⟨_, _, _, _, _, rfl, ownE_nil _ _ _ _ _, ownE_nil _ _ _ _ _, (HO.base (by omega)), ownE_nil _ _ _ _ _, ownE_nil _ _ _ _ _⟩
  have BB : Hid (Below w.heap.size w (W4.setRow (w.heap.size + 1) #[.slice none 0 0, .slice none 0 0, .slice p3 m.queue.length q3, .slice none 0 0, .slice none 0 0])) := below_setRow' (HBW.out.trans (HB4.out.mono (by omega))) (by omega) _
  obtain ⟨⟨x0, x1, x2, x3, x4⟩, _⟩ := blk5 HP4.out
  obtain ⟨⟨y0, y1, y2, y3, y4⟩, ⟨f0, f1, f2, f3, f4⟩⟩ := blk5 HY.out
  go_wp2
  rw [set5 HY.out]
  clear x0 x1 x2 x3 x4 y0 y1 y2 y3 y4 f0 f1 f2 f3 f4
  obtain ⟨⟨z0, z1, z2, z3, z4⟩, _⟩ := blk5 (setRow_heap W4 (w.heap.size + 1) _ #[.slice none 0 0, .slice none 0 0, .slice p3 m.queue.length q3, .slice none 0 0, .slice none 0 0] 29 (0, 0) HY.out)
  refine bodyPost_ret (v := .agg #[.slice none 0 0, .slice none 0 0, .slice p3 m.queue.length q3, .slice none 0 0, .slice none 0 0]) (by simp [results, Try.results43, go_sem, z0, z1, z2, z3, z4]) rfl ⟨_, rfl, OB.out, BB.out⟩

set_option maxRecDepth 100000 in
set_option maxHeartbeats 1000000 in
theorem rPart0_set {a b c d e : Value} {m : MC} {w : World} (h : Cont w (.agg #[a, b, c, d, e]) m) (hok : m.ok 0) :
    Calls Try.prog 43 #[.agg #[a, b, c, d, e], .int .i64 4] w (RetD w (partM m 4)) := by
  have C : Hid (∀ wx, Below w.heap.size w wx → Calls Try.prog 40 #[.agg #[a, b, c, d, e]] wx (RetOwn wx m)) := fun wx hb => rCopy0 (h.below hb) hok
  clear h hok
  go_enter Try.func43, Try.ntmps43
  go_wp2_with fail
  obtain ⟨hW, hS, hA, hB⟩ := two_boxes w #[a, b, c, d, e] #[.slice none 0 0, .slice none 0 0, .slice none 0 0, .slice none 0 0, .slice none 0 0] 29 29
  generalize (w.alloc (.cells #[a, b, c, d, e] 29)).alloc (.cells #[.slice none 0 0, .slice none 0 0, .slice none 0 0, .slice none 0 0, .slice none 0 0] 29) = W1 at *
  have HB := Lib.hid hB; clear hB
  have hS1 : w.heap.size + 2 ≤ W1.heap.size := by omega
  clear hS
  (with_reducible refine (C.out _ hW).mono ?_)
  rintro r w1 ⟨v', rfl, hc, hb1⟩
  obtain ⟨a', b', c', d', e', rfl, g1, g2, g3, g4, g5, _⟩ := hc
  obtain ⟨p1, q1, rfl⟩ := own_form g1
  obtain ⟨p2, q2, rfl⟩ := own_form g2
  obtain ⟨p3, q3, rfl⟩ := own_form g3
  obtain ⟨p4, q4, rfl⟩ := own_form g4
  obtain ⟨p5, q5, rfl⟩ := own_form g5
  have hs1 := hb1.size
  have hA1 := (hb1.block w.heap.size (by omega)).trans hA
  have hB1 := (hb1.block (w.heap.size + 1) (by omega)).trans HB.out
  have hs2 := setRow_heap w1 w.heap.size _ #[.slice p1 m.cell.length q1, .slice p2 m.stack.length q2, .slice p3 m.queue.length q3, .slice p4 m.set.length q4, .slice p5 m.table.length q5] 29 (0, 0) hA1
  have G0 := grownBy_setRow w1 w.heap.size #[.slice p1 m.cell.length q1, .slice p2 m.stack.length q2, .slice p3 m.queue.length q3, .slice p4 m.set.length q4, .slice p5 m.table.length q5]
  have g0 := own_keep g4 G0 (by omega)
  have hB2 := (setRow_other w1 w.heap.size (w.heap.size + 1) #[.slice p1 m.cell.length q1, .slice p2 m.stack.length q2, .slice p3 m.queue.length q3, .slice p4 m.set.length q4, .slice p5 m.table.length q5] (by omega)).trans hB1
  have hbw : Below w.heap.size w (w1.setRow w.heap.size #[.slice p1 m.cell.length q1, .slice p2 m.stack.length q2, .slice p3 m.queue.length q3, .slice p4 m.set.length q4, .slice p5 m.table.length q5]) := below_setRow' (hW.trans (hb1.mono (by omega))) (Nat.le_refl _) _
  have hsz : w.heap.size + 2 ≤ (w1.setRow w.heap.size #[.slice p1 m.cell.length q1, .slice p2 m.stack.length q2, .slice p3 m.queue.length q3, .slice p4 m.set.length q4, .slice p5 m.table.length q5]).heap.size := by simp; omega
  have HS2 := Lib.hid hs2; clear hs2
  have HB2 := Lib.hid hB2; clear hB2
  obtain ⟨⟨x0, x1, x2, x3, x4⟩, ⟨f0, f1, f2, f3, f4⟩⟩ := blk5 hA1
  have HE := Lib.hid (set5 hA1 (.slice p1 m.cell.length q1) (.slice p2 m.stack.length q2) (.slice p3 m.queue.length q3) (.slice p4 m.set.length q4) (.slice p5 m.table.length q5))
  clear g1 g2 g3 g4 g5 hb1 hA hA1 hB1 G0 hs1
  have HG := Lib.hid g0; clear g0
  go_upto_region 2 with (fail)
  rw [HE.out]
  clear HE x0 x1 x2 x3 x4 f0 f1 f2 f3 f4
  have HBW := Lib.hid hbw; clear hbw
  generalize w1.setRow w.heap.size #[.slice p1 m.cell.length q1, .slice p2 m.stack.length q2, .slice p3 m.queue.length q3, .slice p4 m.set.length q4, .slice p5 m.table.length q5] = W2 at *
  go_upto_region 3 with (fail)
  obtain ⟨hW3, hS3, hP⟩ := one_box W2 #[.slice none 0 0, .slice none 0 0, .slice none 0 0, .slice none 0 0, .slice none 0 0] 29
  generalize W2.alloc (.cells #[.slice none 0 0, .slice none 0 0, .slice none 0 0, .slice none 0 0, .slice none 0 0] 29) = W3 at *
  have hw3 : w.heap.size < W2.heap.size := by omega
  have y := (blk5 ((hW3.block w.heap.size hw3).trans HS2.out)).1
  have x3 := y.2.2.2.1
  clear y
  have z := blk5 hP
  have z3 := z.1.2.2.2.1
  have f3 := z.2.2.2.2.1
  clear z
  have hr : W3.setCell ⟨W2.heap.size, 3, none⟩ (.slice p4 m.set.length q4) = W3.setRow W2.heap.size #[.slice none 0 0, .slice none 0 0, .slice none 0 0, .slice p4 m.set.length q4, .slice none 0 0] := setCell_eq_setRow W3 W2.heap.size 3 _ _ (0, 0) _ hP
  have HR := Lib.hid hr; clear hr
  have HP4 := Lib.hid (setRow_heap W3 W2.heap.size _ #[.slice none 0 0, .slice none 0 0, .slice none 0 0, .slice p4 m.set.length q4, .slice none 0 0] 29 (0, 0) hP)
  have hb4 : Below W2.heap.size W2 (W3.setRow W2.heap.size #[.slice none 0 0, .slice none 0 0, .slice none 0 0, .slice p4 m.set.length q4, .slice none 0 0]) := below_setRow' hW3 (Nat.le_refl _) _
  have HB4 := Lib.hid hb4; clear hb4
  clear hP hW3
  go_upto_region 14 with (fail)
  rw [HR.out]
  clear HR x3 z3 f3
  generalize W3.setRow W2.heap.size #[.slice none 0 0, .slice none 0 0, .slice none 0 0, .slice p4 m.set.length q4, .slice none 0 0] = W4 at *
  have hY := (HB4.out.block (w.heap.size + 1) (by omega)).trans HB2.out
  have HY := Lib.hid hY; clear hY
  have hs4 := HB4.out.size
  have OB : Hid (OwnD (W4.setRow (w.heap.size + 1) #[.slice none 0 0, .slice none 0 0, .slice none 0 0, .slice p4 m.set.length q4, .slice none 0 0]) w.heap.size (.agg #[.slice none 0 0, .slice none 0 0, .slice none 0 0, .slice p4 m.set.length q4, .slice none 0 0]) (partM m 4)) := by
    have G := grownBy_setRow W4 (w.heap.size + 1) #[.slice none 0 0, .slice none 0 0, .slice none 0 0, .slice p4 m.set.length q4, .slice none 0 0]
    have h1 := HG.out
    have HO := OwnE.keep (OwnE.ext (enc := eI) (Or.inr h1) HB4.out) G (by omega)
    exact ⟨_, _, _, _, _, rfl, ownE_nil _ _ _ _ _, ownE_nil _ _ _ _ _, ownE_nil _ _ _ _ _, (HO.base (by omega)), ownE_nil _ _ _ _ _⟩
  have BB : Hid (Below w.heap.size w (W4.setRow (w.heap.size + 1) #[.slice none 0 0, .slice none 0 0, .slice none 0 0, .slice p4 m.set.length q4, .slice none 0 0])) := below_setRow' (HBW.out.trans (HB4.out.mono (by omega))) (by omega) _
  obtain ⟨⟨x0, x1, x2, x3, x4⟩, _⟩ := blk5 HP4.out
  obtain ⟨⟨y0, y1, y2, y3, y4⟩, ⟨f0, f1, f2, f3, f4⟩⟩ := blk5 HY.out
  go_wp2
  rw [set5 HY.out]
  clear x0 x1 x2 x3 x4 y0 y1 y2 y3 y4 f0 f1 f2 f3 f4
  obtain ⟨⟨z0, z1, z2, z3, z4⟩, _⟩ := blk5 (setRow_heap W4 (w.heap.size + 1) _ #[.slice none 0 0, .slice none 0 0, .slice none 0 0, .slice p4 m.set.length q4, .slice none 0 0] 29 (0, 0) HY.out)
  refine bodyPost_ret (v := .agg #[.slice none 0 0, .slice none 0 0, .slice none 0 0, .slice p4 m.set.length q4, .slice none 0 0]) (by simp [results, Try.results43, go_sem, z0, z1, z2, z3, z4]) rfl ⟨_, rfl, OB.out, BB.out⟩

set_option maxRecDepth 100000 in
set_option maxHeartbeats 1000000 in
theorem rPart0_table {a b c d e : Value} {m : MC} {w : World} (h : Cont w (.agg #[a, b, c, d, e]) m) (hok : m.ok 0) :
    Calls Try.prog 43 #[.agg #[a, b, c, d, e], .int .i64 5] w (RetD w (partM m 5)) := by
  have C : Hid (∀ wx, Below w.heap.size w wx → Calls Try.prog 40 #[.agg #[a, b, c, d, e]] wx (RetOwn wx m)) := fun wx hb => rCopy0 (h.below hb) hok
  clear h hok
  go_enter Try.func43, Try.ntmps43
  go_wp2_with fail
  obtain ⟨hW, hS, hA, hB⟩ := two_boxes w #[a, b, c, d, e] #[.slice none 0 0, .slice none 0 0, .slice none 0 0, .slice none 0 0, .slice none 0 0] 29 29
  generalize (w.alloc (.cells #[a, b, c, d, e] 29)).alloc (.cells #[.slice none 0 0, .slice none 0 0, .slice none 0 0, .slice none 0 0, .slice none 0 0] 29) = W1 at *
  have HB := Lib.hid hB; clear hB
  have hS1 : w.heap.size + 2 ≤ W1.heap.size := by omega
  clear hS
  (with_reducible refine (C.out _ hW).mono ?_)
  rintro r w1 ⟨v', rfl, hc, hb1⟩
  obtain ⟨a', b', c', d', e', rfl, g1, g2, g3, g4, g5, _⟩ := hc
  obtain ⟨p1, q1, rfl⟩ := own_form g1
  obtain ⟨p2, q2, rfl⟩ := own_form g2
  obtain ⟨p3, q3, rfl⟩ := own_form g3
  obtain ⟨p4, q4, rfl⟩ := own_form g4
  obtain ⟨p5, q5, rfl⟩ := own_form g5
  have hs1 := hb1.size
  have hA1 := (hb1.block w.heap.size (by omega)).trans hA
  have hB1 := (hb1.block (w.heap.size + 1) (by omega)).trans HB.out
  have hs2 := setRow_heap w1 w.heap.size _ #[.slice p1 m.cell.length q1, .slice p2 m.stack.length q2, .slice p3 m.queue.length q3, .slice p4 m.set.length q4, .slice p5 m.table.length q5] 29 (0, 0) hA1
  have G0 := grownBy_setRow w1 w.heap.size #[.slice p1 m.cell.length q1, .slice p2 m.stack.length q2, .slice p3 m.queue.length q3, .slice p4 m.set.length q4, .slice p5 m.table.length q5]
  have g0 := own_keep g5 G0 (by omega)
  have hB2 := (setRow_other w1 w.heap.size (w.heap.size + 1) #[.slice p1 m.cell.length q1, .slice p2 m.stack.length q2, .slice p3 m.queue.length q3, .slice p4 m.set.length q4, .slice p5 m.table.length q5] (by omega)).trans hB1
  have hbw : Below w.heap.size w (w1.setRow w.heap.size #[.slice p1 m.cell.length q1, .slice p2 m.stack.length q2, .slice p3 m.queue.length q3, .slice p4 m.set.length q4, .slice p5 m.table.length q5]) := below_setRow' (hW.trans (hb1.mono (by omega))) (Nat.le_refl _) _
  have hsz : w.heap.size + 2 ≤ (w1.setRow w.heap.size #[.slice p1 m.cell.length q1, .slice p2 m.stack.length q2, .slice p3 m.queue.length q3, .slice p4 m.set.length q4, .slice p5 m.table.length q5]).heap.size := by simp; omega
  have HS2 := Lib.hid hs2; clear hs2
  have HB2 := Lib.hid hB2; clear hB2
  obtain ⟨⟨x0, x1, x2, x3, x4⟩, ⟨f0, f1, f2, f3, f4⟩⟩ := blk5 hA1
  have HE := Lib.hid (set5 hA1 (.slice p1 m.cell.length q1) (.slice p2 m.stack.length q2) (.slice p3 m.queue.length q3) (.slice p4 m.set.length q4) (.slice p5 m.table.length q5))
  clear g1 g2 g3 g4 g5 hb1 hA hA1 hB1 G0 hs1
  have HG := Lib.hid g0; clear g0
  go_upto_region 2 with (fail)
  rw [HE.out]
  clear HE x0 x1 x2 x3 x4 f0 f1 f2 f3 f4
  have HBW := Lib.hid hbw; clear hbw
  generalize w1.setRow w.heap.size #[.slice p1 m.cell.length q1, .slice p2 m.stack.length q2, .slice p3 m.queue.length q3, .slice p4 m.set.length q4, .slice p5 m.table.length q5] = W2 at *
  go_upto_region 3 with (fail)
  obtain ⟨hW3, hS3, hP⟩ := one_box W2 #[.slice none 0 0, .slice none 0 0, .slice none 0 0, .slice none 0 0, .slice none 0 0] 29
  generalize W2.alloc (.cells #[.slice none 0 0, .slice none 0 0, .slice none 0 0, .slice none 0 0, .slice none 0 0] 29) = W3 at *
  have hw3 : w.heap.size < W2.heap.size := by omega
  have y := (blk5 ((hW3.block w.heap.size hw3).trans HS2.out)).1
  have x4 := y.2.2.2.2
  clear y
  have z := blk5 hP
  have z4 := z.1.2.2.2.2
  have f4 := z.2.2.2.2.2
  clear z
  have hr : W3.setCell ⟨W2.heap.size, 4, none⟩ (.slice p5 m.table.length q5) = W3.setRow W2.heap.size #[.slice none 0 0, .slice none 0 0, .slice none 0 0, .slice none 0 0, .slice p5 m.table.length q5] := setCell_eq_setRow W3 W2.heap.size 4 _ _ (0, 0) _ hP
  have HR := Lib.hid hr; clear hr
  have HP4 := Lib.hid (setRow_heap W3 W2.heap.size _ #[.slice none 0 0, .slice none 0 0, .slice none 0 0, .slice none 0 0, .slice p5 m.table.length q5] 29 (0, 0) hP)
  have hb4 : Below W2.heap.size W2 (W3.setRow W2.heap.size #[.slice none 0 0, .slice none 0 0, .slice none 0 0, .slice none 0 0, .slice p5 m.table.length q5]) := below_setRow' hW3 (Nat.le_refl _) _
  have HB4 := Lib.hid hb4; clear hb4
  clear hP hW3
  go_upto_region 14 with (fail)
  rw [HR.out]
  clear HR x4 z4 f4
  generalize W3.setRow W2.heap.size #[.slice none 0 0, .slice none 0 0, .slice none 0 0, .slice none 0 0, .slice p5 m.table.length q5] = W4 at *
  have hY := (HB4.out.block (w.heap.size + 1) (by omega)).trans HB2.out
  have HY := Lib.hid hY; clear hY
  have hs4 := HB4.out.size
  have OB : Hid (OwnD (W4.setRow (w.heap.size + 1) #[.slice none 0 0, .slice none 0 0, .slice none 0 0, .slice none 0 0, .slice p5 m.table.length q5]) w.heap.size (.agg #[.slice none 0 0, .slice none 0 0, .slice none 0 0, .slice none 0 0, .slice p5 m.table.length q5]) (partM m 5)) := by
    have G := grownBy_setRow W4 (w.heap.size + 1) #[.slice none 0 0, .slice none 0 0, .slice none 0 0, .slice none 0 0, .slice p5 m.table.length q5]
    have h1 := HG.out
    have HO := OwnE.keep (OwnE.ext (enc := eP) (Or.inr h1) HB4.out) G (by omega)
    exact ⟨_, _, _, _, _, rfl, ownE_nil _ _ _ _ _, ownE_nil _ _ _ _ _, ownE_nil _ _ _ _ _, ownE_nil _ _ _ _ _, (HO.base (by omega))⟩
  have BB : Hid (Below w.heap.size w (W4.setRow (w.heap.size + 1) #[.slice none 0 0, .slice none 0 0, .slice none 0 0, .slice none 0 0, .slice p5 m.table.length q5])) := below_setRow' (HBW.out.trans (HB4.out.mono (by omega))) (by omega) _
  obtain ⟨⟨x0, x1, x2, x3, x4⟩, _⟩ := blk5 HP4.out
  obtain ⟨⟨y0, y1, y2, y3, y4⟩, ⟨f0, f1, f2, f3, f4⟩⟩ := blk5 HY.out
  go_wp2
  rw [set5 HY.out]
  clear x0 x1 x2 x3 x4 y0 y1 y2 y3 y4 f0 f1 f2 f3 f4
  obtain ⟨⟨z0, z1, z2, z3, z4⟩, _⟩ := blk5 (setRow_heap W4 (w.heap.size + 1) _ #[.slice none 0 0, .slice none 0 0, .slice none 0 0, .slice none 0 0, .slice p5 m.table.length q5] 29 (0, 0) HY.out)
  refine bodyPost_ret (v := .agg #[.slice none 0 0, .slice none 0 0, .slice none 0 0, .slice none 0 0, .slice p5 m.table.length q5]) (by simp [results, Try.results43, go_sem, z0, z1, z2, z3, z4]) rfl ⟨_, rfl, OB.out, BB.out⟩

end Go.Proofs.Ytgljbdcamagdbaa
