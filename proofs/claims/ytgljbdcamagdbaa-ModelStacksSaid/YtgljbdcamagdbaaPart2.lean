/- model.Part's refusals, the reference's Part. The lists are so short that memory bears them. -/
import Derived.Test.YtgljbdcamagdbaaRPart
namespace Go.Proofs.Ytgljbdcamagdbaa
open Go.RowKit

theorem OwnD.form {w : World} {base : Nat} {v : Value} {m : MC} (h : OwnD w base v m) : ∃ p1 q1 p2 q2 p3 q3 p4 q4 p5 q5, v = .agg #[.slice p1 m.cell.length q1, .slice p2 m.stack.length q2, .slice p3 m.queue.length q3, .slice p4 m.set.length q4, .slice p5 m.table.length q5] := by
  obtain ⟨a, b, c, d, e, rfl, h1, h2, h3, h4, h5⟩ := h
  obtain ⟨p1, q1, rfl⟩ := h1.form
  obtain ⟨p2, q2, rfl⟩ := h2.form
  obtain ⟨p3, q3, rfl⟩ := h3.form
  obtain ⟨p4, q4, rfl⟩ := h4.form
  obtain ⟨p5, q5, rfl⟩ := h5.form
  exact ⟨_, _, _, _, _, _, _, _, _, _, rfl⟩

theorem rPart0 {a b c d e : Value} {m : MC} {w : World} {n : Int} (hn : 1 ≤ n ∧ n ≤ 5) (h : Cont w (.agg #[a, b, c, d, e]) m) (hok : m.ok 0) :
    Calls Try.prog 43 #[.agg #[a, b, c, d, e], .int .i64 n] w (RetD w (partM m n)) := by
  have : n = 1 ∨ n = 2 ∨ n = 3 ∨ n = 4 ∨ n = 5 := by omega
  rcases this with rfl | rfl | rfl | rfl | rfl
  · exact rPart0_cell h hok
  · exact rPart0_stack h hok
  · exact rPart0_queue h hok
  · exact rPart0_set h hok
  · exact rPart0_table h hok

set_option maxRecDepth 100000 in
set_option maxHeartbeats 1000000 in
theorem rPart {v : Value} {m : MC} {w : World} {n : Int} (hn : 1 ≤ n ∧ n ≤ 5) (h : Cont w v m) (hok : m.ok 0) :
    Calls Try.prog 24 #[v, .int .i64 n] w (RetD w (partM m n)) := by
  have h0 := h
  obtain ⟨a, b, c, d, e, rfl, _⟩ := h
  have C : Hid (∀ wx, Below w.heap.size w wx → Calls Try.prog 43 #[.agg #[a, b, c, d, e], .int .i64 n] wx (RetD wx (partM m n))) := fun wx hb => rPart0 hn (h0.below hb) hok
  clear h0 hok hn
  generalize partM m n = m' at *
  go_enter Try.func24, Try.ntmps24
  go_wp2_with fail
  obtain ⟨hW, hS, hA, hB⟩ := two_boxes w #[a, b, c, d, e] #[.slice none 0 0, .slice none 0 0, .slice none 0 0, .slice none 0 0, .slice none 0 0] 29 29
  generalize (w.alloc (.cells #[a, b, c, d, e] 29)).alloc (.cells #[.slice none 0 0, .slice none 0 0, .slice none 0 0, .slice none 0 0, .slice none 0 0] 29) = W1 at *
  (with_reducible refine (C.out _ hW).mono ?_)
  rintro r w' ⟨v', rfl, ho, hb⟩
  obtain ⟨p1, q1, p2, q2, p3, q3, p4, q4, p5, q5, rfl⟩ := ho.form
  have hY := (hb.block (w.heap.size + 1) (by omega)).trans hB
  have HY := Lib.hid hY; clear hY
  have OB : Hid (OwnD (w'.setRow (w.heap.size + 1) #[.slice p1 m'.cell.length q1, .slice p2 m'.stack.length q2, .slice p3 m'.queue.length q3, .slice p4 m'.set.length q4, .slice p5 m'.table.length q5]) w.heap.size (.agg #[.slice p1 m'.cell.length q1, .slice p2 m'.stack.length q2, .slice p3 m'.queue.length q3, .slice p4 m'.set.length q4, .slice p5 m'.table.length q5]) m') :=
    (ho.keep (grownBy_setRow w' (w.heap.size + 1) #[.slice p1 m'.cell.length q1, .slice p2 m'.stack.length q2, .slice p3 m'.queue.length q3, .slice p4 m'.set.length q4, .slice p5 m'.table.length q5]) (by omega)).base (by omega)
  have BB : Hid (Below w.heap.size w (w'.setRow (w.heap.size + 1) #[.slice p1 m'.cell.length q1, .slice p2 m'.stack.length q2, .slice p3 m'.queue.length q3, .slice p4 m'.set.length q4, .slice p5 m'.table.length q5])) := below_setRow' (hW.trans (hb.mono (by omega))) (by omega) _
  clear ho hb hA hB hW hS C
  obtain ⟨⟨z0, z1, z2, z3, z4⟩, ⟨f0, f1, f2, f3, f4⟩⟩ := blk5 HY.out
  go_wp2
  rw [set5 HY.out]
  clear z0 z1 z2 z3 z4 f0 f1 f2 f3 f4
  obtain ⟨⟨z0, z1, z2, z3, z4⟩, _⟩ := blk5 (setRow_heap w' (w.heap.size + 1) _ #[.slice p1 m'.cell.length q1, .slice p2 m'.stack.length q2, .slice p3 m'.queue.length q3, .slice p4 m'.set.length q4, .slice p5 m'.table.length q5] 29 (0, 0) HY.out)
  refine bodyPost_ret (v := .agg #[.slice p1 m'.cell.length q1, .slice p2 m'.stack.length q2, .slice p3 m'.queue.length q3, .slice p4 m'.set.length q4, .slice p5 m'.table.length q5]) (by simp [results, Try.results24, go_sem, z0, z1, z2, z3, z4]) rfl ⟨_, rfl, OB.out, BB.out⟩

/-- no contents, and an error's number -/
def RetZE (W : World) (n : Int) (r : Ending) (w' : World) : Prop := r = .returned (.tuple #[zeroC, .int .i64 n]) ∧ Below W.heap.size W w'

set_option maxRecDepth 100000 in
set_option maxHeartbeats 1000000 in
theorem mPart_no {v : Value} {m : MC} {w : World} {n : Int} (h : Cont w v m) (hm : mayB m = false) :
    Calls Try.prog 23 #[v, .int .i64 n] w (RetZE w 111) := by
  have h0 := h
  obtain ⟨a, b, c, d, e, rfl, _⟩ := h
  have C1 : Hid (∀ wx, Below w.heap.size w wx → Calls Try.prog 18 #[.agg #[a, b, c, d, e]] wx fun r w' => r = .returned (.bool false) ∧ Below wx.heap.size wx w') := fun wx hb => by rw [← hm]; exact mMay (h0.below hb)
  clear h0 hm
  go_enter Try.func23, Try.ntmps23
  go_wp2_with fail
  obtain ⟨hW, hS, hA, hB⟩ := two_boxes w #[a, b, c, d, e] #[.slice none 0 0, .slice none 0 0, .slice none 0 0, .slice none 0 0, .slice none 0 0] 29 29
  generalize (w.alloc (.cells #[a, b, c, d, e] 29)).alloc (.cells #[.slice none 0 0, .slice none 0 0, .slice none 0 0, .slice none 0 0, .slice none 0 0] 29) = W1 at *
  (with_reducible refine (C1.out _ hW).mono ?_)
  rintro r w' ⟨rfl, hb⟩
  have hY := (hb.block (w.heap.size + 1) (by omega)).trans hB
  have HY := Lib.hid hY; clear hY
  have BB : Hid (Below w.heap.size w (w'.setRow (w.heap.size + 1) #[.slice none 0 0, .slice none 0 0, .slice none 0 0, .slice none 0 0, .slice none 0 0])) := below_setRow' (hW.trans (hb.mono (by omega))) (by omega) _
  clear hb hA hB hW hS C1
  obtain ⟨⟨z0, z1, z2, z3, z4⟩, ⟨f0, f1, f2, f3, f4⟩⟩ := blk5 HY.out
  go_wp2
  all_goals rw [set5 HY.out]
  all_goals clear z0 z1 z2 z3 z4 f0 f1 f2 f3 f4
  all_goals obtain ⟨⟨z0, z1, z2, z3, z4⟩, _⟩ := blk5 (setRow_heap w' (w.heap.size + 1) _ #[.slice none 0 0, .slice none 0 0, .slice none 0 0, .slice none 0 0, .slice none 0 0] 29 (0, 0) HY.out)
  all_goals refine bodyPost_ret (v := .tuple #[.agg #[.slice none 0 0, .slice none 0 0, .slice none 0 0, .slice none 0 0, .slice none 0 0], .int .i64 111]) (by simp [results, Try.results23, go_sem, z0, z1, z2, z3, z4]) rfl ⟨rfl, BB.out⟩

set_option maxRecDepth 100000 in
set_option maxHeartbeats 1000000 in
theorem mPart_range {v : Value} {m : MC} {w : World} {n : Int} (h : Cont w v m) (hm : mayB m = true) (hn : n < 1 ∨ 5 < n) :
    Calls Try.prog 23 #[v, .int .i64 n] w (RetZE w 2) := by
  have h0 := h
  obtain ⟨a, b, c, d, e, rfl, _⟩ := h
  have C1 : Hid (∀ wx, Below w.heap.size w wx → Calls Try.prog 18 #[.agg #[a, b, c, d, e]] wx fun r w' => r = .returned (.bool true) ∧ Below wx.heap.size wx w') := fun wx hb => by rw [← hm]; exact mMay (h0.below hb)
  clear h0 hm
  go_enter Try.func23, Try.ntmps23
  go_wp2_with fail
  obtain ⟨hW, hS, hA, hB⟩ := two_boxes w #[a, b, c, d, e] #[.slice none 0 0, .slice none 0 0, .slice none 0 0, .slice none 0 0, .slice none 0 0] 29 29
  generalize (w.alloc (.cells #[a, b, c, d, e] 29)).alloc (.cells #[.slice none 0 0, .slice none 0 0, .slice none 0 0, .slice none 0 0, .slice none 0 0] 29) = W1 at *
  (with_reducible refine (C1.out _ hW).mono ?_)
  rintro r w' ⟨rfl, hb⟩
  have hY := (hb.block (w.heap.size + 1) (by omega)).trans hB
  have HY := Lib.hid hY; clear hY
  have BB : Hid (Below w.heap.size w (w'.setRow (w.heap.size + 1) #[.slice none 0 0, .slice none 0 0, .slice none 0 0, .slice none 0 0, .slice none 0 0])) := below_setRow' (hW.trans (hb.mono (by omega))) (by omega) _
  clear hb hA hB hW hS C1
  obtain ⟨⟨z0, z1, z2, z3, z4⟩, ⟨f0, f1, f2, f3, f4⟩⟩ := blk5 HY.out
  go_wp2
  all_goals rw [set5 HY.out]
  all_goals clear z0 z1 z2 z3 z4 f0 f1 f2 f3 f4
  all_goals obtain ⟨⟨z0, z1, z2, z3, z4⟩, _⟩ := blk5 (setRow_heap w' (w.heap.size + 1) _ #[.slice none 0 0, .slice none 0 0, .slice none 0 0, .slice none 0 0, .slice none 0 0] 29 (0, 0) HY.out)
  all_goals refine bodyPost_ret (v := .tuple #[.agg #[.slice none 0 0, .slice none 0 0, .slice none 0 0, .slice none 0 0, .slice none 0 0], .int .i64 2]) (by simp [results, Try.results23, go_sem, z0, z1, z2, z3, z4]) rfl ⟨rfl, BB.out⟩

theorem mPart {v : Value} {m : MC} {w : World} {n : Int} (hn : 1 ≤ n ∧ n ≤ 5) (h : Cont w v m) (hok : m.ok 0) (hm : mayB m = true) :
    Calls Try.prog 23 #[v, .int .i64 n] w (RetDE w (partM m n) 0) := by
  have : n = 1 ∨ n = 2 ∨ n = 3 ∨ n = 4 ∨ n = 5 := by omega
  rcases this with rfl | rfl | rfl | rfl | rfl
  · exact mPart_cell h hok hm
  · exact mPart_stack h hok hm
  · exact mPart_queue h hok hm
  · exact mPart_set h hok hm
  · exact mPart_table h hok hm
end Go.Proofs.Ytgljbdcamagdbaa
