/- model.Do where it refuses; and in either case. No conditions but the lists' shortness. -/
import Derived.Test.YtgljbdcamagdbaaMDo
namespace Go.Proofs.Ytgljbdcamagdbaa
open Go.RowKit

/-- nothing, no answer, and an error's number -/
def RetZ3 (W : World) (n : Int) (r : Ending) (w' : World) : Prop := r = .returned (.tuple #[zeroC, .agg #[.int .i64 0, .int .i64 0], .int .i64 n]) ∧ Below W.heap.size W w'

set_option maxRecDepth 100000 in
set_option maxHeartbeats 1000000 in
theorem mDo_no {v : Value} {m : MC} {w : World} (op arg data : Int) (h : Cont w v m) (hn : refN m op ≠ 0) :
    Calls Try.prog 25 #[v, .int .i64 op, .int .i64 arg, .int .i64 data] w (RetZ3 w (refN m op)) := by
  have h0 := h
  obtain ⟨a, b, c, d, e, rfl, _⟩ := h
  obtain ⟨n, hr⟩ : ∃ n, refN m op = n := ⟨_, rfl⟩
  rw [hr] at hn ⊢
  have C1 : Hid (∀ wx, Below w.heap.size w wx → Calls Try.prog 44 #[.agg #[a, b, c, d, e], .int .i64 op] wx fun r w' => r = .returned (.int .i64 n) ∧ Below wx.heap.size wx w') := fun wx hb => by rw [← hr]; exact refused_any op (h0.below hb)
  clear h0 hr
  have hn1 : (n != 0) = true := by simpa using hn
  obtain ⟨hW, hS, hA, hB, hC⟩ := three_boxes w #[a, b, c, d, e] #[.slice none 0 0, .slice none 0 0, .slice none 0 0, .slice none 0 0, .slice none 0 0] #[.int .i64 0, .int .i64 0] 29 29 42
  go_enter Try.func25, Try.ntmps25
  go_wp2_with fail
  generalize ((w.alloc (.cells #[a, b, c, d, e] 29)).alloc (.cells #[.slice none 0 0, .slice none 0 0, .slice none 0 0, .slice none 0 0, .slice none 0 0] 29)).alloc (.cells #[.int .i64 0, .int .i64 0] 42) = W1 at *
  (with_reducible refine (C1.out _ hW).mono ?_)
  rintro r w1 ⟨rfl, hb1⟩
  have hb : Below (w.heap.size + 3) W1 w1 := hb1.mono (by omega)
  have HBW := Lib.hid (hW.trans (hb.mono (by omega)))
  have HY := Lib.hid ((hb.block (w.heap.size + 1) (by omega)).trans hB)
  have hz := (hb.block (w.heap.size + 2) (by omega)).trans hC
  have e2 : w.heap.size + 2 = w.heap.size + 1 + 1 := rfl
  rw [e2] at hz
  have HZ := Lib.hid hz
  clear hb1 hb C1 hz e2 hA hB hC hW
  obtain ⟨⟨y0, y1, y2, y3, y4⟩, ⟨f0, f1, f2, f3, f4⟩⟩ := blk5 HY.out
  obtain ⟨⟨x0, x1⟩, ⟨g0, g1⟩⟩ := blk2 HZ.out
  have hyz : w.heap.size + 1 + 1 ≠ w.heap.size + 1 := by omega
  go_wp2
  clear y0 y1 y2 y3 y4 f0 f1 f2 f3 f4 x0 x1 g0 g1
  have HZ10 := Lib.hid ((setRow_other w1 (w.heap.size + 1) (w.heap.size + 1 + 1) #[.slice none 0 0, .slice none 0 0, .slice none 0 0, .slice none 0 0, .slice none 0 0] hyz).trans HZ.out)
  rw [set5 HY.out, set2 HZ10.out]
  have hYF := (setRow_other (w1.setRow (w.heap.size + 1) #[.slice none 0 0, .slice none 0 0, .slice none 0 0, .slice none 0 0, .slice none 0 0]) (w.heap.size + 1 + 1) (w.heap.size + 1) #[.int .i64 0, .int .i64 0] (Ne.symm hyz)).trans (setRow_heap w1 (w.heap.size + 1) _ #[.slice none 0 0, .slice none 0 0, .slice none 0 0, .slice none 0 0, .slice none 0 0] 29 (0, 0) HY.out)
  have hZF := setRow_heap (w1.setRow (w.heap.size + 1) #[.slice none 0 0, .slice none 0 0, .slice none 0 0, .slice none 0 0, .slice none 0 0]) (w.heap.size + 1 + 1) _ #[.int .i64 0, .int .i64 0] 42 (0, 0) HZ10.out
  obtain ⟨⟨z0, z1, z2, z3, z4⟩, _⟩ := blk5 hYF
  obtain ⟨⟨x0, x1⟩, _⟩ := blk2 hZF
  refine bodyPost_ret (v := .tuple #[zeroC, .agg #[.int .i64 0, .int .i64 0], .int .i64 n]) ?_ rfl ⟨rfl, ?_⟩
  · simp [zeroC, results, Try.results25, go_sem, z0, z1, z2, z3, z4, x0, x1]
  · exact below_setRow' (below_setRow' HBW.out (by omega) _) (by omega) _
end Go.Proofs.Ytgljbdcamagdbaa
