/- model.Part: one object's contents alone. The lists are so short that memory bears them. -/
import Derived.Test.YtgljbdcamagdbaaPut
namespace Go.Proofs.Ytgljbdcamagdbaa
open Go.RowKit

def partM (m : MC) (n : Int) : MC :=
  if n = 1 then ⟨m.cell, [], [], [], []⟩ else if n = 2 then ⟨[], m.stack, [], [], []⟩ else if n = 3 then ⟨[], [], m.queue, [], []⟩ else if n = 4 then ⟨[], [], [], m.set, []⟩ else ⟨[], [], [], [], m.table⟩

def zeroC : Value := .agg #[.slice none 0 0, .slice none 0 0, .slice none 0 0, .slice none 0 0, .slice none 0 0]
theorem cont_zero (w : World) : Cont w zeroC ⟨[], [], [], [], []⟩ := ⟨_, _, _, _, _, rfl, Arr.nil _ _ _, Arr.nil _ _ _, Arr.nil _ _ _, Arr.nil _ _ _, Arr.nil _ _ _⟩
theorem ownE_nil {α : Type} (w : World) (base : Nat) (e : TypeId) (enc : α → List Value) (size : Nat) : OwnE w base e enc size (.slice none 0 0) [] := Or.inl ⟨rfl, _, rfl⟩

/-- contents of the call's own, and an error's number -/
def RetDE (W : World) (m : MC) (n : Int) (r : Ending) (w' : World) : Prop := ∃ v', r = .returned (.tuple #[v', .int .i64 n]) ∧ OwnD w' W.heap.size v' m ∧ Below W.heap.size W w'

set_option maxRecDepth 100000 in
set_option maxHeartbeats 1000000 in
theorem mPart_cell {v : Value} {m : MC} {w : World} (h : Cont w v m) (hok : m.ok 0) (hm : mayB m = true) :
    Calls Try.prog 23 #[v, .int .i64 1] w (RetDE w (partM m 1) 0) := by
  have h0 := h
  obtain ⟨a, b, c, d, e, rfl, _⟩ := h
  have C1 : Hid (∀ wx, Below w.heap.size w wx → Calls Try.prog 18 #[.agg #[a, b, c, d, e]] wx fun r w' => r = .returned (.bool true) ∧ Below wx.heap.size wx w') := fun wx hb => by rw [← hm]; exact mMay (h0.below hb)
  have C2 : Hid (∀ wx, Below w.heap.size w wx → Calls Try.prog 42 #[.agg #[a, b, c, d, e]] wx (RetD wx m)) := fun wx hb => mCopied (h0.below hb) hok
  clear h0 hok hm
  go_enter Try.func23, Try.ntmps23
  go_wp2_with fail
  obtain ⟨hW, hS, hA, hB⟩ := two_boxes w #[a, b, c, d, e] #[.slice none 0 0, .slice none 0 0, .slice none 0 0, .slice none 0 0, .slice none 0 0] 29 29
  generalize (w.alloc (.cells #[a, b, c, d, e] 29)).alloc (.cells #[.slice none 0 0, .slice none 0 0, .slice none 0 0, .slice none 0 0, .slice none 0 0] 29) = W1 at *
  have HA := Lib.hid hA; clear hA
  have HB := Lib.hid hB; clear hB
  have hS1 : w.heap.size + 2 ≤ W1.heap.size := by omega
  clear hS
  (with_reducible refine (C1.out _ hW).mono ?_)
  rintro r w1 ⟨rfl, hb1⟩
  have hb : Below (w.heap.size + 2) W1 w1 := hb1.mono hS1
  clear hb1
  have hbw : Below w.heap.size w w1 := hW.trans (hb.mono (by omega))
  have hs1 := hb.size
  obtain ⟨⟨x0, x1, x2, x3, x4⟩, _⟩ := blk5 (((below_box w1 (.cells #[.slice none 0 0, .slice none 0 0, .slice none 0 0, .slice none 0 0, .slice none 0 0] 29)).block w.heap.size (by omega)).trans ((hb.block w.heap.size (by omega)).trans HA.out))
  go_wp2_with fail
  clear x0 x1 x2 x3 x4
  obtain ⟨hW3, hS3, hC⟩ := one_box w1 #[.slice none 0 0, .slice none 0 0, .slice none 0 0, .slice none 0 0, .slice none 0 0] 29
  generalize w1.alloc (.cells #[.slice none 0 0, .slice none 0 0, .slice none 0 0, .slice none 0 0, .slice none 0 0] 29) = W3 at *
  have HC := Lib.hid hC; clear hC
  have HS3 := Lib.hid hS3; clear hS3
  have hb3 : Below (w.heap.size + 2) W1 W3 := hb.trans (hW3.mono (by omega))
  (with_reducible refine (C2.out _ (hbw.trans (hW3.mono hbw.size))).mono ?_)
  rintro r w4 ⟨v', rfl, hc, hb4⟩
  obtain ⟨a', b', c', d', e', rfl, g1, g2, g3, g4, g5⟩ := hc
  obtain ⟨ba, cp, rfl⟩ := g1.form
  have HC' := Lib.hid g1; clear g1 g2 g3 g4 g5
  have hs3 : w1.heap.size < W3.heap.size := by rw [HS3.out]; omega
  have HP : Hid (w4.heap[w1.heap.size]? = some (.cells #[.slice none 0 0, .slice none 0 0, .slice none 0 0, .slice none 0 0, .slice none 0 0] 29)) := (hb4.block _ hs3).trans HC.out
  have hb4' : Below (w.heap.size + 2) W1 w4 := hb3.trans (hb4.mono (by omega))
  have hs4 := hb4.size
  clear hb4 hb3 hb HC
  go_wp2_with fail
  refine (of_any _ _ _ _ _ _ _).mono ?_
  rintro r w5 ⟨rfl, hb5⟩
  have ho : ofV 1 (.slice ba m.cell.length cp) b' c' d' e' = .iface 90 (.slice ba m.cell.length cp) := rfl
  rw [ho]
  clear ho
  have hs5 := hb5.size
  have HP5 : Hid (w5.heap[w1.heap.size]? = some (.cells #[.slice none 0 0, .slice none 0 0, .slice none 0 0, .slice none 0 0, .slice none 0 0] 29)) := (hb5.block _ (by omega)).trans HP.out
  have HD5 := Lib.hid (HC'.out.ext hb5)
  have hb5' : Below (w.heap.size + 2) W1 w5 := hb4'.trans (hb5.mono (by omega))
  clear HP HC' hb4' hb5
  have hme := meth_cell_put ba m.cell.length cp w5
  go_wp2_with fail
  clear hme
  refine (put_cell HP5.out rfl).mono ?_
  rintro r w6 ⟨rfl, hw6⟩
  have G := grownBy_setRow w5 w1.heap.size #[.slice ba m.cell.length cp, .slice none 0 0, .slice none 0 0, .slice none 0 0, .slice none 0 0]
  have HP6 := setRow_heap w5 w1.heap.size _ #[.slice ba m.cell.length cp, .slice none 0 0, .slice none 0 0, .slice none 0 0, .slice none 0 0] 29 (0, 0) HP5.out
  have hb6 : Below (w.heap.size + 2) W1 (w5.setRow w1.heap.size #[.slice ba m.cell.length cp, .slice none 0 0, .slice none 0 0, .slice none 0 0, .slice none 0 0]) := below_setRow' hb5' (by omega) _
  have HO := Lib.hid (HD5.out.keep G hs3)
  rw [hw6] at G HP6 hb6 HO
  have HP6' := Lib.hid HP6
  have hY := (hb6.block (w.heap.size + 1) (by omega)).trans HB.out
  have HY := Lib.hid hY
  have hs6 := hb6.size
  clear hw6 HP5 HD5 hb5' G HP6 hY
  obtain ⟨⟨x0, x1, x2, x3, x4⟩, _⟩ := blk5 HP6'.out
  obtain ⟨⟨y0, y1, y2, y3, y4⟩, ⟨f0, f1, f2, f3, f4⟩⟩ := blk5 HY.out
  have OB : Hid (OwnD (w6.setRow (w.heap.size + 1) #[.slice ba m.cell.length cp, .slice none 0 0, .slice none 0 0, .slice none 0 0, .slice none 0 0]) w.heap.size (.agg #[.slice ba m.cell.length cp, .slice none 0 0, .slice none 0 0, .slice none 0 0, .slice none 0 0]) (partM m 1)) := by
    have G := grownBy_setRow w6 (w.heap.size + 1) #[.slice ba m.cell.length cp, .slice none 0 0, .slice none 0 0, .slice none 0 0, .slice none 0 0]
    have hz : w.heap.size + 1 < W3.heap.size := by omega
    have HO := HO.out.keep G hz
    exact ⟨_, _, _, _, _, rfl, HO.base (by omega), ownE_nil _ _ _ _ _, ownE_nil _ _ _ _ _, ownE_nil _ _ _ _ _, ownE_nil _ _ _ _ _⟩
  have BB : Hid (Below w.heap.size w (w6.setRow (w.heap.size + 1) #[.slice ba m.cell.length cp, .slice none 0 0, .slice none 0 0, .slice none 0 0, .slice none 0 0])) := below_setRow' (hW.trans (hb6.mono (by omega))) (by omega) _
  go_wp2
  rw [set5 HY.out]
  clear x0 x1 x2 x3 x4 y0 y1 y2 y3 y4 f0 f1 f2 f3 f4
  obtain ⟨⟨z0, z1, z2, z3, z4⟩, _⟩ := blk5 (setRow_heap w6 (w.heap.size + 1) _ #[.slice ba m.cell.length cp, .slice none 0 0, .slice none 0 0, .slice none 0 0, .slice none 0 0] 29 (0, 0) HY.out)
  refine bodyPost_ret (v := .tuple #[.agg #[.slice ba m.cell.length cp, .slice none 0 0, .slice none 0 0, .slice none 0 0, .slice none 0 0], .int .i64 0])
    (by simp [results, Try.results23, go_sem, z0, z1, z2, z3, z4]) rfl ⟨_, rfl, OB.out, BB.out⟩

set_option maxRecDepth 100000 in
set_option maxHeartbeats 1000000 in
theorem mPart_stack {v : Value} {m : MC} {w : World} (h : Cont w v m) (hok : m.ok 0) (hm : mayB m = true) :
    Calls Try.prog 23 #[v, .int .i64 2] w (RetDE w (partM m 2) 0) := by
  have h0 := h
  obtain ⟨a, b, c, d, e, rfl, _⟩ := h
  have C1 : Hid (∀ wx, Below w.heap.size w wx → Calls Try.prog 18 #[.agg #[a, b, c, d, e]] wx fun r w' => r = .returned (.bool true) ∧ Below wx.heap.size wx w') := fun wx hb => by rw [← hm]; exact mMay (h0.below hb)
  have C2 : Hid (∀ wx, Below w.heap.size w wx → Calls Try.prog 42 #[.agg #[a, b, c, d, e]] wx (RetD wx m)) := fun wx hb => mCopied (h0.below hb) hok
  clear h0 hok hm
  go_enter Try.func23, Try.ntmps23
  go_wp2_with fail
  obtain ⟨hW, hS, hA, hB⟩ := two_boxes w #[a, b, c, d, e] #[.slice none 0 0, .slice none 0 0, .slice none 0 0, .slice none 0 0, .slice none 0 0] 29 29
  generalize (w.alloc (.cells #[a, b, c, d, e] 29)).alloc (.cells #[.slice none 0 0, .slice none 0 0, .slice none 0 0, .slice none 0 0, .slice none 0 0] 29) = W1 at *
  have HA := Lib.hid hA; clear hA
  have HB := Lib.hid hB; clear hB
  have hS1 : w.heap.size + 2 ≤ W1.heap.size := by omega
  clear hS
  (with_reducible refine (C1.out _ hW).mono ?_)
  rintro r w1 ⟨rfl, hb1⟩
  have hb : Below (w.heap.size + 2) W1 w1 := hb1.mono hS1
  clear hb1
  have hbw : Below w.heap.size w w1 := hW.trans (hb.mono (by omega))
  have hs1 := hb.size
  obtain ⟨⟨x0, x1, x2, x3, x4⟩, _⟩ := blk5 (((below_box w1 (.cells #[.slice none 0 0, .slice none 0 0, .slice none 0 0, .slice none 0 0, .slice none 0 0] 29)).block w.heap.size (by omega)).trans ((hb.block w.heap.size (by omega)).trans HA.out))
  go_wp2_with fail
  clear x0 x1 x2 x3 x4
  obtain ⟨hW3, hS3, hC⟩ := one_box w1 #[.slice none 0 0, .slice none 0 0, .slice none 0 0, .slice none 0 0, .slice none 0 0] 29
  generalize w1.alloc (.cells #[.slice none 0 0, .slice none 0 0, .slice none 0 0, .slice none 0 0, .slice none 0 0] 29) = W3 at *
  have HC := Lib.hid hC; clear hC
  have HS3 := Lib.hid hS3; clear hS3
  have hb3 : Below (w.heap.size + 2) W1 W3 := hb.trans (hW3.mono (by omega))
  (with_reducible refine (C2.out _ (hbw.trans (hW3.mono hbw.size))).mono ?_)
  rintro r w4 ⟨v', rfl, hc, hb4⟩
  obtain ⟨a', b', c', d', e', rfl, g1, g2, g3, g4, g5⟩ := hc
  obtain ⟨ba, cp, rfl⟩ := g2.form
  have HC' := Lib.hid g2; clear g1 g2 g3 g4 g5
  have hs3 : w1.heap.size < W3.heap.size := by rw [HS3.out]; omega
  have HP : Hid (w4.heap[w1.heap.size]? = some (.cells #[.slice none 0 0, .slice none 0 0, .slice none 0 0, .slice none 0 0, .slice none 0 0] 29)) := (hb4.block _ hs3).trans HC.out
  have hb4' : Below (w.heap.size + 2) W1 w4 := hb3.trans (hb4.mono (by omega))
  have hs4 := hb4.size
  clear hb4 hb3 hb HC
  go_wp2_with fail
  refine (of_any _ _ _ _ _ _ _).mono ?_
  rintro r w5 ⟨rfl, hb5⟩
  have ho : ofV 2 a' (.slice ba m.stack.length cp) c' d' e' = .iface 91 (.slice ba m.stack.length cp) := rfl
  rw [ho]
  clear ho
  have hs5 := hb5.size
  have HP5 : Hid (w5.heap[w1.heap.size]? = some (.cells #[.slice none 0 0, .slice none 0 0, .slice none 0 0, .slice none 0 0, .slice none 0 0] 29)) := (hb5.block _ (by omega)).trans HP.out
  have HD5 := Lib.hid (HC'.out.ext hb5)
  have hb5' : Below (w.heap.size + 2) W1 w5 := hb4'.trans (hb5.mono (by omega))
  clear HP HC' hb4' hb5
  have hme := meth_stack_put ba m.stack.length cp w5
  go_wp2_with fail
  clear hme
  refine (put_stack HP5.out rfl).mono ?_
  rintro r w6 ⟨rfl, hw6⟩
  have G := grownBy_setRow w5 w1.heap.size #[.slice none 0 0, .slice ba m.stack.length cp, .slice none 0 0, .slice none 0 0, .slice none 0 0]
  have HP6 := setRow_heap w5 w1.heap.size _ #[.slice none 0 0, .slice ba m.stack.length cp, .slice none 0 0, .slice none 0 0, .slice none 0 0] 29 (0, 0) HP5.out
  have hb6 : Below (w.heap.size + 2) W1 (w5.setRow w1.heap.size #[.slice none 0 0, .slice ba m.stack.length cp, .slice none 0 0, .slice none 0 0, .slice none 0 0]) := below_setRow' hb5' (by omega) _
  have HO := Lib.hid (HD5.out.keep G hs3)
  rw [hw6] at G HP6 hb6 HO
  have HP6' := Lib.hid HP6
  have hY := (hb6.block (w.heap.size + 1) (by omega)).trans HB.out
  have HY := Lib.hid hY
  have hs6 := hb6.size
  clear hw6 HP5 HD5 hb5' G HP6 hY
  obtain ⟨⟨x0, x1, x2, x3, x4⟩, _⟩ := blk5 HP6'.out
  obtain ⟨⟨y0, y1, y2, y3, y4⟩, ⟨f0, f1, f2, f3, f4⟩⟩ := blk5 HY.out
  have OB : Hid (OwnD (w6.setRow (w.heap.size + 1) #[.slice none 0 0, .slice ba m.stack.length cp, .slice none 0 0, .slice none 0 0, .slice none 0 0]) w.heap.size (.agg #[.slice none 0 0, .slice ba m.stack.length cp, .slice none 0 0, .slice none 0 0, .slice none 0 0]) (partM m 2)) := by
    have G := grownBy_setRow w6 (w.heap.size + 1) #[.slice none 0 0, .slice ba m.stack.length cp, .slice none 0 0, .slice none 0 0, .slice none 0 0]
    have hz : w.heap.size + 1 < W3.heap.size := by omega
    have HO := HO.out.keep G hz
    exact ⟨_, _, _, _, _, rfl, ownE_nil _ _ _ _ _, HO.base (by omega), ownE_nil _ _ _ _ _, ownE_nil _ _ _ _ _, ownE_nil _ _ _ _ _⟩
  have BB : Hid (Below w.heap.size w (w6.setRow (w.heap.size + 1) #[.slice none 0 0, .slice ba m.stack.length cp, .slice none 0 0, .slice none 0 0, .slice none 0 0])) := below_setRow' (hW.trans (hb6.mono (by omega))) (by omega) _
  go_wp2
  rw [set5 HY.out]
  clear x0 x1 x2 x3 x4 y0 y1 y2 y3 y4 f0 f1 f2 f3 f4
  obtain ⟨⟨z0, z1, z2, z3, z4⟩, _⟩ := blk5 (setRow_heap w6 (w.heap.size + 1) _ #[.slice none 0 0, .slice ba m.stack.length cp, .slice none 0 0, .slice none 0 0, .slice none 0 0] 29 (0, 0) HY.out)
  refine bodyPost_ret (v := .tuple #[.agg #[.slice none 0 0, .slice ba m.stack.length cp, .slice none 0 0, .slice none 0 0, .slice none 0 0], .int .i64 0])
    (by simp [results, Try.results23, go_sem, z0, z1, z2, z3, z4]) rfl ⟨_, rfl, OB.out, BB.out⟩

set_option maxRecDepth 100000 in
set_option maxHeartbeats 1000000 in
theorem mPart_queue {v : Value} {m : MC} {w : World} (h : Cont w v m) (hok : m.ok 0) (hm : mayB m = true) :
    Calls Try.prog 23 #[v, .int .i64 3] w (RetDE w (partM m 3) 0) := by
  have h0 := h
  obtain ⟨a, b, c, d, e, rfl, _⟩ := h
  have C1 : Hid (∀ wx, Below w.heap.size w wx → Calls Try.prog 18 #[.agg #[a, b, c, d, e]] wx fun r w' => r = .returned (.bool true) ∧ Below wx.heap.size wx w') := fun wx hb => by rw [← hm]; exact mMay (h0.below hb)
  have C2 : Hid (∀ wx, Below w.heap.size w wx → Calls Try.prog 42 #[.agg #[a, b, c, d, e]] wx (RetD wx m)) := fun wx hb => mCopied (h0.below hb) hok
  clear h0 hok hm
  go_enter Try.func23, Try.ntmps23
  go_wp2_with fail
  obtain ⟨hW, hS, hA, hB⟩ := two_boxes w #[a, b, c, d, e] #[.slice none 0 0, .slice none 0 0, .slice none 0 0, .slice none 0 0, .slice none 0 0] 29 29
  generalize (w.alloc (.cells #[a, b, c, d, e] 29)).alloc (.cells #[.slice none 0 0, .slice none 0 0, .slice none 0 0, .slice none 0 0, .slice none 0 0] 29) = W1 at *
  have HA := Lib.hid hA; clear hA
  have HB := Lib.hid hB; clear hB
  have hS1 : w.heap.size + 2 ≤ W1.heap.size := by omega
  clear hS
  (with_reducible refine (C1.out _ hW).mono ?_)
  rintro r w1 ⟨rfl, hb1⟩
  have hb : Below (w.heap.size + 2) W1 w1 := hb1.mono hS1
  clear hb1
  have hbw : Below w.heap.size w w1 := hW.trans (hb.mono (by omega))
  have hs1 := hb.size
  obtain ⟨⟨x0, x1, x2, x3, x4⟩, _⟩ := blk5 (((below_box w1 (.cells #[.slice none 0 0, .slice none 0 0, .slice none 0 0, .slice none 0 0, .slice none 0 0] 29)).block w.heap.size (by omega)).trans ((hb.block w.heap.size (by omega)).trans HA.out))
  go_wp2_with fail
  clear x0 x1 x2 x3 x4
  obtain ⟨hW3, hS3, hC⟩ := one_box w1 #[.slice none 0 0, .slice none 0 0, .slice none 0 0, .slice none 0 0, .slice none 0 0] 29
  generalize w1.alloc (.cells #[.slice none 0 0, .slice none 0 0, .slice none 0 0, .slice none 0 0, .slice none 0 0] 29) = W3 at *
  have HC := Lib.hid hC; clear hC
  have HS3 := Lib.hid hS3; clear hS3
  have hb3 : Below (w.heap.size + 2) W1 W3 := hb.trans (hW3.mono (by omega))
  (with_reducible refine (C2.out _ (hbw.trans (hW3.mono hbw.size))).mono ?_)
  rintro r w4 ⟨v', rfl, hc, hb4⟩
  obtain ⟨a', b', c', d', e', rfl, g1, g2, g3, g4, g5⟩ := hc
  obtain ⟨ba, cp, rfl⟩ := g3.form
  have HC' := Lib.hid g3; clear g1 g2 g3 g4 g5
  have hs3 : w1.heap.size < W3.heap.size := by rw [HS3.out]; omega
  have HP : Hid (w4.heap[w1.heap.size]? = some (.cells #[.slice none 0 0, .slice none 0 0, .slice none 0 0, .slice none 0 0, .slice none 0 0] 29)) := (hb4.block _ hs3).trans HC.out
  have hb4' : Below (w.heap.size + 2) W1 w4 := hb3.trans (hb4.mono (by omega))
  have hs4 := hb4.size
  clear hb4 hb3 hb HC
  go_wp2_with fail
  refine (of_any _ _ _ _ _ _ _).mono ?_
  rintro r w5 ⟨rfl, hb5⟩
  have ho : ofV 3 a' b' (.slice ba m.queue.length cp) d' e' = .iface 92 (.slice ba m.queue.length cp) := rfl
  rw [ho]
  clear ho
  have hs5 := hb5.size
  have HP5 : Hid (w5.heap[w1.heap.size]? = some (.cells #[.slice none 0 0, .slice none 0 0, .slice none 0 0, .slice none 0 0, .slice none 0 0] 29)) := (hb5.block _ (by omega)).trans HP.out
  have HD5 := Lib.hid (HC'.out.ext hb5)
  have hb5' : Below (w.heap.size + 2) W1 w5 := hb4'.trans (hb5.mono (by omega))
  clear HP HC' hb4' hb5
  have hme := meth_queue_put ba m.queue.length cp w5
  go_wp2_with fail
  clear hme
  refine (put_queue HP5.out rfl).mono ?_
  rintro r w6 ⟨rfl, hw6⟩
  have G := grownBy_setRow w5 w1.heap.size #[.slice none 0 0, .slice none 0 0, .slice ba m.queue.length cp, .slice none 0 0, .slice none 0 0]
  have HP6 := setRow_heap w5 w1.heap.size _ #[.slice none 0 0, .slice none 0 0, .slice ba m.queue.length cp, .slice none 0 0, .slice none 0 0] 29 (0, 0) HP5.out
  have hb6 : Below (w.heap.size + 2) W1 (w5.setRow w1.heap.size #[.slice none 0 0, .slice none 0 0, .slice ba m.queue.length cp, .slice none 0 0, .slice none 0 0]) := below_setRow' hb5' (by omega) _
  have HO := Lib.hid (HD5.out.keep G hs3)
  rw [hw6] at G HP6 hb6 HO
  have HP6' := Lib.hid HP6
  have hY := (hb6.block (w.heap.size + 1) (by omega)).trans HB.out
  have HY := Lib.hid hY
  have hs6 := hb6.size
  clear hw6 HP5 HD5 hb5' G HP6 hY
  obtain ⟨⟨x0, x1, x2, x3, x4⟩, _⟩ := blk5 HP6'.out
  obtain ⟨⟨y0, y1, y2, y3, y4⟩, ⟨f0, f1, f2, f3, f4⟩⟩ := blk5 HY.out
  have OB : Hid (OwnD (w6.setRow (w.heap.size + 1) #[.slice none 0 0, .slice none 0 0, .slice ba m.queue.length cp, .slice none 0 0, .slice none 0 0]) w.heap.size (.agg #[.slice none 0 0, .slice none 0 0, .slice ba m.queue.length cp, .slice none 0 0, .slice none 0 0]) (partM m 3)) := by
    have G := grownBy_setRow w6 (w.heap.size + 1) #[.slice none 0 0, .slice none 0 0, .slice ba m.queue.length cp, .slice none 0 0, .slice none 0 0]
    have hz : w.heap.size + 1 < W3.heap.size := by omega
    have HO := HO.out.keep G hz
    exact ⟨_, _, _, _, _, rfl, ownE_nil _ _ _ _ _, ownE_nil _ _ _ _ _, HO.base (by omega), ownE_nil _ _ _ _ _, ownE_nil _ _ _ _ _⟩
  have BB : Hid (Below w.heap.size w (w6.setRow (w.heap.size + 1) #[.slice none 0 0, .slice none 0 0, .slice ba m.queue.length cp, .slice none 0 0, .slice none 0 0])) := below_setRow' (hW.trans (hb6.mono (by omega))) (by omega) _
  go_wp2
  rw [set5 HY.out]
  clear x0 x1 x2 x3 x4 y0 y1 y2 y3 y4 f0 f1 f2 f3 f4
  obtain ⟨⟨z0, z1, z2, z3, z4⟩, _⟩ := blk5 (setRow_heap w6 (w.heap.size + 1) _ #[.slice none 0 0, .slice none 0 0, .slice ba m.queue.length cp, .slice none 0 0, .slice none 0 0] 29 (0, 0) HY.out)
  refine bodyPost_ret (v := .tuple #[.agg #[.slice none 0 0, .slice none 0 0, .slice ba m.queue.length cp, .slice none 0 0, .slice none 0 0], .int .i64 0])
    (by simp [results, Try.results23, go_sem, z0, z1, z2, z3, z4]) rfl ⟨_, rfl, OB.out, BB.out⟩

set_option maxRecDepth 100000 in
set_option maxHeartbeats 1000000 in
theorem mPart_set {v : Value} {m : MC} {w : World} (h : Cont w v m) (hok : m.ok 0) (hm : mayB m = true) :
    Calls Try.prog 23 #[v, .int .i64 4] w (RetDE w (partM m 4) 0) := by
  have h0 := h
  obtain ⟨a, b, c, d, e, rfl, _⟩ := h
  have C1 : Hid (∀ wx, Below w.heap.size w wx → Calls Try.prog 18 #[.agg #[a, b, c, d, e]] wx fun r w' => r = .returned (.bool true) ∧ Below wx.heap.size wx w') := fun wx hb => by rw [← hm]; exact mMay (h0.below hb)
  have C2 : Hid (∀ wx, Below w.heap.size w wx → Calls Try.prog 42 #[.agg #[a, b, c, d, e]] wx (RetD wx m)) := fun wx hb => mCopied (h0.below hb) hok
  clear h0 hok hm
  go_enter Try.func23, Try.ntmps23
  go_wp2_with fail
  obtain ⟨hW, hS, hA, hB⟩ := two_boxes w #[a, b, c, d, e] #[.slice none 0 0, .slice none 0 0, .slice none 0 0, .slice none 0 0, .slice none 0 0] 29 29
  generalize (w.alloc (.cells #[a, b, c, d, e] 29)).alloc (.cells #[.slice none 0 0, .slice none 0 0, .slice none 0 0, .slice none 0 0, .slice none 0 0] 29) = W1 at *
  have HA := Lib.hid hA; clear hA
  have HB := Lib.hid hB; clear hB
  have hS1 : w.heap.size + 2 ≤ W1.heap.size := by omega
  clear hS
  (with_reducible refine (C1.out _ hW).mono ?_)
  rintro r w1 ⟨rfl, hb1⟩
  have hb : Below (w.heap.size + 2) W1 w1 := hb1.mono hS1
  clear hb1
  have hbw : Below w.heap.size w w1 := hW.trans (hb.mono (by omega))
  have hs1 := hb.size
  obtain ⟨⟨x0, x1, x2, x3, x4⟩, _⟩ := blk5 (((below_box w1 (.cells #[.slice none 0 0, .slice none 0 0, .slice none 0 0, .slice none 0 0, .slice none 0 0] 29)).block w.heap.size (by omega)).trans ((hb.block w.heap.size (by omega)).trans HA.out))
  go_wp2_with fail
  clear x0 x1 x2 x3 x4
  obtain ⟨hW3, hS3, hC⟩ := one_box w1 #[.slice none 0 0, .slice none 0 0, .slice none 0 0, .slice none 0 0, .slice none 0 0] 29
  generalize w1.alloc (.cells #[.slice none 0 0, .slice none 0 0, .slice none 0 0, .slice none 0 0, .slice none 0 0] 29) = W3 at *
  have HC := Lib.hid hC; clear hC
  have HS3 := Lib.hid hS3; clear hS3
  have hb3 : Below (w.heap.size + 2) W1 W3 := hb.trans (hW3.mono (by omega))
  (with_reducible refine (C2.out _ (hbw.trans (hW3.mono hbw.size))).mono ?_)
  rintro r w4 ⟨v', rfl, hc, hb4⟩
  obtain ⟨a', b', c', d', e', rfl, g1, g2, g3, g4, g5⟩ := hc
  obtain ⟨ba, cp, rfl⟩ := g4.form
  have HC' := Lib.hid g4; clear g1 g2 g3 g4 g5
  have hs3 : w1.heap.size < W3.heap.size := by rw [HS3.out]; omega
  have HP : Hid (w4.heap[w1.heap.size]? = some (.cells #[.slice none 0 0, .slice none 0 0, .slice none 0 0, .slice none 0 0, .slice none 0 0] 29)) := (hb4.block _ hs3).trans HC.out
  have hb4' : Below (w.heap.size + 2) W1 w4 := hb3.trans (hb4.mono (by omega))
  have hs4 := hb4.size
  clear hb4 hb3 hb HC
  go_wp2_with fail
  refine (of_any _ _ _ _ _ _ _).mono ?_
  rintro r w5 ⟨rfl, hb5⟩
  have ho : ofV 4 a' b' c' (.slice ba m.set.length cp) e' = .iface 93 (.slice ba m.set.length cp) := rfl
  rw [ho]
  clear ho
  have hs5 := hb5.size
  have HP5 : Hid (w5.heap[w1.heap.size]? = some (.cells #[.slice none 0 0, .slice none 0 0, .slice none 0 0, .slice none 0 0, .slice none 0 0] 29)) := (hb5.block _ (by omega)).trans HP.out
  have HD5 := Lib.hid (HC'.out.ext hb5)
  have hb5' : Below (w.heap.size + 2) W1 w5 := hb4'.trans (hb5.mono (by omega))
  clear HP HC' hb4' hb5
  have hme := meth_set_put ba m.set.length cp w5
  go_wp2_with fail
  clear hme
  refine (put_set HP5.out rfl).mono ?_
  rintro r w6 ⟨rfl, hw6⟩
  have G := grownBy_setRow w5 w1.heap.size #[.slice none 0 0, .slice none 0 0, .slice none 0 0, .slice ba m.set.length cp, .slice none 0 0]
  have HP6 := setRow_heap w5 w1.heap.size _ #[.slice none 0 0, .slice none 0 0, .slice none 0 0, .slice ba m.set.length cp, .slice none 0 0] 29 (0, 0) HP5.out
  have hb6 : Below (w.heap.size + 2) W1 (w5.setRow w1.heap.size #[.slice none 0 0, .slice none 0 0, .slice none 0 0, .slice ba m.set.length cp, .slice none 0 0]) := below_setRow' hb5' (by omega) _
  have HO := Lib.hid (HD5.out.keep G hs3)
  rw [hw6] at G HP6 hb6 HO
  have HP6' := Lib.hid HP6
  have hY := (hb6.block (w.heap.size + 1) (by omega)).trans HB.out
  have HY := Lib.hid hY
  have hs6 := hb6.size
  clear hw6 HP5 HD5 hb5' G HP6 hY
  obtain ⟨⟨x0, x1, x2, x3, x4⟩, _⟩ := blk5 HP6'.out
  obtain ⟨⟨y0, y1, y2, y3, y4⟩, ⟨f0, f1, f2, f3, f4⟩⟩ := blk5 HY.out
  have OB : Hid (OwnD (w6.setRow (w.heap.size + 1) #[.slice none 0 0, .slice none 0 0, .slice none 0 0, .slice ba m.set.length cp, .slice none 0 0]) w.heap.size (.agg #[.slice none 0 0, .slice none 0 0, .slice none 0 0, .slice ba m.set.length cp, .slice none 0 0]) (partM m 4)) := by
    have G := grownBy_setRow w6 (w.heap.size + 1) #[.slice none 0 0, .slice none 0 0, .slice none 0 0, .slice ba m.set.length cp, .slice none 0 0]
    have hz : w.heap.size + 1 < W3.heap.size := by omega
    have HO := HO.out.keep G hz
    exact ⟨_, _, _, _, _, rfl, ownE_nil _ _ _ _ _, ownE_nil _ _ _ _ _, ownE_nil _ _ _ _ _, HO.base (by omega), ownE_nil _ _ _ _ _⟩
  have BB : Hid (Below w.heap.size w (w6.setRow (w.heap.size + 1) #[.slice none 0 0, .slice none 0 0, .slice none 0 0, .slice ba m.set.length cp, .slice none 0 0])) := below_setRow' (hW.trans (hb6.mono (by omega))) (by omega) _
  go_wp2
  rw [set5 HY.out]
  clear x0 x1 x2 x3 x4 y0 y1 y2 y3 y4 f0 f1 f2 f3 f4
  obtain ⟨⟨z0, z1, z2, z3, z4⟩, _⟩ := blk5 (setRow_heap w6 (w.heap.size + 1) _ #[.slice none 0 0, .slice none 0 0, .slice none 0 0, .slice ba m.set.length cp, .slice none 0 0] 29 (0, 0) HY.out)
  refine bodyPost_ret (v := .tuple #[.agg #[.slice none 0 0, .slice none 0 0, .slice none 0 0, .slice ba m.set.length cp, .slice none 0 0], .int .i64 0])
    (by simp [results, Try.results23, go_sem, z0, z1, z2, z3, z4]) rfl ⟨_, rfl, OB.out, BB.out⟩

set_option maxRecDepth 100000 in
set_option maxHeartbeats 1000000 in
theorem mPart_table {v : Value} {m : MC} {w : World} (h : Cont w v m) (hok : m.ok 0) (hm : mayB m = true) :
    Calls Try.prog 23 #[v, .int .i64 5] w (RetDE w (partM m 5) 0) := by
  have h0 := h
  obtain ⟨a, b, c, d, e, rfl, _⟩ := h
  have C1 : Hid (∀ wx, Below w.heap.size w wx → Calls Try.prog 18 #[.agg #[a, b, c, d, e]] wx fun r w' => r = .returned (.bool true) ∧ Below wx.heap.size wx w') := fun wx hb => by rw [← hm]; exact mMay (h0.below hb)
  have C2 : Hid (∀ wx, Below w.heap.size w wx → Calls Try.prog 42 #[.agg #[a, b, c, d, e]] wx (RetD wx m)) := fun wx hb => mCopied (h0.below hb) hok
  clear h0 hok hm
  go_enter Try.func23, Try.ntmps23
  go_wp2_with fail
  obtain ⟨hW, hS, hA, hB⟩ := two_boxes w #[a, b, c, d, e] #[.slice none 0 0, .slice none 0 0, .slice none 0 0, .slice none 0 0, .slice none 0 0] 29 29
  generalize (w.alloc (.cells #[a, b, c, d, e] 29)).alloc (.cells #[.slice none 0 0, .slice none 0 0, .slice none 0 0, .slice none 0 0, .slice none 0 0] 29) = W1 at *
  have HA := Lib.hid hA; clear hA
  have HB := Lib.hid hB; clear hB
  have hS1 : w.heap.size + 2 ≤ W1.heap.size := by omega
  clear hS
  (with_reducible refine (C1.out _ hW).mono ?_)
  rintro r w1 ⟨rfl, hb1⟩
  have hb : Below (w.heap.size + 2) W1 w1 := hb1.mono hS1
  clear hb1
  have hbw : Below w.heap.size w w1 := hW.trans (hb.mono (by omega))
  have hs1 := hb.size
  obtain ⟨⟨x0, x1, x2, x3, x4⟩, _⟩ := blk5 (((below_box w1 (.cells #[.slice none 0 0, .slice none 0 0, .slice none 0 0, .slice none 0 0, .slice none 0 0] 29)).block w.heap.size (by omega)).trans ((hb.block w.heap.size (by omega)).trans HA.out))
  go_wp2_with fail
  clear x0 x1 x2 x3 x4
  obtain ⟨hW3, hS3, hC⟩ := one_box w1 #[.slice none 0 0, .slice none 0 0, .slice none 0 0, .slice none 0 0, .slice none 0 0] 29
  generalize w1.alloc (.cells #[.slice none 0 0, .slice none 0 0, .slice none 0 0, .slice none 0 0, .slice none 0 0] 29) = W3 at *
  have HC := Lib.hid hC; clear hC
  have HS3 := Lib.hid hS3; clear hS3
  have hb3 : Below (w.heap.size + 2) W1 W3 := hb.trans (hW3.mono (by omega))
  (with_reducible refine (C2.out _ (hbw.trans (hW3.mono hbw.size))).mono ?_)
  rintro r w4 ⟨v', rfl, hc, hb4⟩
  obtain ⟨a', b', c', d', e', rfl, g1, g2, g3, g4, g5⟩ := hc
  obtain ⟨ba, cp, rfl⟩ := g5.form
  have HC' := Lib.hid g5; clear g1 g2 g3 g4 g5
  have hs3 : w1.heap.size < W3.heap.size := by rw [HS3.out]; omega
  have HP : Hid (w4.heap[w1.heap.size]? = some (.cells #[.slice none 0 0, .slice none 0 0, .slice none 0 0, .slice none 0 0, .slice none 0 0] 29)) := (hb4.block _ hs3).trans HC.out
  have hb4' : Below (w.heap.size + 2) W1 w4 := hb3.trans (hb4.mono (by omega))
  have hs4 := hb4.size
  clear hb4 hb3 hb HC
  go_wp2_with fail
  refine (of_any _ _ _ _ _ _ _).mono ?_
  rintro r w5 ⟨rfl, hb5⟩
  have ho : ofV 5 a' b' c' d' (.slice ba m.table.length cp) = .iface 94 (.slice ba m.table.length cp) := rfl
  rw [ho]
  clear ho
  have hs5 := hb5.size
  have HP5 : Hid (w5.heap[w1.heap.size]? = some (.cells #[.slice none 0 0, .slice none 0 0, .slice none 0 0, .slice none 0 0, .slice none 0 0] 29)) := (hb5.block _ (by omega)).trans HP.out
  have HD5 := Lib.hid (HC'.out.ext hb5)
  have hb5' : Below (w.heap.size + 2) W1 w5 := hb4'.trans (hb5.mono (by omega))
  clear HP HC' hb4' hb5
  have hme := meth_table_put ba m.table.length cp w5
  go_wp2_with fail
  clear hme
  refine (put_table HP5.out rfl).mono ?_
  rintro r w6 ⟨rfl, hw6⟩
  have G := grownBy_setRow w5 w1.heap.size #[.slice none 0 0, .slice none 0 0, .slice none 0 0, .slice none 0 0, .slice ba m.table.length cp]
  have HP6 := setRow_heap w5 w1.heap.size _ #[.slice none 0 0, .slice none 0 0, .slice none 0 0, .slice none 0 0, .slice ba m.table.length cp] 29 (0, 0) HP5.out
  have hb6 : Below (w.heap.size + 2) W1 (w5.setRow w1.heap.size #[.slice none 0 0, .slice none 0 0, .slice none 0 0, .slice none 0 0, .slice ba m.table.length cp]) := below_setRow' hb5' (by omega) _
  have HO := Lib.hid (HD5.out.keep G hs3)
  rw [hw6] at G HP6 hb6 HO
  have HP6' := Lib.hid HP6
  have hY := (hb6.block (w.heap.size + 1) (by omega)).trans HB.out
  have HY := Lib.hid hY
  have hs6 := hb6.size
  clear hw6 HP5 HD5 hb5' G HP6 hY
  obtain ⟨⟨x0, x1, x2, x3, x4⟩, _⟩ := blk5 HP6'.out
  obtain ⟨⟨y0, y1, y2, y3, y4⟩, ⟨f0, f1, f2, f3, f4⟩⟩ := blk5 HY.out
  have OB : Hid (OwnD (w6.setRow (w.heap.size + 1) #[.slice none 0 0, .slice none 0 0, .slice none 0 0, .slice none 0 0, .slice ba m.table.length cp]) w.heap.size (.agg #[.slice none 0 0, .slice none 0 0, .slice none 0 0, .slice none 0 0, .slice ba m.table.length cp]) (partM m 5)) := by
    have G := grownBy_setRow w6 (w.heap.size + 1) #[.slice none 0 0, .slice none 0 0, .slice none 0 0, .slice none 0 0, .slice ba m.table.length cp]
    have hz : w.heap.size + 1 < W3.heap.size := by omega
    have HO := HO.out.keep G hz
    exact ⟨_, _, _, _, _, rfl, ownE_nil _ _ _ _ _, ownE_nil _ _ _ _ _, ownE_nil _ _ _ _ _, ownE_nil _ _ _ _ _, HO.base (by omega)⟩
  have BB : Hid (Below w.heap.size w (w6.setRow (w.heap.size + 1) #[.slice none 0 0, .slice none 0 0, .slice none 0 0, .slice none 0 0, .slice ba m.table.length cp])) := below_setRow' (hW.trans (hb6.mono (by omega))) (by omega) _
  go_wp2
  rw [set5 HY.out]
  clear x0 x1 x2 x3 x4 y0 y1 y2 y3 y4 f0 f1 f2 f3 f4
  obtain ⟨⟨z0, z1, z2, z3, z4⟩, _⟩ := blk5 (setRow_heap w6 (w.heap.size + 1) _ #[.slice none 0 0, .slice none 0 0, .slice none 0 0, .slice none 0 0, .slice ba m.table.length cp] 29 (0, 0) HY.out)
  refine bodyPost_ret (v := .tuple #[.agg #[.slice none 0 0, .slice none 0 0, .slice none 0 0, .slice none 0 0, .slice ba m.table.length cp], .int .i64 0])
    (by simp [results, Try.results23, go_sem, z0, z1, z2, z3, z4]) rfl ⟨_, rfl, OB.out, BB.out⟩

end Go.Proofs.Ytgljbdcamagdbaa
