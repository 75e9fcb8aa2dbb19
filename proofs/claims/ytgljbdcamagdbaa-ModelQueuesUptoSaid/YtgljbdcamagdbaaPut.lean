/- The methods put of the five objects write one field; model.of makes the object of a number. No conditions. -/
import Derived.Test.YtgljbdcamagdbaaOpenC
namespace Go.Proofs.Ytgljbdcamagdbaa
open Go.RowKit

set_option maxHeartbeats 400000 in
theorem put_cell {w : World} {g : Nat} {a b c d e v : Value} {ba : Option Addr} {n cp : Nat} (h : w.heap[g]? = some (.cells #[a, b, c, d, e] 29)) (hv : v = .slice ba n cp) :
    Calls Try.prog 73 #[v, .pointer (some ⟨g, 0, none⟩)] w fun r w' => r = .returned (.tuple #[]) ∧ w.setRow g #[v, b, c, d, e] = w' := by
  subst hv
  obtain ⟨⟨z0, z1, z2, z3, z4⟩, ⟨f0, f1, f2, f3, f4⟩⟩ := blk5 h
  have hr : w.setCell ⟨g, 0, none⟩ (.slice ba n cp) = w.setRow g #[.slice ba n cp, b, c, d, e] := setCell_eq_setRow w g 0 _ _ (0, 0) _ h
  have HR := Lib.hid hr; clear hr h
  go_enter Try.func73, Try.ntmps73
  go_wp2
  go_end0
  exact ⟨rfl, HR.out.symm⟩

set_option maxHeartbeats 400000 in
theorem put_stack {w : World} {g : Nat} {a b c d e v : Value} {ba : Option Addr} {n cp : Nat} (h : w.heap[g]? = some (.cells #[a, b, c, d, e] 29)) (hv : v = .slice ba n cp) :
    Calls Try.prog 77 #[v, .pointer (some ⟨g, 0, none⟩)] w fun r w' => r = .returned (.tuple #[]) ∧ w.setRow g #[a, v, c, d, e] = w' := by
  subst hv
  obtain ⟨⟨z0, z1, z2, z3, z4⟩, ⟨f0, f1, f2, f3, f4⟩⟩ := blk5 h
  have hr : w.setCell ⟨g, 1, none⟩ (.slice ba n cp) = w.setRow g #[a, .slice ba n cp, c, d, e] := setCell_eq_setRow w g 1 _ _ (0, 0) _ h
  have HR := Lib.hid hr; clear hr h
  go_enter Try.func77, Try.ntmps77
  go_wp2
  go_end0
  exact ⟨rfl, HR.out.symm⟩

set_option maxHeartbeats 400000 in
theorem put_queue {w : World} {g : Nat} {a b c d e v : Value} {ba : Option Addr} {n cp : Nat} (h : w.heap[g]? = some (.cells #[a, b, c, d, e] 29)) (hv : v = .slice ba n cp) :
    Calls Try.prog 80 #[v, .pointer (some ⟨g, 0, none⟩)] w fun r w' => r = .returned (.tuple #[]) ∧ w.setRow g #[a, b, v, d, e] = w' := by
  subst hv
  obtain ⟨⟨z0, z1, z2, z3, z4⟩, ⟨f0, f1, f2, f3, f4⟩⟩ := blk5 h
  have hr : w.setCell ⟨g, 2, none⟩ (.slice ba n cp) = w.setRow g #[a, b, .slice ba n cp, d, e] := setCell_eq_setRow w g 2 _ _ (0, 0) _ h
  have HR := Lib.hid hr; clear hr h
  go_enter Try.func80, Try.ntmps80
  go_wp2
  go_end0
  exact ⟨rfl, HR.out.symm⟩

set_option maxHeartbeats 400000 in
theorem put_set {w : World} {g : Nat} {a b c d e v : Value} {ba : Option Addr} {n cp : Nat} (h : w.heap[g]? = some (.cells #[a, b, c, d, e] 29)) (hv : v = .slice ba n cp) :
    Calls Try.prog 84 #[v, .pointer (some ⟨g, 0, none⟩)] w fun r w' => r = .returned (.tuple #[]) ∧ w.setRow g #[a, b, c, v, e] = w' := by
  subst hv
  obtain ⟨⟨z0, z1, z2, z3, z4⟩, ⟨f0, f1, f2, f3, f4⟩⟩ := blk5 h
  have hr : w.setCell ⟨g, 3, none⟩ (.slice ba n cp) = w.setRow g #[a, b, c, .slice ba n cp, e] := setCell_eq_setRow w g 3 _ _ (0, 0) _ h
  have HR := Lib.hid hr; clear hr h
  go_enter Try.func84, Try.ntmps84
  go_wp2
  go_end0
  exact ⟨rfl, HR.out.symm⟩

set_option maxHeartbeats 400000 in
theorem put_table {w : World} {g : Nat} {a b c d e v : Value} {ba : Option Addr} {n cp : Nat} (h : w.heap[g]? = some (.cells #[a, b, c, d, e] 29)) (hv : v = .slice ba n cp) :
    Calls Try.prog 99 #[v, .pointer (some ⟨g, 0, none⟩)] w fun r w' => r = .returned (.tuple #[]) ∧ w.setRow g #[a, b, c, d, v] = w' := by
  subst hv
  obtain ⟨⟨z0, z1, z2, z3, z4⟩, ⟨f0, f1, f2, f3, f4⟩⟩ := blk5 h
  have hr : w.setCell ⟨g, 4, none⟩ (.slice ba n cp) = w.setRow g #[a, b, c, d, .slice ba n cp] := setCell_eq_setRow w g 4 _ _ (0, 0) _ h
  have HR := Lib.hid hr; clear hr h
  go_enter Try.func99, Try.ntmps99
  go_wp2
  go_end0
  exact ⟨rfl, HR.out.symm⟩

theorem meth_cell_put (ba : Option Addr) (n cp : Nat) (w : World) : (method 238 90 (.slice ba n cp) "reclaim/model.put").run Try.prog w = .ok (73, .slice ba n cp) w := by kernel_rfl
theorem meth_cell_do (ba : Option Addr) (n cp : Nat) (w : World) : (method 238 90 (.slice ba n cp) "reclaim/model.do").run Try.prog w = .ok (72, .slice ba n cp) w := by kernel_rfl
theorem meth_stack_put (ba : Option Addr) (n cp : Nat) (w : World) : (method 238 91 (.slice ba n cp) "reclaim/model.put").run Try.prog w = .ok (77, .slice ba n cp) w := by kernel_rfl
theorem meth_stack_do (ba : Option Addr) (n cp : Nat) (w : World) : (method 238 91 (.slice ba n cp) "reclaim/model.do").run Try.prog w = .ok (76, .slice ba n cp) w := by kernel_rfl
theorem meth_queue_put (ba : Option Addr) (n cp : Nat) (w : World) : (method 238 92 (.slice ba n cp) "reclaim/model.put").run Try.prog w = .ok (80, .slice ba n cp) w := by kernel_rfl
theorem meth_queue_do (ba : Option Addr) (n cp : Nat) (w : World) : (method 238 92 (.slice ba n cp) "reclaim/model.do").run Try.prog w = .ok (79, .slice ba n cp) w := by kernel_rfl
theorem meth_set_put (ba : Option Addr) (n cp : Nat) (w : World) : (method 238 93 (.slice ba n cp) "reclaim/model.put").run Try.prog w = .ok (84, .slice ba n cp) w := by kernel_rfl
theorem meth_set_do (ba : Option Addr) (n cp : Nat) (w : World) : (method 238 93 (.slice ba n cp) "reclaim/model.do").run Try.prog w = .ok (82, .slice ba n cp) w := by kernel_rfl
theorem meth_table_put (ba : Option Addr) (n cp : Nat) (w : World) : (method 238 94 (.slice ba n cp) "reclaim/model.put").run Try.prog w = .ok (99, .slice ba n cp) w := by kernel_rfl
theorem meth_table_do (ba : Option Addr) (n cp : Nat) (w : World) : (method 238 94 (.slice ba n cp) "reclaim/model.do").run Try.prog w = .ok (97, .slice ba n cp) w := by kernel_rfl

/-- the object of a number -/
def ofV (n : Int) (a b c d e : Value) : Value :=
  if n = 1 then .iface 90 a else if n = 2 then .iface 91 b else if n = 3 then .iface 92 c else if n = 4 then .iface 93 d else .iface 94 e

set_option maxHeartbeats 400000 in
theorem of_any (a b c d e : Value) (n : Int) (w : World) :
    Calls Try.prog 41 #[.agg #[a, b, c, d, e], .int .i64 n] w fun r w' => r = .returned (ofV n a b c d e) ∧ Below w.heap.size w w' := by
  have X : Hid (∀ j u, #[a, b, c, d, e][j]? = some u → (w.alloc (.cells #[a, b, c, d, e] 29)).cell? ⟨w.heap.size, j, none⟩ = some u) := fun j u h => box_cell w _ _ j u h
  have hb0 : Below w.heap.size w (w.alloc (.cells #[a, b, c, d, e] 29)) := below_box _ _
  have hl : w.heap.size < (w.alloc (.cells #[a, b, c, d, e] 29)).heap.size := by simp
  go_enter Try.func41, Try.ntmps41
  go_wp2_with fail
  generalize w.alloc (.cells #[a, b, c, d, e] 29) = W1 at *
  obtain ⟨x0, x1, x2, x3, x4⟩ := box5 X.out (Below.refl _ _) hl
  clear X
  go_wp2
  all_goals go_ret
  all_goals refine ⟨?_, hb0⟩
  all_goals simp_all [ofV]

end Go.Proofs.Ytgljbdcamagdbaa
