/- Whether a call may find no slot. No conditions. -/
import Derived.Test.YtgljbdcamagdbaaPut
namespace Go.Proofs.Ytgljbdcamagdbaa
open Go.RowKit

@[go_sem] theorem as_cell_cell (v : Value) (w : World) : (Instr.typeAssert (.iface 90 v) 79 90 true).run Try.prog w = .ok (.tuple #[v, .bool true]) w := by kernel_rfl
@[go_sem] theorem as_cell_stack (v : Value) (w : World) : (Instr.typeAssert (.iface 90 v) 79 91 true).run Try.prog w = .ok (.tuple #[.slice none 0 0, .bool false]) w := by kernel_rfl
@[go_sem] theorem as_cell_queue (v : Value) (w : World) : (Instr.typeAssert (.iface 90 v) 79 92 true).run Try.prog w = .ok (.tuple #[.slice none 0 0, .bool false]) w := by kernel_rfl
@[go_sem] theorem as_stack_cell (v : Value) (w : World) : (Instr.typeAssert (.iface 91 v) 79 90 true).run Try.prog w = .ok (.tuple #[.slice none 0 0, .bool false]) w := by kernel_rfl
@[go_sem] theorem as_stack_stack (v : Value) (w : World) : (Instr.typeAssert (.iface 91 v) 79 91 true).run Try.prog w = .ok (.tuple #[v, .bool true]) w := by kernel_rfl
@[go_sem] theorem as_stack_queue (v : Value) (w : World) : (Instr.typeAssert (.iface 91 v) 79 92 true).run Try.prog w = .ok (.tuple #[.slice none 0 0, .bool false]) w := by kernel_rfl
@[go_sem] theorem as_queue_cell (v : Value) (w : World) : (Instr.typeAssert (.iface 92 v) 79 90 true).run Try.prog w = .ok (.tuple #[.slice none 0 0, .bool false]) w := by kernel_rfl
@[go_sem] theorem as_queue_stack (v : Value) (w : World) : (Instr.typeAssert (.iface 92 v) 79 91 true).run Try.prog w = .ok (.tuple #[.slice none 0 0, .bool false]) w := by kernel_rfl
@[go_sem] theorem as_queue_queue (v : Value) (w : World) : (Instr.typeAssert (.iface 92 v) 79 92 true).run Try.prog w = .ok (.tuple #[v, .bool true]) w := by kernel_rfl
@[go_sem] theorem as_set_cell (v : Value) (w : World) : (Instr.typeAssert (.iface 93 v) 79 90 true).run Try.prog w = .ok (.tuple #[.slice none 0 0, .bool false]) w := by kernel_rfl
@[go_sem] theorem as_set_stack (v : Value) (w : World) : (Instr.typeAssert (.iface 93 v) 79 91 true).run Try.prog w = .ok (.tuple #[.slice none 0 0, .bool false]) w := by kernel_rfl
@[go_sem] theorem as_set_queue (v : Value) (w : World) : (Instr.typeAssert (.iface 93 v) 79 92 true).run Try.prog w = .ok (.tuple #[.slice none 0 0, .bool false]) w := by kernel_rfl
@[go_sem] theorem as_set_keyed (v : Value) (w : World) : (Instr.typeAssert (.iface 93 v) 79 97 true).run Try.prog w = .ok (.tuple #[.iface 93 v, .bool true]) w := by kernel_rfl
@[go_sem] theorem as_table_cell (v : Value) (w : World) : (Instr.typeAssert (.iface 94 v) 79 90 true).run Try.prog w = .ok (.tuple #[.slice none 0 0, .bool false]) w := by kernel_rfl
@[go_sem] theorem as_table_stack (v : Value) (w : World) : (Instr.typeAssert (.iface 94 v) 79 91 true).run Try.prog w = .ok (.tuple #[.slice none 0 0, .bool false]) w := by kernel_rfl
@[go_sem] theorem as_table_queue (v : Value) (w : World) : (Instr.typeAssert (.iface 94 v) 79 92 true).run Try.prog w = .ok (.tuple #[.slice none 0 0, .bool false]) w := by kernel_rfl
@[go_sem] theorem as_table_keyed (v : Value) (w : World) : (Instr.typeAssert (.iface 94 v) 79 97 true).run Try.prog w = .ok (.tuple #[.iface 94 v, .bool true]) w := by kernel_rfl

set_option maxRecDepth 100000 in
set_option maxHeartbeats 1000000 in
theorem full_cell (ba : Option Addr) (n cp : Nat) (op : Int) (w : World) : Calls Try.prog 46 #[.iface 90 (.slice ba n cp), .int .i64 op] w fun r w' => r = .returned (.bool (op == 22)) ∧ Below w.heap.size w w' := by
  go_enter Try.func46, Try.ntmps46
  go_wp2
  all_goals go_ret
  all_goals refine ⟨?_, Below.refl _ _⟩
  all_goals simp_all

set_option maxRecDepth 100000 in
set_option maxHeartbeats 1000000 in
theorem full_stack (ba : Option Addr) (n cp : Nat) (op : Int) (w : World) : Calls Try.prog 46 #[.iface 91 (.slice ba n cp), .int .i64 op] w fun r w' => r = .returned (.bool (op == 30)) ∧ Below w.heap.size w w' := by
  go_enter Try.func46, Try.ntmps46
  go_wp2
  all_goals go_ret
  all_goals refine ⟨?_, Below.refl _ _⟩
  all_goals simp_all

set_option maxRecDepth 100000 in
set_option maxHeartbeats 1000000 in
theorem full_queue (ba : Option Addr) (n cp : Nat) (op : Int) (w : World) : Calls Try.prog 46 #[.iface 92 (.slice ba n cp), .int .i64 op] w fun r w' => r = .returned (.bool (op == 40)) ∧ Below w.heap.size w w' := by
  go_enter Try.func46, Try.ntmps46
  go_wp2
  all_goals go_ret
  all_goals refine ⟨?_, Below.refl _ _⟩
  all_goals simp_all

set_option maxRecDepth 100000 in
set_option maxHeartbeats 1000000 in
theorem full_set (ba : Option Addr) (n cp : Nat) (op : Int) (w : World) : Calls Try.prog 46 #[.iface 93 (.slice ba n cp), .int .i64 op] w fun r w' => r = .returned (.bool (op == 50 || op == 60)) ∧ Below w.heap.size w w' := by
  go_enter Try.func46, Try.ntmps46
  go_wp2
  all_goals go_ret
  all_goals refine ⟨?_, Below.refl _ _⟩
  all_goals simp_all

set_option maxRecDepth 100000 in
set_option maxHeartbeats 1000000 in
theorem full_table (ba : Option Addr) (n cp : Nat) (op : Int) (w : World) : Calls Try.prog 46 #[.iface 94 (.slice ba n cp), .int .i64 op] w fun r w' => r = .returned (.bool (op == 50 || op == 60)) ∧ Below w.heap.size w w' := by
  go_enter Try.func46, Try.ntmps46
  go_wp2
  all_goals go_ret
  all_goals refine ⟨?_, Below.refl _ _⟩
  all_goals simp_all
end Go.Proofs.Ytgljbdcamagdbaa
