
/- What model.Object and the reference's Object answer, and the law ModelObjects. No conditions. -/
import Derived.Test.YtkjeedlkkpgopaaLib
namespace Go.Proofs.Ytkjeedlkkpgopaa
open Go.RowKit

/-- the number of the object of an op -/
def objOf (n : Int) : Int :=
  if n = 22 then 1 else if n = 23 then 1 else if n = 30 then 2 else if n = 31 then 2 else if n = 40 then 3 else if n = 41 then 3 else
  if n = 50 then 4 else if n = 51 then 4 else if n = 52 then 4 else if n = 60 then 5 else if n = 61 then 5 else if n = 62 then 5 else 0

set_option maxHeartbeats 400000 in
theorem mObject (n : Int) (w : World) :
    Calls Try.prog 59 #[.int .i64 n] w fun e w' => e = .returned (.int .i64 (objOf n)) ∧ w = w' := by
  go_enter Try.func59, Try.ntmps59
  go_wp2
  all_goals go_ret
  all_goals simp_all [objOf]

set_option maxHeartbeats 400000 in
theorem rObject0 (n : Int) (w : World) :
    Calls Try.prog 62 #[.int .i64 n] w fun e w' => e = .returned (.int .i64 (objOf n)) ∧ w = w' := by
  go_enter Try.func62, Try.ntmps62
  go_wp2
  all_goals go_ret
  all_goals simp_all [objOf]

theorem own : ownKnob Try.prog.godebug = none := by kernel_rfl
theorem laidOut : laidOutB Try.prog = true := by kernel_rfl

namespace modelObjects
open Go.ChangeShapes Go.WideShapes Go.ChangeAt
end modelObjects
end Go.Proofs.Ytkjeedlkkpgopaa
