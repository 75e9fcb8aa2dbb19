
/- Calls as data. No statement of the program. -/
import Derived.Test.YtkjeedlkkpgopaaZN
namespace Go.Proofs.Ytkjeedlkkpgopaa.Z
open Go Go.RowKit
set_option linter.unusedSimpArgs false
set_option linter.unusedVariables false

/-! ### a call -/
structure Cl where
  thread : Int
  op : Int
  arg : Int
  data : Int
  beg : Int
  fin : Int
  point : Int
  kind : Int
  val : Int
  deriving DecidableEq
def iv (n : Int) : Value := .int .i64 n
def Cl.enc (c : Cl) : List Value := [iv c.thread, iv c.op, iv c.arg, iv c.data, iv c.beg, iv c.fin, iv c.point, iv c.kind, iv c.val]
def Cl.sc (c : Cl) : List SC := [.v (iv c.thread), .v (iv c.op), .v (iv c.arg), .v (iv c.data), .v (iv c.beg), .v (iv c.fin), .v (iv c.point), .v (iv c.kind), .v (iv c.val)]
theorem cl_ok : EncT Cl.enc 9 := ⟨fun _ => rfl, fun x u hu => by simp [Cl.enc, iv] at hu; rcases hu with rfl | rfl | rfl | rfl | rfl | rfl | rfl | rfl | rfl <;> rfl⟩
def cl0 : Cl := ⟨0, 0, 0, 0, 0, 0, 0, 0, 0⟩

end Go.Proofs.Ytkjeedlkkpgopaa.Z
