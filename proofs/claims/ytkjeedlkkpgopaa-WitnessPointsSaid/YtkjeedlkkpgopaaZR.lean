
/- More tools for walks. No statement of the program. -/
import Derived.Test.YtkjeedlkkpgopaaZQ
namespace Go.Proofs.Ytkjeedlkkpgopaa.Z
open Go Go.RowKit
set_option linter.unusedSimpArgs false
set_option linter.unusedVariables false
theorem ren_ats {α : Type} {σ : Nm → Nm} {enc : α → List Value} {xs : List α} {d : α} {e : Nat} : SC.renL σ (ats enc xs d e) = ats enc xs d e := renL_v _ _
theorem ok_ats {α : Type} {p : Nat → Prop} {enc : α → List Value} {xs : List α} {d : α} {e : Nat} : SC.okL p (ats enc xs d e) := okL_v _ _
end Go.Proofs.Ytkjeedlkkpgopaa.Z
