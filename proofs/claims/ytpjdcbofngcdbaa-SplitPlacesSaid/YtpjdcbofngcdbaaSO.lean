/- The laws' last part: how a split table is opened. No statement of the program. -/
import Derived.Test.YtpjdcbofngcdbaaSE
import Derived.Test.YtpjdcbofngcdbaaOpen
import Derived.Test.YtpjdcbofngcdbaaRows
import Derived.SizedLaws
import Derived.JoinedTies
namespace Go.Proofs.Ytpjdcbofngcdbaa.Z
open Go Go.RowKit Go.ChangeShapes Go.WideShapes Go.ChangeAt
set_option linter.unusedSimpArgs false
set_option linter.unusedVariables false

theorem own : ownKnob Try.prog.godebug = none := by kernel_rfl
theorem laidOut : laidOutB Try.prog = true := by kernel_rfl
theorem leavesSp : leavesIn Try.prog 9 37 = some [3, 3, 3, 3, 3, 3, 3, 3] := by kernel_rfl
theorem cellsSp : Try.prog.cellsOf 37 = 8 := by kernel_rfl
set_option maxRecDepth 100000 in
theorem open_sp {H : Type} {enc : TypeId × Value → H} {w : World} {base : Nat} {v : Value} {d : DataW H} {p : List MemPlace} (hv : Value.okWide Try.prog w .any base 37 v) (h : DataW.Trod enc Try.prog w 0 (fun _ => true) true 37 v d p) :
    ∃ c ld, v = spV c ld := by
  obtain ⟨cs, rfl, hsz⟩ := okWide_struct Try.underlying37 hv
  obtain ⟨l⟩ := cs
  obtain ⟨fuel, hf⟩ := h
  match l, hsz.trans cellsSp with
  | [c0, c1, c2, c3, c4, c5, c6, c7], _ =>
    have L := leaf_of 9 _ _ leavesSp fuel _ _ hf
    obtain ⟨x0, rfl, _⟩ := (L 0 3 c0 rfl rfl).int Try.underlying3
    obtain ⟨x1, rfl, _⟩ := (L 1 3 c1 rfl rfl).int Try.underlying3
    obtain ⟨x2, rfl, _⟩ := (L 2 3 c2 rfl rfl).int Try.underlying3
    obtain ⟨x3, rfl, _⟩ := (L 3 3 c3 rfl rfl).int Try.underlying3
    obtain ⟨x4, rfl, _⟩ := (L 4 3 c4 rfl rfl).int Try.underlying3
    obtain ⟨x5, rfl, _⟩ := (L 5 3 c5 rfl rfl).int Try.underlying3
    obtain ⟨x6, rfl, _⟩ := (L 6 3 c6 rfl rfl).int Try.underlying3
    obtain ⟨x7, rfl, _⟩ := (L 7 3 c7 rfl rfl).int Try.underlying3
    exact ⟨⟨x0, x1, x2, x3, x4, x5, x6⟩, x7, rfl⟩
end Go.Proofs.Ytpjdcbofngcdbaa.Z
