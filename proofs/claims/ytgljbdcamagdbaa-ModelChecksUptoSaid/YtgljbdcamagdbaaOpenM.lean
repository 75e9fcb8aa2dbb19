/- The laws' last part: how lists of moves, moves, answers are opened. No statement of the program. -/
import Derived.Test.YtgljbdcamagdbaaZChecks
namespace Go.Proofs.Ytgljbdcamagdbaa.Z
open Go Go.RowKit Go.ChangeShapes Go.WideShapes Go.ChangeAt
set_option linter.unusedSimpArgs false
set_option linter.unusedVariables false
theorem leavesMv : leavesIn Try.prog 9 62 = some [3, 23, 3, 3] := by kernel_rfl
theorem cellsMv : Try.prog.cellsOf 62 = 4 := by kernel_rfl
theorem leavesMs : leavesIn Try.prog 9 73 = some [73] := by kernel_rfl
theorem leavesAn : leavesIn Try.prog 9 42 = some [40, 3] := by kernel_rfl
theorem cellsAn : Try.prog.cellsOf 42 = 2 := by kernel_rfl
section
variable {H : Type} {enc : TypeId × Value → H} {w : World}
set_option maxRecDepth 100000 in
theorem open_movesZ {base : Nat} {v : Value} {d : DataW H} {p : List MemPlace} (hv : Value.okWide Try.prog w .any base 73 v) (h : DataW.Trod enc Try.prog w 0 (fun _ => true) true 73 v d p) :
    ∃ xs, Arr w Mv.enc 4 v xs ∧ xs.length ≤ Rows.uptoBulk d := by
  obtain ⟨ba, len, cap, rfl⟩ := okWide_slice Try.underlying73 hv
  obtain ⟨fuel, hf⟩ := h
  obtain ⟨xs, h1, _, h0, _⟩ := (leaf_of 9 _ _ leavesMs fuel _ _ hf 0 73 _ rfl rfl).slice (α := Mv) Try.underlying73 (by decide) cellsMv Mv.enc (fun _ => True) (fun m cs y hl ht => by
    match cs, hl with
    | [c0, c1, c2, c3], _ =>
      have L := leaf_of 9 _ _ leavesMv m _ _ ht
      obtain ⟨x0, rfl, _⟩ := (L 0 _ c0 rfl rfl).int Try.underlying3
      obtain ⟨x1, rfl, _⟩ := (L 1 _ c1 rfl rfl).int Try.underlying23
      obtain ⟨x2, rfl, _⟩ := (L 2 _ c2 rfl rfl).int Try.underlying3
      obtain ⟨x3, rfl, _⟩ := (L 3 _ c3 rfl rfl).int Try.underlying3
      exact ⟨⟨x0, x1, x2, x3⟩, rfl, trivial⟩)
  exact ⟨xs, h1, Nat.le_of_succ_le h0⟩
set_option maxRecDepth 100000 in
theorem open_moveZ {base : Nat} {v : Value} {d : DataW H} {p : List MemPlace} (hv : Value.okWide Try.prog w .any base 62 v) (h : DataW.Trod enc Try.prog w 0 (fun _ => true) true 62 v d p) : ∃ c : Mv, v = .agg c.enc.toArray := by
  obtain ⟨cs, rfl, hsz⟩ := okWide_struct Try.underlying62 hv
  obtain ⟨l⟩ := cs
  obtain ⟨fuel, hf⟩ := h
  match l, hsz.trans cellsMv with
  | [c0, c1, c2, c3], _ =>
    have L := leaf_of 9 _ _ leavesMv fuel _ _ hf
    obtain ⟨x0, rfl, _⟩ := (L 0 _ c0 rfl rfl).int Try.underlying3
    obtain ⟨x1, rfl, _⟩ := (L 1 _ c1 rfl rfl).int Try.underlying23
    obtain ⟨x2, rfl, _⟩ := (L 2 _ c2 rfl rfl).int Try.underlying3
    obtain ⟨x3, rfl, _⟩ := (L 3 _ c3 rfl rfl).int Try.underlying3
    exact ⟨⟨x0, x1, x2, x3⟩, rfl⟩
set_option maxRecDepth 100000 in
theorem open_ansZ {base : Nat} {v : Value} {d : DataW H} {p : List MemPlace} (hv : Value.okWide Try.prog w .any base 42 v) (h : DataW.Trod enc Try.prog w 0 (fun _ => true) true 42 v d p) : ∃ k x : Int, v = .agg #[.int .i64 k, .int .i64 x] := by
  obtain ⟨cs, rfl, hsz⟩ := okWide_struct Try.underlying42 hv
  obtain ⟨l⟩ := cs
  obtain ⟨fuel, hf⟩ := h
  match l, hsz.trans cellsAn with
  | [c0, c1], _ =>
    have L := leaf_of 9 _ _ leavesAn fuel _ _ hf
    obtain ⟨x0, rfl, _⟩ := (L 0 _ c0 rfl rfl).int Try.underlying40
    obtain ⟨x1, rfl, _⟩ := (L 1 _ c1 rfl rfl).int Try.underlying3
    exact ⟨x0, x1, rfl⟩
end
end Go.Proofs.Ytgljbdcamagdbaa.Z
