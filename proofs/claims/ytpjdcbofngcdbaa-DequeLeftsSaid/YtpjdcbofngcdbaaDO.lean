/- The laws' last part: how a deque and words are opened. No statement of the program. -/
import Derived.Test.YtpjdcbofngcdbaaDC
import Derived.Test.YtpjdcbofngcdbaaOpen
import Derived.Test.YtpjdcbofngcdbaaRows
import Derived.SizedLaws
import Derived.JoinedTies
namespace Go.Proofs.Ytpjdcbofngcdbaa.Z
open Go Go.RowKit Go.ChangeShapes Go.WideShapes Go.ChangeAt
set_option linter.unusedSimpArgs false
set_option linter.unusedVariables false

theorem own : ownKnob Try.prog.godebug = none := by kernel_rfl
theorem laidOut : laidOutB Try.prog = true := by kernel_rfl
theorem leavesDq : leavesIn Try.prog 9 23 = some [3, 3] := by kernel_rfl
theorem cellsDq : Try.prog.cellsOf 23 = 2 := by kernel_rfl
theorem cellsU : Try.prog.cellsOf 56 = 1 := by kernel_rfl
theorem bytesU : Try.prog.bytesOf 56 = 8 := by kernel_rfl
section
variable {H : Type} {enc : TypeId × Value → H} {w : World}
theorem leavesUs : leavesIn Try.prog 9 24 = some [24] := by kernel_rfl
theorem reach_len {α : Type} {x : List α} {s : Nat} {ws : List Nat} (hr : ∀ k ∈ ws, k ≤ reachBytes) (h : x = [] ∨ ∃ k ∈ ws, x.length * s ≤ k) : x.length * s ≤ 140737488351232 := by
  rcases h with rfl | ⟨k, hk, h⟩
  · simp
  · have := hr k hk
    unfold reachBytes at this
    omega
theorem leaf_us {b : Nat} {ws : List Nat} {c : Value} (h : LeafAt enc Try.prog w 0 (fun _ => true) true b ws 24 c) :
    ∃ xs : List Int, Arr w eU 1 c xs ∧ xs.length + 1 ≤ b ∧ (xs = [] ∨ ∃ k ∈ ws, xs.length * 8 ≤ k) := by
  obtain ⟨xs, h1, _, h2, h3⟩ := h.slice (α := Int) Try.underlying24 (by decide) cellsU eU (fun _ => True) (fun m cs y hl ht => by
    obtain ⟨n, rfl, _⟩ := DataW.trod_int Try.underlying56 ht
    exact ⟨n, rfl, trivial⟩)
  rw [bytesU] at h3
  exact ⟨xs, h1, h2, h3⟩
set_option maxRecDepth 100000 in
theorem open_us {base : Nat} {v : Value} {d : DataW H} {p : List MemPlace} (hv : Value.okWide Try.prog w .any base 24 v) (h : DataW.Trod enc Try.prog w 0 (fun _ => true) true 24 v d p) :
    ∃ xs, Arr w eU 1 v xs ∧ ((∀ k ∈ d.weights Try.prog 24, k ≤ reachBytes) → xs.length * 8 ≤ 140737488351232) := by
  obtain ⟨ba, len, cap, rfl⟩ := okWide_slice Try.underlying24 hv
  obtain ⟨fuel, hf⟩ := h
  obtain ⟨xs, h1, _, h2⟩ := leaf_us (leaf_of 9 _ _ leavesUs fuel _ _ hf 0 24 _ rfl rfl)
  exact ⟨xs, h1, fun hr => reach_len hr h2⟩
set_option maxRecDepth 100000 in
theorem open_dq {base : Nat} {v : Value} {d : DataW H} {p : List MemPlace} (hv : Value.okWide Try.prog w .any base 23 v) (h : DataW.Trod enc Try.prog w 0 (fun _ => true) true 23 v d p) :
    ∃ a b, v = .agg #[.int .i64 a, .int .i64 b] := by
  obtain ⟨cs, rfl, hsz⟩ := okWide_struct Try.underlying23 hv
  obtain ⟨l⟩ := cs
  obtain ⟨fuel, hf⟩ := h
  match l, hsz.trans cellsDq with
  | [c0, c1], _ =>
    have L := leaf_of 9 _ _ leavesDq fuel _ _ hf
    obtain ⟨t, rfl, _⟩ := (L 0 3 c0 rfl rfl).int Try.underlying3
    obtain ⟨o, rfl, _⟩ := (L 1 3 c1 rfl rfl).int Try.underlying3
    exact ⟨t, o, rfl⟩
end
end Go.Proofs.Ytpjdcbofngcdbaa.Z
