/- The laws' last part: how contents, calls, lists of calls and of moves are opened. No statement of the program. -/
import Derived.Test.YtgljbdcamagdbaaZAl
import Derived.Test.YtgljbdcamagdbaaOpenC
import Derived.Test.YtgljbdcamagdbaaRows
import Derived.SizedLaws
import Derived.JoinedTies
namespace Go.Proofs.Ytgljbdcamagdbaa.Z
open Go Go.RowKit Go.ChangeShapes Go.WideShapes Go.ChangeAt
set_option linter.unusedSimpArgs false
set_option linter.unusedVariables false

theorem leavesCa : leavesIn Try.prog 9 55 = some [3, 23, 3, 3, 3, 3, 3, 40, 3] := by kernel_rfl
theorem cellsCa : Try.prog.cellsOf 55 = 9 := by kernel_rfl
theorem bytesCa : Try.prog.bytesOf 55 = 72 := by kernel_rfl
theorem reach_lenZ {α : Type} {x : List α} {s : Nat} {ws : List Nat} (hr : ∀ k ∈ ws, k ≤ reachBytes) (h : x = [] ∨ ∃ k ∈ ws, x.length * s ≤ k) : x.length * s ≤ 140737488351232 := by
  rcases h with rfl | ⟨k, hk, h⟩
  · simp
  · have := hr k hk
    unfold reachBytes at this
    omega
/-- all lists are so short -/
def _root_.Go.Proofs.Ytgljbdcamagdbaa.MC.upto (m : MC) (n : Nat) : Prop := m.cell.length ≤ n ∧ m.stack.length ≤ n ∧ m.queue.length ≤ n ∧ m.set.length ≤ n ∧ m.table.length ≤ n
theorem _root_.Go.Proofs.Ytgljbdcamagdbaa.MC.upto.okR {m : MC} {n : Nat} (h : m.upto n) (hn : n ≤ 1000000000) : MC.okR m := by
  obtain ⟨h0, h1, h2, h3, h4⟩ := h
  simp only [MC.okR, MC.ok]
  omega
section
variable {H : Type} {enc : TypeId × Value → H} {w : World}
theorem leavesCz : leavesIn Try.prog 9 64 = some [64] := by kernel_rfl
theorem call_of {m : Nat} {b : Nat} {ws : List Nat} {c0 c1 c2 c3 c4 c5 c6 c7 c8 : Value} (L : ∀ (i : Nat) (u : TypeId) (c : Value), [3, 23, 3, 3, 3, 3, 3, 40, 3][i]? = some u → [c0, c1, c2, c3, c4, c5, c6, c7, c8][i]? = some c → LeafAt enc Try.prog w 0 (fun _ => true) true b ws u c) :
    ∃ c : Cl, [c0, c1, c2, c3, c4, c5, c6, c7, c8] = c.enc := by
  obtain ⟨x0, rfl, _⟩ := (L 0 _ c0 rfl rfl).int Try.underlying3
  obtain ⟨x1, rfl, _⟩ := (L 1 _ c1 rfl rfl).int Try.underlying23
  obtain ⟨x2, rfl, _⟩ := (L 2 _ c2 rfl rfl).int Try.underlying3
  obtain ⟨x3, rfl, _⟩ := (L 3 _ c3 rfl rfl).int Try.underlying3
  obtain ⟨x4, rfl, _⟩ := (L 4 _ c4 rfl rfl).int Try.underlying3
  obtain ⟨x5, rfl, _⟩ := (L 5 _ c5 rfl rfl).int Try.underlying3
  obtain ⟨x6, rfl, _⟩ := (L 6 _ c6 rfl rfl).int Try.underlying3
  obtain ⟨x7, rfl, _⟩ := (L 7 _ c7 rfl rfl).int Try.underlying40
  obtain ⟨x8, rfl, _⟩ := (L 8 _ c8 rfl rfl).int Try.underlying3
  exact ⟨⟨x0, x1, x2, x3, x4, x5, x6, x7, x8⟩, rfl⟩
theorem leaf_callsZ {b : Nat} {ws : List Nat} {c : Value} (h : LeafAt enc Try.prog w 0 (fun _ => true) true b ws 64 c) :
    ∃ xs : List Cl, Arr w Cl.enc 9 c xs ∧ xs.length + 1 ≤ b ∧ (xs = [] ∨ ∃ k ∈ ws, xs.length * 72 ≤ k) := by
  obtain ⟨xs, h1, _, h2, h3⟩ := h.slice (α := Cl) Try.underlying64 (by decide) cellsCa Cl.enc (fun _ => True) (fun m cs y hl ht => by
    match cs, hl with
    | [c0, c1, c2, c3, c4, c5, c6, c7, c8], _ =>
      obtain ⟨c, hc⟩ := call_of (m := m) (leaf_of 9 _ _ leavesCa m _ _ ht)
      exact ⟨c, hc, trivial⟩)
  rw [bytesCa] at h3
  exact ⟨xs, h1, h2, h3⟩
set_option maxRecDepth 100000 in
theorem open_callsZ {base : Nat} {v : Value} {d : DataW H} {p : List MemPlace} (hv : Value.okWide Try.prog w .any base 64 v) (h : DataW.Trod enc Try.prog w 0 (fun _ => true) true 64 v d p) :
    ∃ xs, Arr w Cl.enc 9 v xs ∧ xs.length ≤ Rows.uptoBulk d ∧ ((∀ k ∈ d.weights Try.prog 64, k ≤ reachBytes) → xs.length * 72 ≤ 140737488351232) := by
  obtain ⟨ba, len, cap, rfl⟩ := okWide_slice Try.underlying64 hv
  obtain ⟨fuel, hf⟩ := h
  obtain ⟨xs, h1, h0, h2⟩ := leaf_callsZ (leaf_of 9 _ _ leavesCz fuel _ _ hf 0 64 _ rfl rfl)
  exact ⟨xs, h1, Nat.le_of_succ_le h0, fun hr => reach_lenZ hr h2⟩
set_option maxRecDepth 100000 in
theorem open_callZ {base : Nat} {v : Value} {d : DataW H} {p : List MemPlace} (hv : Value.okWide Try.prog w .any base 55 v) (h : DataW.Trod enc Try.prog w 0 (fun _ => true) true 55 v d p) :
    ∃ c : Cl, v = .agg c.enc.toArray := by
  obtain ⟨cs, rfl, hsz⟩ := okWide_struct Try.underlying55 hv
  obtain ⟨l⟩ := cs
  obtain ⟨fuel, hf⟩ := h
  match l, hsz.trans cellsCa with
  | [c0, c1, c2, c3, c4, c5, c6, c7, c8], _ =>
    obtain ⟨c, hc⟩ := call_of (m := fuel) (leaf_of 9 _ _ leavesCa fuel _ _ hf)
    exact ⟨c, by rw [hc]⟩
set_option maxRecDepth 100000 in
theorem open_contZ {base : Nat} {v : Value} {d : DataW H} {p : List MemPlace} (hv : Value.okWide Try.prog w .any base 29 v) (h : DataW.Trod enc Try.prog w 0 (fun _ => true) true 29 v d p) :
    ∃ m, Cont w v m ∧ m.upto (Rows.uptoBulk d) ∧ ((∀ k ∈ d.weights Try.prog 29, k ≤ reachBytes) → MC.okR m) := by
  obtain ⟨cs, rfl, hsz⟩ := okWide_struct Try.underlying29 hv
  obtain ⟨l⟩ := cs
  obtain ⟨fuel, hf⟩ := h
  match l, hsz.trans cellsC with
  | [c0, c1, c2, c3, c4], _ =>
    have L := leaf_of 9 _ _ leavesC fuel _ _ hf
    obtain ⟨x0, a0, b0, w0⟩ := leaf_ints (L 0 26 c0 rfl rfl)
    obtain ⟨x1, a1, b1, w1⟩ := leaf_ints (L 1 26 c1 rfl rfl)
    obtain ⟨x2, a2, b2, w2⟩ := leaf_ints (L 2 26 c2 rfl rfl)
    obtain ⟨x3, a3, b3, w3⟩ := leaf_ints (L 3 26 c3 rfl rfl)
    obtain ⟨x4, a4, b4, w4⟩ := leaf_pairs (L 4 27 c4 rfl rfl)
    refine ⟨⟨x0, x1, x2, x3, x4⟩, ⟨_, _, _, _, _, rfl, a0, a1, a2, a3, a4⟩, ⟨by have := b0; have := b1; have := b2; have := b3; have := b4; simp only at *; omega, by have := b0; have := b1; have := b2; have := b3; have := b4; simp only at *; omega, by have := b0; have := b1; have := b2; have := b3; have := b4; simp only at *; omega, by have := b0; have := b1; have := b2; have := b3; have := b4; simp only at *; omega, by have := b0; have := b1; have := b2; have := b3; have := b4; simp only at *; omega⟩, fun hr => ?_⟩
    have e0 := reach_lenZ hr w0
    have e1 := reach_lenZ hr w1
    have e2 := reach_lenZ hr w2
    have e3 := reach_lenZ hr w3
    have e4 := reach_lenZ hr w4
    simp only [MC.okR, MC.ok]
    omega
end
end Go.Proofs.Ytgljbdcamagdbaa.Z
