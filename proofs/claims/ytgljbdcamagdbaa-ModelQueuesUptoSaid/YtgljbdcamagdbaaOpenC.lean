/- How an argument of the type Contents is opened. -/
import Derived.Test.YtgljbdcamagdbaaMays
import Derived.Test.YtgljbdcamagdbaaOpen
import Derived.Test.YtgljbdcamagdbaaObj
import Derived.SizedLaws
namespace Go.Proofs.Ytgljbdcamagdbaa
open Go.RowKit Go.ChangeShapes Go.WideShapes Go.ChangeAt

theorem MC.ok.le {m : MC} {j k : Nat} (h : m.ok k) (hj : j ≤ k) : m.ok j := by simp only [MC.ok] at *; omega

theorem leavesC : leavesIn Try.prog 9 29 = some [26, 26, 26, 26, 27] := by kernel_rfl
theorem leavesP : leavesIn Try.prog 9 76 = some [3, 3] := by kernel_rfl
theorem cellsC : Try.prog.cellsOf 29 = 5 := by kernel_rfl
theorem cellsP : Try.prog.cellsOf 76 = 2 := by kernel_rfl
theorem cellsI : Try.prog.cellsOf 3 = 1 := by kernel_rfl
theorem bytesI : Try.prog.bytesOf 3 = 8 := by kernel_rfl
theorem bytesP : Try.prog.bytesOf 76 = 16 := by kernel_rfl

section
variable {H : Type} {enc : TypeId × Value → H} {w : World}

theorem leaf_ints {b : Nat} {ws : List Nat} {c : Value} (h : LeafAt enc Try.prog w 0 (fun _ => true) true b ws 26 c) :
    ∃ xs : List Int, Arr w eI 1 c xs ∧ xs.length + 1 ≤ b ∧ (xs = [] ∨ ∃ k ∈ ws, xs.length * 8 ≤ k) := by
  obtain ⟨xs, h1, _, h2, h3⟩ := h.slice (α := Int) Try.underlying26 (by decide) cellsI eI (fun _ => True) (fun m cs y hl ht => by
    obtain ⟨n, rfl, _⟩ := DataW.trod_int Try.underlying3 ht
    exact ⟨n, rfl, trivial⟩)
  rw [bytesI] at h3
  exact ⟨xs, h1, h2, h3⟩
theorem leaf_pairs {b : Nat} {ws : List Nat} {c : Value} (h : LeafAt enc Try.prog w 0 (fun _ => true) true b ws 27 c) :
    ∃ xs : List (Int × Int), Arr w eP 2 c xs ∧ xs.length + 1 ≤ b ∧ (xs = [] ∨ ∃ k ∈ ws, xs.length * 16 ≤ k) := by
  obtain ⟨xs, h1, _, h2, h3⟩ := h.slice (α := Int × Int) Try.underlying27 (by decide) cellsP eP (fun _ => True) (fun m cs y hl ht => by
    match cs, hl with
    | [c0, c1], _ =>
      obtain ⟨x, rfl, _⟩ := (leaf_of 9 _ _ leavesP m _ _ ht 0 3 c0 rfl rfl).int Try.underlying3
      obtain ⟨z, rfl, _⟩ := (leaf_of 9 _ _ leavesP m _ _ ht 1 3 c1 rfl rfl).int Try.underlying3
      exact ⟨(x, z), rfl, trivial⟩)
  rw [bytesP] at h3
  exact ⟨xs, h1, h2, h3⟩

/-- the five lists of contents, out of their leaves -/
theorem leaf_cont {b : Nat} {ws : List Nat} {c0 c1 c2 c3 c4 : Value}
    (h0 : LeafAt enc Try.prog w 0 (fun _ => true) true b ws 26 c0) (h1 : LeafAt enc Try.prog w 0 (fun _ => true) true b ws 26 c1)
    (h2 : LeafAt enc Try.prog w 0 (fun _ => true) true b ws 26 c2) (h3 : LeafAt enc Try.prog w 0 (fun _ => true) true b ws 26 c3)
    (h4 : LeafAt enc Try.prog w 0 (fun _ => true) true b ws 27 c4) :
    ∃ m, Cont w (.agg #[c0, c1, c2, c3, c4]) m ∧ (∀ k, b + k ≤ 1000000000000 → m.ok k) ∧ ((∀ k ∈ ws, k ≤ reachBytes) → m.ok 256) := by
  obtain ⟨x0, a0, b0, w0⟩ := leaf_ints h0
  obtain ⟨x1, a1, b1, w1⟩ := leaf_ints h1
  obtain ⟨x2, a2, b2, w2⟩ := leaf_ints h2
  obtain ⟨x3, a3, b3, w3⟩ := leaf_ints h3
  obtain ⟨x4, a4, b4, w4⟩ := leaf_pairs h4
  refine ⟨⟨x0, x1, x2, x3, x4⟩, ⟨_, _, _, _, _, rfl, a0, a1, a2, a3, a4⟩, ?_, ?_⟩
  · intro k hk
    simp only [MC.ok]
    omega
  · intro hr
    have f : ∀ (n s : Nat), (n = 0 ∨ ∃ k ∈ ws, n * s ≤ k) → n * s ≤ 140737488351232 := by
      rintro n s (h | ⟨k, hk, h⟩)
      · subst h; simp
      · have := hr k hk; unfold reachBytes at this; omega
    have g : ∀ (α : Type) (x : List α) (s : Nat), (x = [] ∨ ∃ k ∈ ws, x.length * s ≤ k) → x.length * s ≤ 140737488351232 := by
      intro α x s h
      exact f _ _ (h.imp (fun e => by rw [e]; rfl) id)
    have e0 := g _ _ _ w0
    have e1 := g _ _ _ w1
    have e2 := g _ _ _ w2
    have e3 := g _ _ _ w3
    have e4 := g _ _ _ w4
    simp only [MC.ok]
    omega

set_option maxRecDepth 100000 in
theorem open_cont {base : Nat} {v : Value} {d : DataW H} {p : List MemPlace} (hv : Value.okWide Try.prog w .any base 29 v) (h : DataW.Trod enc Try.prog w 0 (fun _ => true) true 29 v d p) :
    ∃ m, Cont w v m ∧ (∀ k, Rows.uptoBulk d + k ≤ 1000000000000 → m.ok k) ∧ ((∀ k ∈ d.weights Try.prog 29, k ≤ reachBytes) → m.ok 256) := by
  obtain ⟨cs, rfl, hsz⟩ := okWide_struct Try.underlying29 hv
  obtain ⟨l⟩ := cs
  obtain ⟨fuel, hf⟩ := h
  match l, hsz.trans cellsC with
  | [c0, c1, c2, c3, c4], _ =>
    have L := leaf_of 9 _ _ leavesC fuel _ _ hf
    exact leaf_cont (L 0 26 c0 rfl rfl) (L 1 26 c1 rfl rfl) (L 2 26 c2 rfl rfl) (L 3 26 c3 rfl rfl) (L 4 27 c4 rfl rfl)
end
end Go.Proofs.Ytgljbdcamagdbaa
