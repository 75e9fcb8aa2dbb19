/- The statement ModelDoesSaid. No statement of the program but the row's. -/
import Derived.Test.YtgljbdcamagdbaaZDoes
namespace Go.Proofs.Ytgljbdcamagdbaa
open Go Go.RowKit Z
set_option linter.unusedSimpArgs false
set_option linter.unusedVariables false

theorem reach_len' {α : Type} {x : List α} {s : Nat} {ws : List Nat} (hr : ∀ k ∈ ws, k ≤ reachBytes) (h : x = [] ∨ ∃ k ∈ ws, x.length * s ≤ k) : x.length * s ≤ 140737488351232 := by
  rcases h with rfl | ⟨k, hk, h⟩
  · simp
  · have := hr k hk
    unfold reachBytes at this
    omega
open Go.ChangeShapes Go.WideShapes Go.ChangeAt
theorem leavesCl : leavesIn Try.prog 9 39 = some [26, 26, 26, 26, 27, 3, 3, 3] := by kernel_rfl
theorem cellsCl : Try.prog.cellsOf 39 = 8 := by kernel_rfl
set_option maxRecDepth 100000 in
theorem open_cl {H : Type} {enc : TypeId × Value → H} {w : World} {base : Nat} {v : Value} {d : DataW H} {p : List MemPlace} (hv : Value.okWide Try.prog w .any base 39 v) (h : DataW.Trod enc Try.prog w 0 (fun _ => true) true 39 v d p) :
    ∃ m a b c e f k x y, v = .agg #[a, b, c, e, f, .int .i64 k, .int .i64 x, .int .i64 y] ∧ Cont w (.agg #[a, b, c, e, f]) m ∧ ((∀ k ∈ d.weights Try.prog 39, k ≤ reachBytes) → MC.okR m) := by
  obtain ⟨cs, rfl, hsz⟩ := okWide_struct Try.underlying39 hv
  obtain ⟨l⟩ := cs
  obtain ⟨fuel, hf⟩ := h
  match l, hsz.trans cellsCl with
  | [c0, c1, c2, c3, c4, c5, c6, c7], _ =>
    have L := leaf_of 9 _ _ leavesCl fuel _ _ hf
    obtain ⟨x0, a0, _, w0⟩ := leaf_ints (L 0 26 c0 rfl rfl)
    obtain ⟨x1, a1, _, w1⟩ := leaf_ints (L 1 26 c1 rfl rfl)
    obtain ⟨x2, a2, _, w2⟩ := leaf_ints (L 2 26 c2 rfl rfl)
    obtain ⟨x3, a3, _, w3⟩ := leaf_ints (L 3 26 c3 rfl rfl)
    obtain ⟨x4, a4, _, w4⟩ := leaf_pairs (L 4 27 c4 rfl rfl)
    obtain ⟨k, rfl, _⟩ := (L 5 3 c5 rfl rfl).int Try.underlying3
    obtain ⟨x, rfl, _⟩ := (L 6 3 c6 rfl rfl).int Try.underlying3
    obtain ⟨y, rfl, _⟩ := (L 7 3 c7 rfl rfl).int Try.underlying3
    refine ⟨⟨x0, x1, x2, x3, x4⟩, _, _, _, _, _, k, x, y, rfl, ⟨_, _, _, _, _, rfl, a0, a1, a2, a3, a4⟩, fun hr => ?_⟩
    have e0 := reach_len' hr w0
    have e1 := reach_len' hr w1
    have e2 := reach_len' hr w2
    have e3 := reach_len' hr w3
    have e4 := reach_len' hr w4
    simp only [MC.okR, MC.ok]
    omega

namespace modelDoes
open Go.ChangeShapes Go.WideShapes Go.ChangeAt
set_option maxRecDepth 100000 in
theorem lifted (os : Os) (started : os.Started) (H : Type) (enc : TypeId × Value → H) :
    ReturnsInHanded {} Try.checked os 6 .any (Rows.modelDoesSpec.pre6 enc Try.prog Try.f6 Rows.modelDoesRow.domain false) (Rows.modelDoesSpec.post enc Try.prog Try.f6 false true false false) := by
  refine returnsInHanded_of_change_sized (C := Try.checked) own started (by kernel_rfl) Try.func6
    (ChangeSpec.witness6 (enc := enc) (C := Try.checked) false ⟨#[], #[.agg #[.slice none 0 0, .slice none 0 0, .slice none 0 0, .slice none 0 0, .slice none 0 0, .int .i64 0, .int .i64 0, .int .i64 0]], []⟩ 8 (by kernel_rfl) (by kernel_rfl) (by kernel_rfl) (by kernel_rfl)) ?_
  intro W base args ds gs before hval0 hW hcnd hws _
  have hval : ∀ (j : Nat) t v, Try.f6.params[j]? = some t → args[j]? = some v → Value.okWide Try.prog W .any base t v := hval0
  have hW' := hW
  obtain ⟨p, q, hA0, hV, rfl, hfz, hnd⟩ := hW
  have hA : DataW.TrodAll enc Try.prog W 0 (fun _ => true) true Try.f6.params.toList args.toList ds p := hA0
  rw [Try.params6] at hA hval
  obtain ⟨v0, vs0, d0, ds0, p0, q0, hargs, rfl, rfl, h0, r0⟩ := trodAll_cons hA
  obtain ⟨rfl, rfl, rfl⟩ := trodAll_nil r0
  obtain rfl : args = #[v0] := by cases args; simp_all
  obtain ⟨rfl, _⟩ := trodVars_none hV
  obtain ⟨m0, ya0, yb0, yc0, yd0, ye0, yk0, yx0, yy0, rfl, c0, s0⟩ := open_cl (hval 0 39 v0 rfl rfl) h0
  have hreach : ∀ (i : Nat) (t : TypeId) (d : DataW H), (Try.f6.params.toList ++ Rows.modelDoesSpec.plain.varTypes Try.prog)[i]? = some t → ([d0] ++ ([] : List (DataW H)))[i]? = some d → ∀ k ∈ d.weights Try.prog t, k ≤ reachBytes :=
    fun i t d ht hd k hk => of_decide_eq_true (List.all_eq_true.1 hws k (weightsEach_mem ht hd k hk))
  have walk : Calls Try.prog 6 #[.agg #[ya0, yb0, yc0, yd0, ye0, .int .i64 yk0, .int .i64 yx0, .int .i64 yy0]] W (fun e W' => e = .returned (.bool true) ∧ Below W.heap.size W W') := does_walk W ya0 yb0 yc0 yd0 ye0 m0 yk0 yx0 yy0 c0 (s0 (hreach 0 _ _ rfl rfl))
  refine walk.mono fun e W' ⟨he, hb⟩ => ?_
  exact ⟨_, he, post_of_below (s := Rows.modelDoesSpec) laidOut rfl (by intro t ht; rw [Try.params6] at ht; simp at ht; subst ht; exact ⟨by kernel_rfl, of_decide_eq_true (by kernel_rfl)⟩) rfl Try.underlying4 hW' rfl hb⟩

theorem proved : Rows.ModelDoesSaid :=
  OpenClaim.holds_of_wide 6 Try.f6 rfl rfl rfl rfl rfl rfl rfl ⟨rfl, rfl, rfl, rfl, rfl⟩ rfl rfl rfl rfl rfl (by kernel_rfl) Try.func6 (by kernel_rfl)
    (of_decide_eq_true (by kernel_rfl)) (by unfold Func.isWrapper; first | (rw [if_pos (by decide +kernel)]; kernel_rfl) | (rw [if_neg (by decide +kernel)]; exact ⟨rfl, rfl⟩))
    (fun os started H enc _ => lifted os started H enc)
end modelDoes
end Go.Proofs.Ytgljbdcamagdbaa
