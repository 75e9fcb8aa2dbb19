/- The statement ModelQueuesUptoSaid. No statement of the program but the row's. -/
import Derived.Test.YtgljbdcamagdbaaZQueues
namespace Go.Proofs.Ytgljbdcamagdbaa
open Go Go.RowKit Z
set_option linter.unusedSimpArgs false
set_option linter.unusedVariables false
theorem upto_mono {m : MC} {a b : Nat} (h : m.upto a) (hab : a ≤ b) : m.upto b := by
  obtain ⟨h0, h1, h2, h3, h4⟩ := h
  exact ⟨by omega, by omega, by omega, by omega, by omega⟩
open Go.ChangeShapes Go.WideShapes Go.ChangeAt
theorem leavesIz : leavesIn Try.prog 9 26 = some [26] := by kernel_rfl
set_option maxRecDepth 100000 in
theorem open_intsZ {H : Type} {enc : TypeId × Value → H} {w : World} {base : Nat} {v : Value} {d : DataW H} {p : List MemPlace} (hv : Value.okWide Try.prog w .any base 26 v) (h : DataW.Trod enc Try.prog w 0 (fun _ => true) true 26 v d p) :
    ∃ xs, Arr w eI 1 v xs ∧ xs.length ≤ Rows.uptoBulk d := by
  obtain ⟨ba, len, cap, rfl⟩ := okWide_slice Try.underlying26 hv
  obtain ⟨fuel, hf⟩ := h
  obtain ⟨xs, h1, h0, _⟩ := leaf_ints (leaf_of 9 _ _ leavesIz fuel _ _ hf 0 26 _ rfl rfl)
  exact ⟨xs, h1, Nat.le_of_succ_le h0⟩

namespace modelQueues
open Go.ChangeShapes Go.WideShapes Go.ChangeAt
set_option maxRecDepth 100000 in
theorem lifted (os : Os) (started : os.Started) (H : Type) (enc : TypeId × Value → H) (F : Stop.Interp) :
    ReturnsInHanded {} Try.checked os 7 .any ((Rows.OpenSpec.upto Rows.modelQueuesSpec).pre6 enc Try.prog Try.f7 Rows.modelQueuesUptoRow.domain false) (((Rows.OpenSpec.upto Rows.modelQueuesSpec).at F).post enc Try.prog Try.f7 false true false false) := by
  refine returnsInHanded_of_cond (C := Try.checked) (s := Rows.OpenSpec.upto Rows.modelQueuesSpec) (k := Rows.uptoSmall) rfl own started (by kernel_rfl) Try.func7
    (OpenSpec.witness (enc := enc) (C := Try.checked) (s := Rows.OpenSpec.upto Rows.modelQueuesSpec) (k := Rows.uptoSmall) rfl false ⟨#[], #[.agg #[.slice none 0 0, .slice none 0 0, .slice none 0 0, .slice none 0 0, .slice none 0 0], .slice none 0 0], []⟩ 8 (by kernel_rfl) (by kernel_rfl) (by kernel_rfl)
      (x := ([.agg [.nil, .nil, .nil, .nil, .nil], .nil], [], [])) (by kernel_rfl) rfl (by kernel_rfl)) ?_
  intro W base args ds gs before hval0 hW _ hk _
  have hval : ∀ (j : Nat) t v, Try.f7.params[j]? = some t → args[j]? = some v → Value.okWide Try.prog W .any base t v := hval0
  have hW' := hW
  obtain ⟨p, q, hA0, hV, rfl, hfz, hnd⟩ := hW
  have hA : DataW.TrodAll enc Try.prog W 0 (fun _ => true) true Try.f7.params.toList args.toList ds p := hA0
  rw [Try.params7] at hA hval
  obtain ⟨v0, vs0, d0, ds0, p0, q0, hargs, rfl, rfl, h0, r0⟩ := trodAll_cons hA
  obtain ⟨v1, vs1, d1, ds1, p1, q1, rfl, rfl, rfl, h1, r1⟩ := trodAll_cons r0
  obtain ⟨rfl, rfl, rfl⟩ := trodAll_nil r1
  obtain rfl : args = #[v0, v1] := by cases args; simp_all
  obtain ⟨rfl, _⟩ := trodVars_none hV
  obtain ⟨m0, c0, u0, s0⟩ := open_contZ (hval 0 29 v0 rfl rfl) h0
  obtain ⟨xs1, a1, u1⟩ := open_intsZ (hval 1 26 v1 rfl rfl) h1
  have hbulk : Rows.uptoBulkAll ([d0, d1] ++ ([] : List (DataW H))) ≤ 1048576 := of_decide_eq_true hk
  simp only [List.append_nil, Rows.uptoBulkAll] at hbulk
  have walk : Calls Try.prog 7 #[v0, v1] W (fun e W' => e = .returned (.bool true) ∧ Below W.heap.size W W') := queues_walk W v0 v1 m0 xs1 1048576 c0 (upto_mono u0 (by omega)) (by omega) a1 (by omega)
  refine walk.mono fun e W' ⟨he, hb⟩ => ?_
  exact ⟨_, he, post_of_below (s := Rows.modelQueuesSpec) laidOut rfl (by intro t ht; rw [Try.params7] at ht; simp at ht; rcases ht with rfl | rfl <;> exact ⟨by kernel_rfl, of_decide_eq_true (by kernel_rfl)⟩) rfl Try.underlying4 hW' rfl hb⟩

theorem proved : Rows.ModelQueuesUptoSaid :=
  OpenClaim.holds_of_cond 7 Try.f7 rfl rfl rfl rfl rfl rfl rfl ⟨rfl, rfl, rfl, rfl, rfl⟩ rfl rfl rfl rfl rfl (by kernel_rfl) Try.func7 (by kernel_rfl)
    (of_decide_eq_true (by kernel_rfl)) (by unfold Func.isWrapper; first | (rw [if_pos (by decide +kernel)]; kernel_rfl) | (rw [if_neg (by decide +kernel)]; exact ⟨rfl, rfl⟩))
    (fun os started H enc _ F => lifted os started H enc F)
end modelQueues
end Go.Proofs.Ytgljbdcamagdbaa
