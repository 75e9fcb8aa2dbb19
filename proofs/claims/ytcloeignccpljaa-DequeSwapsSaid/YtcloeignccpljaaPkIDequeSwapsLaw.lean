/- The statement DequeSwapsSaid. No statement of the program but the row's. -/
import Derived.Test.YtcloeignccpljaaPkIDequeSwapsAS
import Derived.Test.YtcloeignccpljaaRows
namespace Go.Proofs.Ytcloeignccpljaa
open Go Go.RowKit Z
namespace dequeSwaps
open Go.ChangeShapes Go.WideShapes Go.ChangeAt
set_option maxRecDepth 100000 in
theorem lifted (os : Os) (started : os.Started) (H : Type) (enc : TypeId × Value → H) :
  ReturnsInHanded {} Try.checked os 4 .any (Rows.dequeSwapsSpec.pre6 enc Try.prog Try.f4 Rows.dequeSwapsRow.domain false) (Rows.dequeSwapsSpec.post enc Try.prog Try.f4 false true false false) := by
 refine returnsInHanded_of_change_sized (C := Try.checked) own started (by kernel_rfl) Try.func4
  (ChangeSpec.witness6 (enc := enc) (C := Try.checked) false ⟨#[], #[.agg #[.int .i64 0, .int .i64 0], .slice none 0 0], []⟩ 8 (by kernel_rfl) (by kernel_rfl) (by kernel_rfl) (by kernel_rfl)) ?_
 intro W base args ds gs before hval0 hW hcnd hws _
 have hval : ∀ (j : Nat) t v, Try.f4.params[j]? = some t → args[j]? = some v → Value.okWide Try.prog W .any base t v := hval0
 have hW' := hW
 obtain ⟨p, q, hA0, hV, rfl, hfz, hnd⟩ := hW
 have hA : DataW.TrodAll enc Try.prog W 0 (fun _ => true) true Try.f4.params.toList args.toList ds p := hA0
 rw [Try.params4] at hA hval
 obtain ⟨v0, vs0, d0, ds0, p0, q0, hargs, rfl, rfl, h0, r0⟩ := trodAll_cons hA
 obtain ⟨v1, vs1, d1, ds1, p1, q1, rfl, rfl, rfl, h1, r1⟩ := trodAll_cons r0
 obtain ⟨rfl, rfl, rfl⟩ := trodAll_nil r1
 obtain rfl : args = #[v0, v1] := by cases args; simp_all
 obtain ⟨rfl, _⟩ := trodVars_none hV
 obtain ⟨ya0, yb0, rfl⟩ := open_dq (hval 0 23 v0 rfl rfl) h0
 obtain ⟨xs1, r1a, z1⟩ := open_mos (hval 1 34 v1 rfl rfl) h1
 have hreach : ∀ (i : Nat) (t : TypeId) (d : DataW H), (Try.f4.params.toList ++ Rows.dequeSwapsSpec.plain.varTypes Try.prog)[i]? = some t → ([d0, d1] ++ ([] : List (DataW H)))[i]? = some d → ∀ k ∈ d.weights Try.prog t, k ≤ reachBytes :=
  fun i t d ht hd k hk => of_decide_eq_true (List.all_eq_true.1 hws k (weightsEach_mem ht hd k hk))
 have walk : Calls Try.prog 4 #[.agg #[.int .i64 ya0, .int .i64 yb0], v1] W (fun e W' => e = .returned (.bool true) ∧ Below W.heap.size W W') := swaps_walk W v1 ya0 yb0 xs1 z1 r1a
 refine walk.mono fun e W' ⟨he, hb⟩ => ?_
 exact ⟨_, he, post_of_below (s := Rows.dequeSwapsSpec) laidOut rfl (by intro t ht; rw [Try.params4] at ht; simp at ht; rcases ht with rfl | rfl <;> exact ⟨by kernel_rfl, of_decide_eq_true (by kernel_rfl)⟩) rfl Try.underlying4 hW' rfl hb⟩
theorem proved : Rows.DequeSwapsSaid :=
 OpenClaim.holds_of_wide 4 Try.f4 rfl rfl rfl rfl rfl rfl rfl ⟨rfl, rfl, rfl, rfl, rfl⟩ rfl rfl rfl rfl rfl (by kernel_rfl) Try.func4 (by kernel_rfl)
  (of_decide_eq_true (by kernel_rfl)) (by unfold Func.isWrapper; first | (rw [if_pos (by decide +kernel)]; kernel_rfl) | (rw [if_neg (by decide +kernel)]; exact ⟨rfl, rfl⟩))
  (fun os started H enc _ => lifted os started H enc)
end dequeSwaps
end Go.Proofs.Ytcloeignccpljaa
