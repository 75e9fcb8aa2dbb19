/- The statement SplitLooksSaid. No statement of the program but the row's. -/
import Derived.Test.YtpjdcbofngcdbaaPkSSplitLooksAR
import Derived.Test.YtpjdcbofngcdbaaRows
namespace Go.Proofs.Ytpjdcbofngcdbaa
open Go Go.RowKit Z
namespace splitLooks
open Go.ChangeShapes Go.WideShapes Go.ChangeAt
set_option maxRecDepth 100000 in
theorem lifted (os : Os) (started : os.Started) (H : Type) (enc : TypeId × Value → H) :
  ReturnsInHanded {} Try.checked os 5 .any (Rows.splitLooksSpec.pre6 enc Try.prog Try.f5 Rows.splitLooksRow.domain false) (Rows.splitLooksSpec.post enc Try.prog Try.f5 false true false false) := by
 refine returnsInHanded_of_change_sized (C := Try.checked) own started (by kernel_rfl) Try.func5
  (ChangeSpec.witness6 (enc := enc) (C := Try.checked) false ⟨#[], #[.agg #[.int .i64 0, .int .i64 0, .int .i64 0, .int .i64 0, .int .i64 0, .int .i64 0, .int .i64 0, .int .i64 0], .slice none 0 0], []⟩ 8 (by kernel_rfl) (by kernel_rfl) (by kernel_rfl) (by kernel_rfl)) ?_
 intro W base args ds gs before hval0 hW hcnd hws _
 have hval : ∀ (j : Nat) t v, Try.f5.params[j]? = some t → args[j]? = some v → Value.okWide Try.prog W .any base t v := hval0
 have hW' := hW
 obtain ⟨p, q, hA0, hV, rfl, hfz, hnd⟩ := hW
 have hA : DataW.TrodAll enc Try.prog W 0 (fun _ => true) true Try.f5.params.toList args.toList ds p := hA0
 rw [Try.params5] at hA hval
 obtain ⟨v0, vs0, d0, ds0, p0, q0, hargs, rfl, rfl, h0, r0⟩ := trodAll_cons hA
 obtain ⟨v1, vs1, d1, ds1, p1, q1, rfl, rfl, rfl, h1, r1⟩ := trodAll_cons r0
 obtain ⟨rfl, rfl, rfl⟩ := trodAll_nil r1
 obtain rfl : args = #[v0, v1] := by cases args; simp_all
 obtain ⟨rfl, _⟩ := trodVars_none hV
 obtain ⟨yc0, yl0, rfl⟩ := open_sp (hval 0 37 v0 rfl rfl) h0
 obtain ⟨xs1, r1a, g1, z1⟩ := open_usW (hval 1 24 v1 rfl rfl) h1
 have hreach : ∀ (i : Nat) (t : TypeId) (d : DataW H), (Try.f5.params.toList ++ Rows.splitLooksSpec.plain.varTypes Try.prog)[i]? = some t → ([d0, d1] ++ ([] : List (DataW H)))[i]? = some d → ∀ k ∈ d.weights Try.prog t, k ≤ reachBytes :=
  fun i t d ht hd k hk => of_decide_eq_true (List.all_eq_true.1 hws k (weightsEach_mem ht hd k hk))
 have k1 := z1 (hreach 1 _ _ rfl rfl)
 have walk : Calls Try.prog 5 #[spV yc0 yl0, v1] W (fun e W' => e = .returned (.bool true) ∧ Below W.heap.size W W') := looks_walk W v1 yc0 yl0 xs1 g1 k1 r1a
 refine walk.mono fun e W' ⟨he, hb⟩ => ?_
 exact ⟨_, he, post_of_below (s := Rows.splitLooksSpec) laidOut rfl (by intro t ht; rw [Try.params5] at ht; simp at ht; rcases ht with rfl | rfl <;> exact ⟨by kernel_rfl, of_decide_eq_true (by kernel_rfl)⟩) rfl Try.underlying4 hW' rfl hb⟩
theorem proved : Rows.SplitLooksSaid :=
 OpenClaim.holds_of_wide 5 Try.f5 rfl rfl rfl rfl rfl rfl rfl ⟨rfl, rfl, rfl, rfl, rfl⟩ rfl rfl rfl rfl rfl (by kernel_rfl) Try.func5 (by kernel_rfl)
  (of_decide_eq_true (by kernel_rfl)) (by unfold Func.isWrapper; first | (rw [if_pos (by decide +kernel)]; kernel_rfl) | (rw [if_neg (by decide +kernel)]; exact ⟨rfl, rfl⟩))
  (fun os started H enc _ => lifted os started H enc)
end splitLooks
end Go.Proofs.Ytpjdcbofngcdbaa
