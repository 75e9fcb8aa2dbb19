/- The statement DequeAloneSaid. No statement of the program but the row's. -/
import Derived.Test.YtcloeignccpljaaPkIDequeAloneAR
import Derived.Test.YtcloeignccpljaaRows
namespace Go.Proofs.Ytcloeignccpljaa
open Go Go.RowKit Z
namespace dequeAlone
open Go.ChangeShapes Go.WideShapes Go.ChangeAt
set_option maxRecDepth 100000 in
theorem lifted (os : Os) (started : os.Started) (H : Type) (enc : TypeId × Value → H) :
  ReturnsInHanded {} Try.checked os 6 .any (Rows.dequeAloneSpec.pre6 enc Try.prog Try.f6 Rows.dequeAloneRow.domain false) (Rows.dequeAloneSpec.post enc Try.prog Try.f6 false true false false) := by
 refine returnsInHanded_of_change_sized (C := Try.checked) own started (by kernel_rfl) Try.func6
  (ChangeSpec.witness6 (enc := enc) (C := Try.checked) false ⟨#[], #[.agg #[.int .i64 0, .int .i64 0], .slice none 0 0, .int .i64 0, .agg #[.int .i64 0, .int .i64 0, .int .i64 0, .int .i64 0]], []⟩ 8 (by kernel_rfl) (by kernel_rfl) (by kernel_rfl) (by kernel_rfl)) ?_
 intro W base args ds gs before hval0 hW hcnd hws _
 have hval : ∀ (j : Nat) t v, Try.f6.params[j]? = some t → args[j]? = some v → Value.okWide Try.prog W .any base t v := hval0
 have hW' := hW
 obtain ⟨p, q, hA0, hV, rfl, hfz, hnd⟩ := hW
 have hA : DataW.TrodAll enc Try.prog W 0 (fun _ => true) true Try.f6.params.toList args.toList ds p := hA0
 rw [Try.params6] at hA hval
 obtain ⟨v0, vs0, d0, ds0, p0, q0, hargs, rfl, rfl, h0, r0⟩ := trodAll_cons hA
 obtain ⟨v1, vs1, d1, ds1, p1, q1, rfl, rfl, rfl, h1, r1⟩ := trodAll_cons r0
 obtain ⟨v2, vs2, d2, ds2, p2, q2, rfl, rfl, rfl, h2, r2⟩ := trodAll_cons r1
 obtain ⟨v3, vs3, d3, ds3, p3, q3, rfl, rfl, rfl, h3, r3⟩ := trodAll_cons r2
 obtain ⟨rfl, rfl, rfl⟩ := trodAll_nil r3
 obtain rfl : args = #[v0, v1, v2, v3] := by cases args; simp_all
 obtain ⟨rfl, _⟩ := trodVars_none hV
 obtain ⟨ya0, yb0, rfl⟩ := open_dq (hval 0 23 v0 rfl rfl) h0
 obtain ⟨xs1, r1a, z1⟩ := open_mos (hval 1 34 v1 rfl rfl) h1
 obtain ⟨a2, rfl, hd2, _, wf2⟩ := open_int Try.underlying3 (hval 2 3 v2 rfl rfl) h2
 obtain ⟨c3, rfl, g3⟩ := open_mo (hval 3 51 v3 rfl rfl) h3
 have hreach : ∀ (i : Nat) (t : TypeId) (d : DataW H), (Try.f6.params.toList ++ Rows.dequeAloneSpec.plain.varTypes Try.prog)[i]? = some t → ([d0, d1, d2, d3] ++ ([] : List (DataW H)))[i]? = some d → ∀ k ∈ d.weights Try.prog t, k ≤ reachBytes :=
  fun i t d ht hd k hk => of_decide_eq_true (List.all_eq_true.1 hws k (weightsEach_mem ht hd k hk))
 have walk : Calls Try.prog 6 #[.agg #[.int .i64 ya0, .int .i64 yb0], v1, .int .i64 a2, .agg #[.int .i64 c3.th, .int .i64 c3.op, .int .i64 c3.arg, .int .i64 c3.data]] W (fun e W' => e = .returned (.bool true) ∧ Below W.heap.size W W') := alone_walk W v1 ya0 yb0 a2 xs1 c3 z1 g3 r1a
 refine walk.mono fun e W' ⟨he, hb⟩ => ?_
 exact ⟨_, he, post_of_below (s := Rows.dequeAloneSpec) laidOut rfl (by intro t ht; rw [Try.params6] at ht; simp at ht; rcases ht with rfl | rfl | rfl | rfl <;> exact ⟨by kernel_rfl, of_decide_eq_true (by kernel_rfl)⟩) rfl Try.underlying4 hW' rfl hb⟩
theorem proved : Rows.DequeAloneSaid :=
 OpenClaim.holds_of_wide 6 Try.f6 rfl rfl rfl rfl rfl rfl rfl ⟨rfl, rfl, rfl, rfl, rfl⟩ rfl rfl rfl rfl rfl (by kernel_rfl) Try.func6 (by kernel_rfl)
  (of_decide_eq_true (by kernel_rfl)) (by unfold Func.isWrapper; first | (rw [if_pos (by decide +kernel)]; kernel_rfl) | (rw [if_neg (by decide +kernel)]; exact ⟨rfl, rfl⟩))
  (fun os started H enc _ => lifted os started H enc)
end dequeAlone
end Go.Proofs.Ytcloeignccpljaa
