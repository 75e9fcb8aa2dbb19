/- The statement TsoRunsSaid. No statement of the program but the row's. -/
import Derived.Test.YtmcpdafmkkjlcaaPkTTsoRunsAP
import Derived.Test.YtmcpdafmkkjlcaaRows
namespace Go.Proofs.Ytmcpdafmkkjlcaa
open Go Go.RowKit Z
namespace tsoRuns
open Go.ChangeShapes Go.WideShapes Go.ChangeAt
set_option maxRecDepth 100000 in
theorem lifted (os : Os) (started : os.Started) (H : Type) (enc : TypeId × Value → H) :
  ReturnsInHanded {} Try.checked os 3 .any (Rows.tsoRunsSpec.pre6 enc Try.prog Try.f3 Rows.tsoRunsRow.domain false) (Rows.tsoRunsSpec.post enc Try.prog Try.f3 false true false false) := by
 refine returnsInHanded_of_change_sized (C := Try.checked) own started (by kernel_rfl) Try.func3
  (ChangeSpec.witness6 (enc := enc) (C := Try.checked) false ⟨#[], #[.agg #[.slice none 0 0, .slice none 0 0], .int .i64 0, .slice none 0 0], []⟩ 8 (by kernel_rfl) (by kernel_rfl) (by kernel_rfl) (by kernel_rfl)) ?_
 intro W base args ds gs before hval0 hW hcnd hws _
 have hval : ∀ (j : Nat) t v, Try.f3.params[j]? = some t → args[j]? = some v → Value.okWide Try.prog W .any base t v := hval0
 have hW' := hW
 obtain ⟨p, q, hA0, hV, rfl, hfz, hnd⟩ := hW
 have hA : DataW.TrodAll enc Try.prog W 0 (fun _ => true) true Try.f3.params.toList args.toList ds p := hA0
 rw [Try.params3] at hA hval
 obtain ⟨v0, vs0, d0, ds0, p0, q0, hargs, rfl, rfl, h0, r0⟩ := trodAll_cons hA
 obtain ⟨v1, vs1, d1, ds1, p1, q1, rfl, rfl, rfl, h1, r1⟩ := trodAll_cons r0
 obtain ⟨v2, vs2, d2, ds2, p2, q2, rfl, rfl, rfl, h2, r2⟩ := trodAll_cons r1
 obtain ⟨rfl, rfl, rfl⟩ := trodAll_nil r2
 obtain rfl : args = #[v0, v1, v2] := by cases args; simp_all
 obtain ⟨rfl, _⟩ := trodVars_none hV
 obtain ⟨L0, r0a, g0, z0⟩ := open_litmus (hval 0 25 v0 rfl rfl) h0
 obtain ⟨a1, rfl, hd1, _, wf1⟩ := open_int Try.underlying26 (hval 1 26 v1 rfl rfl) h1
 obtain ⟨xs2, r2a, z2⟩ := open_turns (hval 2 27 v2 rfl rfl) h2
 have hreach : ∀ (i : Nat) (t : TypeId) (d : DataW H), (Try.f3.params.toList ++ Rows.tsoRunsSpec.plain.varTypes Try.prog)[i]? = some t → ([d0, d1, d2] ++ ([] : List (DataW H)))[i]? = some d → ∀ k ∈ d.weights Try.prog t, k ≤ reachBytes :=
  fun i t d ht hd k hk => of_decide_eq_true (List.all_eq_true.1 hws k (weightsEach_mem ht hd k hk))
 have k0 := z0 (hreach 0 _ _ rfl rfl)
 have k2 := z2 (hreach 2 _ _ rfl rfl)
 have walk : Calls Try.prog 3 #[v0, .int .i64 a1, v2] W (fun e W' => e = .returned (.bool true) ∧ Below W.heap.size W W') := runs_walk W v0 v2 L0 a1 xs2 g0 k0 k2 r0a r2a
 refine walk.mono fun e W' ⟨he, hb⟩ => ?_
 exact ⟨_, he, post_of_below (s := Rows.tsoRunsSpec) laidOut rfl (by intro t ht; rw [Try.params3] at ht; simp at ht; rcases ht with rfl | rfl | rfl <;> exact ⟨by kernel_rfl, of_decide_eq_true (by kernel_rfl)⟩) rfl Try.underlying4 hW' rfl hb⟩
theorem proved : Rows.TsoRunsSaid :=
 OpenClaim.holds_of_wide 3 Try.f3 rfl rfl rfl rfl rfl rfl rfl ⟨rfl, rfl, rfl, rfl, rfl⟩ rfl rfl rfl rfl rfl (by kernel_rfl) Try.func3 (by kernel_rfl)
  (of_decide_eq_true (by kernel_rfl)) (by unfold Func.isWrapper; first | (rw [if_pos (by decide +kernel)]; kernel_rfl) | (rw [if_neg (by decide +kernel)]; exact ⟨rfl, rfl⟩))
  (fun os started H enc _ => lifted os started H enc)
end tsoRuns
end Go.Proofs.Ytmcpdafmkkjlcaa
