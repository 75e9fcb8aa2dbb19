/- The statement TsoClassicsSaid. No statement of the program but the row's. -/
import Derived.Test.YtmcpdafmkkjlcaaPkTTsoClassicsAR
import Derived.Test.YtmcpdafmkkjlcaaRows
namespace Go.Proofs.Ytmcpdafmkkjlcaa
open Go Go.RowKit Z
namespace tsoClassics
open Go.ChangeShapes Go.WideShapes Go.ChangeAt
set_option maxRecDepth 100000 in
theorem lifted (os : Os) (started : os.Started) (H : Type) (enc : TypeId × Value → H) :
  ReturnsInHanded {} Try.checked os 8 .any (Rows.tsoClassicsSpec.pre6 enc Try.prog Try.f8 Rows.tsoClassicsRow.domain false) (Rows.tsoClassicsSpec.post enc Try.prog Try.f8 false true false false) := by
 refine returnsInHanded_of_change_sized (C := Try.checked) own started (by kernel_rfl) Try.func8
  (ChangeSpec.witness6 (enc := enc) (C := Try.checked) false ⟨#[], #[.string ⟨#[]⟩], []⟩ 8 (by kernel_rfl) (by kernel_rfl) (by kernel_rfl) (by kernel_rfl)) ?_
 intro W base args ds gs before hval0 hW hcnd hws _
 have hval : ∀ (j : Nat) t v, Try.f8.params[j]? = some t → args[j]? = some v → Value.okWide Try.prog W .any base t v := hval0
 have hW' := hW
 obtain ⟨p, q, hA0, hV, rfl, hfz, hnd⟩ := hW
 have hA : DataW.TrodAll enc Try.prog W 0 (fun _ => true) true Try.f8.params.toList args.toList ds p := hA0
 rw [Try.params8] at hA hval
 obtain ⟨v0, vs0, d0, ds0, p0, q0, hargs, rfl, rfl, h0, r0⟩ := trodAll_cons hA
 obtain ⟨rfl, rfl, rfl⟩ := trodAll_nil r0
 obtain rfl : args = #[v0] := by cases args; simp_all
 obtain ⟨rfl, _⟩ := trodVars_none hV
 obtain ⟨a0, rfl⟩ := okWide_string Try.underlying9 (hval 0 9 v0 rfl rfl)
 have hreach : ∀ (i : Nat) (t : TypeId) (d : DataW H), (Try.f8.params.toList ++ Rows.tsoClassicsSpec.plain.varTypes Try.prog)[i]? = some t → ([d0] ++ ([] : List (DataW H)))[i]? = some d → ∀ k ∈ d.weights Try.prog t, k ≤ reachBytes :=
  fun i t d ht hd k hk => of_decide_eq_true (List.all_eq_true.1 hws k (weightsEach_mem ht hd k hk))
 have walk : Calls Try.prog 8 #[.string a0] W (fun e W' => e = .returned (.bool true) ∧ Below W.heap.size W W') := classics_walk W a0
 refine walk.mono fun e W' ⟨he, hb⟩ => ?_
 exact ⟨_, he, post_of_below (s := Rows.tsoClassicsSpec) laidOut rfl (by intro t ht; rw [Try.params8] at ht; simp at ht; subst ht; exact ⟨by kernel_rfl, of_decide_eq_true (by kernel_rfl)⟩) rfl Try.underlying4 hW' rfl hb⟩
theorem proved : Rows.TsoClassicsSaid :=
 OpenClaim.holds_of_wide 8 Try.f8 rfl rfl rfl rfl rfl rfl rfl ⟨rfl, rfl, rfl, rfl, rfl⟩ rfl rfl rfl rfl rfl (by kernel_rfl) Try.func8 (by kernel_rfl)
  (of_decide_eq_true (by kernel_rfl)) (by unfold Func.isWrapper; first | (rw [if_pos (by decide +kernel)]; kernel_rfl) | (rw [if_neg (by decide +kernel)]; exact ⟨rfl, rfl⟩))
  (fun os started H enc _ => lifted os started H enc)
end tsoClassics
end Go.Proofs.Ytmcpdafmkkjlcaa
