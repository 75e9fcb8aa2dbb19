/- The statement WitnessFreshSaid. No statement of the program but the row's. -/
import Derived.Test.YtkjeedlkkpgopaaPkWitnessFreshAQ
import Derived.Test.YtkjeedlkkpgopaaRows
namespace Go.Proofs.Ytkjeedlkkpgopaa
open Go Go.RowKit Z
namespace witnessFresh
open Go.ChangeShapes Go.WideShapes Go.ChangeAt
set_option maxRecDepth 100000 in
theorem lifted (os : Os) (started : os.Started) (H : Type) (enc : TypeId × Value → H) :
  ReturnsInHanded {} Try.checked os 13 .any (Rows.witnessFreshSpec.pre6 enc Try.prog Try.f13 Rows.witnessFreshRow.domain false) (Rows.witnessFreshSpec.post enc Try.prog Try.f13 false true false false) := by
 refine returnsInHanded_of_change_sized (C := Try.checked) own started (by kernel_rfl) Try.func13
  (ChangeSpec.witness6 (enc := enc) (C := Try.checked) false ⟨#[], #[.slice none 0 0, .slice none 0 0], []⟩ 8 (by kernel_rfl) (by kernel_rfl) (by kernel_rfl) (by kernel_rfl)) ?_
 intro W base args ds gs before hval0 hW hcnd hws _
 have hval : ∀ (j : Nat) t v, Try.f13.params[j]? = some t → args[j]? = some v → Value.okWide Try.prog W .any base t v := hval0
 have hW' := hW
 obtain ⟨p, q, hA0, hV, rfl, hfz, hnd⟩ := hW
 have hA : DataW.TrodAll enc Try.prog W 0 (fun _ => true) true Try.f13.params.toList args.toList ds p := hA0
 rw [Try.params13] at hA hval
 obtain ⟨v0, vs0, d0, ds0, p0, q0, hargs, rfl, rfl, h0, r0⟩ := trodAll_cons hA
 obtain ⟨v1, vs1, d1, ds1, p1, q1, rfl, rfl, rfl, h1, r1⟩ := trodAll_cons r0
 obtain ⟨rfl, rfl, rfl⟩ := trodAll_nil r1
 obtain rfl : args = #[v0, v1] := by cases args; simp_all
 obtain ⟨rfl, _⟩ := trodVars_none hV
 obtain ⟨xs0, r0a, g0, z0⟩ := open_callsR (hval 0 22 v0 rfl rfl) h0
 obtain ⟨xs1, r1a, g1, z1⟩ := open_callsR (hval 1 22 v1 rfl rfl) h1
 have hreach : ∀ (i : Nat) (t : TypeId) (d : DataW H), (Try.f13.params.toList ++ Rows.witnessFreshSpec.plain.varTypes Try.prog)[i]? = some t → ([d0, d1] ++ ([] : List (DataW H)))[i]? = some d → ∀ k ∈ d.weights Try.prog t, k ≤ reachBytes :=
  fun i t d ht hd k hk => of_decide_eq_true (List.all_eq_true.1 hws k (weightsEach_mem ht hd k hk))
 have k0 := z0 (hreach 0 _ _ rfl rfl)
 have walk : Calls Try.prog 13 #[v0, v1] W (fun e W' => e = .returned (.bool true) ∧ Below W.heap.size W W') := freshW_walk W v0 v1 xs0 xs1 (by omega) (fun c hc => (g0 c hc).2.2) r0a r1a
 refine walk.mono fun e W' ⟨he, hb⟩ => ?_
 exact ⟨_, he, post_of_below (s := Rows.witnessFreshSpec) laidOut rfl (by intro t ht; rw [Try.params13] at ht; simp at ht; subst ht; exact ⟨by kernel_rfl, of_decide_eq_true (by kernel_rfl)⟩) rfl Try.underlying4 hW' rfl hb⟩
theorem proved : Rows.WitnessFreshSaid :=
 OpenClaim.holds_of_wide 13 Try.f13 rfl rfl rfl rfl rfl rfl rfl ⟨rfl, rfl, rfl, rfl, rfl⟩ rfl rfl rfl rfl rfl (by kernel_rfl) Try.func13 (by kernel_rfl)
  (of_decide_eq_true (by kernel_rfl)) (by unfold Func.isWrapper; first | (rw [if_pos (by decide +kernel)]; kernel_rfl) | (rw [if_neg (by decide +kernel)]; exact ⟨rfl, rfl⟩))
  (fun os started H enc _ => lifted os started H enc)
end witnessFresh
end Go.Proofs.Ytkjeedlkkpgopaa
