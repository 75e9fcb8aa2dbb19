/- The statement ModelOwnSaid. No statement of the program but the row's. -/
import Derived.Test.YtgljbdcamagdbaaPkModelOwnAT
import Derived.Test.YtgljbdcamagdbaaRows
namespace Go.Proofs.Ytgljbdcamagdbaa
open Go Go.RowKit Z
open Go.ChangeShapes Go.WideShapes Go.ChangeAt
theorem leavesMo : leavesIn Try.prog 9 62 = some [3, 23, 3, 3] := by kernel_rfl
theorem cellsMo : Try.prog.cellsOf 62 = 4 := by kernel_rfl
set_option maxRecDepth 100000 in
theorem open_mo {H : Type} {enc : TypeId × Value → H} {w : World} {base : Nat} {v : Value} {d : DataW H} {p : List MemPlace} (hv : Value.okWide Try.prog w .any base 62 v) (h : DataW.Trod enc Try.prog w 0 (fun _ => true) true 62 v d p) :
  ∃ a b c e, v = .agg #[.int .i64 a, .int .i64 b, .int .i64 c, .int .i64 e] := by
 obtain ⟨cs, rfl, hsz⟩ := okWide_struct Try.underlying62 hv
 obtain ⟨l⟩ := cs
 obtain ⟨fuel, hf⟩ := h
 match l, hsz.trans cellsMo with
 | [c0, c1, c2, c3], _ =>
  have L := leaf_of 9 _ _ leavesMo fuel _ _ hf
  obtain ⟨x0, rfl, _⟩ := (L 0 _ c0 rfl rfl).int Try.underlying3
  obtain ⟨x1, rfl, _⟩ := (L 1 _ c1 rfl rfl).int Try.underlying23
  obtain ⟨x2, rfl, _⟩ := (L 2 _ c2 rfl rfl).int Try.underlying3
  obtain ⟨x3, rfl, _⟩ := (L 3 _ c3 rfl rfl).int Try.underlying3
  exact ⟨x0, x1, x2, x3, rfl⟩
namespace modelOwn
open Go.ChangeShapes Go.WideShapes Go.ChangeAt
set_option maxRecDepth 100000 in
theorem lifted (os : Os) (started : os.Started) (H : Type) (enc : TypeId × Value → H) :
  ReturnsInHanded {} Try.checked os 14 .any (Rows.modelOwnSpec.pre6 enc Try.prog Try.f14 Rows.modelOwnRow.domain false) (Rows.modelOwnSpec.post enc Try.prog Try.f14 false true false false) := by
 refine returnsInHanded_of_change_sized (C := Try.checked) own started (by kernel_rfl) Try.func14
  (ChangeSpec.witness6 (enc := enc) (C := Try.checked) false ⟨#[], #[.agg #[.slice none 0 0, .slice none 0 0, .slice none 0 0, .slice none 0 0, .slice none 0 0], .agg #[.int .i64 0, .int .i64 0, .int .i64 0, .int .i64 0]], []⟩ 8 (by kernel_rfl) (by kernel_rfl) (by kernel_rfl) (by kernel_rfl)) ?_
 intro W base args ds gs before hval0 hW hcnd hws _
 have hval : ∀ (j : Nat) t v, Try.f14.params[j]? = some t → args[j]? = some v → Value.okWide Try.prog W .any base t v := hval0
 have hW' := hW
 obtain ⟨p, q, hA0, hV, rfl, hfz, hnd⟩ := hW
 have hA : DataW.TrodAll enc Try.prog W 0 (fun _ => true) true Try.f14.params.toList args.toList ds p := hA0
 rw [Try.params14] at hA hval
 obtain ⟨v0, vs0, d0, ds0, p0, q0, hargs, rfl, rfl, h0, r0⟩ := trodAll_cons hA
 obtain ⟨v1, vs1, d1, ds1, p1, q1, rfl, rfl, rfl, h1, r1⟩ := trodAll_cons r0
 obtain ⟨rfl, rfl, rfl⟩ := trodAll_nil r1
 obtain rfl : args = #[v0, v1] := by cases args; simp_all
 obtain ⟨rfl, _⟩ := trodVars_none hV
 obtain ⟨m0, c0, u0, s0⟩ := open_contZ (hval 0 29 v0 rfl rfl) h0
 obtain ⟨ya1, yb1, yc1, yd1, rfl⟩ := open_mo (hval 1 62 v1 rfl rfl) h1
 have hreach : ∀ (i : Nat) (t : TypeId) (d : DataW H), (Try.f14.params.toList ++ Rows.modelOwnSpec.plain.varTypes Try.prog)[i]? = some t → ([d0, d1] ++ ([] : List (DataW H)))[i]? = some d → ∀ k ∈ d.weights Try.prog t, k ≤ reachBytes :=
  fun i t d ht hd k hk => of_decide_eq_true (List.all_eq_true.1 hws k (weightsEach_mem ht hd k hk))
 have walk : Calls Try.prog 14 #[v0, .agg #[.int .i64 ya1, .int .i64 yb1, .int .i64 yc1, .int .i64 yd1]] W (fun e W' => e = .returned (.bool true) ∧ Below W.heap.size W W') := own_walk W v0 m0 ya1 yb1 yc1 yd1 c0 (s0 (hreach 0 _ _ rfl rfl))
 refine walk.mono fun e W' ⟨he, hb⟩ => ?_
 exact ⟨_, he, post_of_below (s := Rows.modelOwnSpec) laidOut rfl (by intro t ht; rw [Try.params14] at ht; simp at ht; rcases ht with rfl | rfl <;> exact ⟨by kernel_rfl, of_decide_eq_true (by kernel_rfl)⟩) rfl Try.underlying4 hW' rfl hb⟩
theorem proved : Rows.ModelOwnSaid :=
 OpenClaim.holds_of_wide 14 Try.f14 rfl rfl rfl rfl rfl rfl rfl ⟨rfl, rfl, rfl, rfl, rfl⟩ rfl rfl rfl rfl rfl (by kernel_rfl) Try.func14 (by kernel_rfl)
  (of_decide_eq_true (by kernel_rfl)) (by unfold Func.isWrapper; first | (rw [if_pos (by decide +kernel)]; kernel_rfl) | (rw [if_neg (by decide +kernel)]; exact ⟨rfl, rfl⟩))
  (fun os started H enc _ => lifted os started H enc)
end modelOwn
end Go.Proofs.Ytgljbdcamagdbaa
