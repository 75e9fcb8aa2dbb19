
/- The order by which points are sorted. No statement of the program. -/
import Derived.Test.YtkjeedlkkpgopaaWPp
import Derived.Test.YtkjeedlkkpgopaaZT
import Derived.Deep.RegionHeld3
import Derived.Ground.SlsfProg
import Derived.Shelf.Lay
namespace Go.Proofs
open Go.Shelf Go.RowKit Go.Lib Go.Sort
shelf_lay_g SlLaysF.n6 Slsf 6 at Try 43 as Ytkjeedlkkpgopaa.sortPts
namespace Ytkjeedlkkpgopaa.Z
open Go Go.RowKit
set_option linter.unusedSimpArgs false
set_option linter.unusedVariables false
set_option maxHeartbeats 400000 in
theorem closure0 (W : World) (b blk off n cap : Nat) (i j : Int) (p q : Int) (h0 : W.cell? ⟨b, 0, none⟩ = some (.slice (some ⟨blk, off, none⟩) n cap)) (hi : 0 ≤ i ∧ i < n) (hj : 0 ≤ j ∧ j < n)
    (h1 : W.cell? ⟨blk, off + i.toNat * 9 + 6, none⟩ = some (.int .i64 p)) (h2 : W.cell? ⟨blk, off + j.toNat * 9 + 6, none⟩ = some (.int .i64 q)) :
    Calls Try.prog 44 #[.int .i64 i, .int .i64 j, .pointer (some ⟨b, 0, none⟩)] W fun e w' => e = .returned (.int .i64 (IntKind.i64.wrap (p - q))) ∧ ∃ q os, w' = Go.Sort.grow (W.drewN q) os := by
  go_enter Try.func44, Try.ntmps44
  go_wp2
  go_region_held3 (fun w' => w'.cell? ⟨b, 0, none⟩ = some (.slice (some ⟨blk, off, none⟩) n cap) ∧ w'.cell? ⟨blk, off + i.toNat * 9 + 6, none⟩ = some (.int .i64 p) ∧ w'.cell? ⟨blk, off + j.toNat * 9 + 6, none⟩ = some (.int .i64 q))
    (first | (exact ⟨h0, h1, h2⟩))
    (fail)
  all_goals go_wp2
  all_goals go_ret
  exact ⟨rfl, 1, #[], (Go.Sort.grow_empty _).symm⟩
end Ytkjeedlkkpgopaa.Z
end Go.Proofs
