/-
  No cell of these rows narrows 'for every input' (looked for: loops, veiled, ifaces, maps, wideKeys, modest, calm, conditions, laid).
  DERIVED. THE GIVEN ROWS OF THIS SEAT. 11 by the template 'for every input the law returns true; each argument reads behind the call as it read before'; 0 by the template 'total and deterministic' (their statements: YtkjeedlkkpgopaaTotals.lean).
  GIVEN WITH THE SEED: the statements are not yours to turn. If you find one false, say at which input.
  Laid BY PROGRAM, IN A SANDBOX (cutbox-rows.mjs): the forced cells as the released guide's own fill.sh prints them over the translation 74f3bf80b5e0be51… (all of the seat's roots in one cut). By AI agents, Wed Nov 11 2026. No macro, syntax, notation, axiom, sorry.
-/
import Derived.Test.YtkjeedlkkpgopaaChecked
import GoSem.Claim
import GoSem.ClaimJoined
import GoSem.ClaimMapViews
import Derived.JoinedTies
import Derived.KernelRfl
namespace Go.Proofs.Ytkjeedlkkpgopaa
/- THE CELL 'sum', in the pinned program and in every row, IS THE sha256 OF THE DUMP (.gsa) THAT YtkjeedlkkpgopaaProg.lean LOADS. Nothing in Lean hashes anything: it is a label: what it is worth is what the hold of that sum in a sandbox is worth. -/
noncomputable def Try.pinned : Pinned := { name := "ytkjeedlkkpgopaa", sum := "74f3bf80b5e0be51a2807877caaed70977a4d99fc8bdb0480e8b202ebfe57dad", checked := Try.checked }
namespace Rows
def none {H : Type} : Left H := { results := [], args := [] }

/-- 'reclaimlaw12.WitnessMays': WHATEVER THE INPUT: true; the input reads as it did. -/
def witnessMaysSpec : ChangeSpec := { name := "witnessMays", fn := fun _ => fun
  | [d] => { results := [.lit (.bool true)], args := [d] }
  | _ => none }
def witnessMaysRow : OpenClaim := { program := "ytkjeedlkkpgopaa", sum := "74f3bf80b5e0be51a2807877caaed70977a4d99fc8bdb0480e8b202ebfe57dad", func := "reclaim/reclaimlaw12.WitnessMays", spec := "witnessMays", recurses := true, plainKeys := false, apart := false }
def WitnessMaysSaid : Prop := witnessMaysRow.holds Try.pinned (OpenSpec.ofChange witnessMaysSpec)

/-- ITS FALSE NEIGHBOUR: 'it returns false'. Refute it at one input. -/
def witnessMaysWrong : ChangeSpec := { name := "witnessMays", fn := fun _ => fun
  | [d] => { results := [.lit (.bool false)], args := [d] }
  | _ => none }
def WitnessMaysWrongFalsely : Prop := witnessMaysRow.holds Try.pinned (OpenSpec.ofChange witnessMaysWrong)

/-- 'reclaimlaw12.WitnessTimes': WHATEVER THE INPUT: true; the input reads as it did. -/
def witnessTimesSpec : ChangeSpec := { name := "witnessTimes", fn := fun _ => fun
  | [d1, d2, d3] => { results := [.lit (.bool true)], args := [d1, d2, d3] }
  | _ => none }
def witnessTimesRow : OpenClaim := { program := "ytkjeedlkkpgopaa", sum := "74f3bf80b5e0be51a2807877caaed70977a4d99fc8bdb0480e8b202ebfe57dad", func := "reclaim/reclaimlaw12.WitnessTimes", spec := "witnessTimes", recurses := true, plainKeys := false, apart := false }
def WitnessTimesSaid : Prop := witnessTimesRow.holds Try.pinned (OpenSpec.ofChange witnessTimesSpec)

/-- ITS FALSE NEIGHBOUR: 'it returns false'. Refute it at one input. -/
def witnessTimesWrong : ChangeSpec := { name := "witnessTimes", fn := fun _ => fun
  | [d1, d2, d3] => { results := [.lit (.bool false)], args := [d1, d2, d3] }
  | _ => none }
def WitnessTimesWrongFalsely : Prop := witnessTimesRow.holds Try.pinned (OpenSpec.ofChange witnessTimesWrong)

/-- 'reclaimlaw12.WitnessPoints': WHATEVER THE INPUT: true; the input reads as it did. -/
def witnessPointsSpec : ChangeSpec := { name := "witnessPoints", fn := fun _ => fun
  | [d] => { results := [.lit (.bool true)], args := [d] }
  | _ => none }
def witnessPointsRow : OpenClaim := { program := "ytkjeedlkkpgopaa", sum := "74f3bf80b5e0be51a2807877caaed70977a4d99fc8bdb0480e8b202ebfe57dad", func := "reclaim/reclaimlaw12.WitnessPoints", spec := "witnessPoints", unfollowed := true, recurses := true, plainKeys := false, apart := false }
def WitnessPointsSaid : Prop := witnessPointsRow.holds Try.pinned (OpenSpec.ofChange witnessPointsSpec)

/-- ITS FALSE NEIGHBOUR: 'it returns false'. Refute it at one input. -/
def witnessPointsWrong : ChangeSpec := { name := "witnessPoints", fn := fun _ => fun
  | [d] => { results := [.lit (.bool false)], args := [d] }
  | _ => none }
def WitnessPointsWrongFalsely : Prop := witnessPointsRow.holds Try.pinned (OpenSpec.ofChange witnessPointsWrong)

/-- 'reclaimlaw12.WitnessChecks': WHATEVER THE INPUT: true; the input reads as it did. -/
def witnessChecksSpec : ChangeSpec := { name := "witnessChecks", fn := fun _ => fun
  | [d1, d2] => { results := [.lit (.bool true)], args := [d1, d2] }
  | _ => none }
def witnessChecksRow : OpenClaim := { program := "ytkjeedlkkpgopaa", sum := "74f3bf80b5e0be51a2807877caaed70977a4d99fc8bdb0480e8b202ebfe57dad", func := "reclaim/reclaimlaw12.WitnessChecks", spec := "witnessChecks", unfollowed := true, recurses := true, plainKeys := false, apart := false }
def WitnessChecksSaid : Prop := witnessChecksRow.holds Try.pinned (OpenSpec.ofChange witnessChecksSpec)

/-- ITS FALSE NEIGHBOUR: 'it returns false'. Refute it at one input. -/
def witnessChecksWrong : ChangeSpec := { name := "witnessChecks", fn := fun _ => fun
  | [d1, d2] => { results := [.lit (.bool false)], args := [d1, d2] }
  | _ => none }
def WitnessChecksWrongFalsely : Prop := witnessChecksRow.holds Try.pinned (OpenSpec.ofChange witnessChecksWrong)

/-- 'reclaimlaw12.WitnessFinds': WHATEVER THE INPUT: true; the input reads as it did. -/
def witnessFindsSpec : ChangeSpec := { name := "witnessFinds", fn := fun _ => fun
  | [d] => { results := [.lit (.bool true)], args := [d] }
  | _ => none }
def witnessFindsRow : OpenClaim := { program := "ytkjeedlkkpgopaa", sum := "74f3bf80b5e0be51a2807877caaed70977a4d99fc8bdb0480e8b202ebfe57dad", func := "reclaim/reclaimlaw12.WitnessFinds", spec := "witnessFinds", unfollowed := true, recurses := true, plainKeys := false, apart := false }
def WitnessFindsSaid : Prop := witnessFindsRow.holds Try.pinned (OpenSpec.ofChange witnessFindsSpec)

/-- ITS FALSE NEIGHBOUR: 'it returns false'. Refute it at one input. -/
def witnessFindsWrong : ChangeSpec := { name := "witnessFinds", fn := fun _ => fun
  | [d] => { results := [.lit (.bool false)], args := [d] }
  | _ => none }
def WitnessFindsWrongFalsely : Prop := witnessFindsRow.holds Try.pinned (OpenSpec.ofChange witnessFindsWrong)

/-- 'reclaimlaw12.WitnessLocal': WHATEVER THE INPUT: true; the input reads as it did. -/
def witnessLocalSpec : ChangeSpec := { name := "witnessLocal", fn := fun _ => fun
  | [d] => { results := [.lit (.bool true)], args := [d] }
  | _ => none }
def witnessLocalRow : OpenClaim := { program := "ytkjeedlkkpgopaa", sum := "74f3bf80b5e0be51a2807877caaed70977a4d99fc8bdb0480e8b202ebfe57dad", func := "reclaim/reclaimlaw12.WitnessLocal", spec := "witnessLocal", unfollowed := true, recurses := true, plainKeys := false, apart := false }
def WitnessLocalSaid : Prop := witnessLocalRow.holds Try.pinned (OpenSpec.ofChange witnessLocalSpec)

/-- ITS FALSE NEIGHBOUR: 'it returns false'. Refute it at one input. -/
def witnessLocalWrong : ChangeSpec := { name := "witnessLocal", fn := fun _ => fun
  | [d] => { results := [.lit (.bool false)], args := [d] }
  | _ => none }
def WitnessLocalWrongFalsely : Prop := witnessLocalRow.holds Try.pinned (OpenSpec.ofChange witnessLocalWrong)

/-- 'reclaimlaw12.WitnessBegun': WHATEVER THE INPUT: true; the input reads as it did. -/
def witnessBegunSpec : ChangeSpec := { name := "witnessBegun", fn := fun _ => fun
  | [d1, d2] => { results := [.lit (.bool true)], args := [d1, d2] }
  | _ => none }
def witnessBegunRow : OpenClaim := { program := "ytkjeedlkkpgopaa", sum := "74f3bf80b5e0be51a2807877caaed70977a4d99fc8bdb0480e8b202ebfe57dad", func := "reclaim/reclaimlaw12.WitnessBegun", spec := "witnessBegun", unfollowed := true, recurses := true, plainKeys := false, apart := false }
def WitnessBegunSaid : Prop := witnessBegunRow.holds Try.pinned (OpenSpec.ofChange witnessBegunSpec)

/-- ITS FALSE NEIGHBOUR: 'it returns false'. Refute it at one input. -/
def witnessBegunWrong : ChangeSpec := { name := "witnessBegun", fn := fun _ => fun
  | [d1, d2] => { results := [.lit (.bool false)], args := [d1, d2] }
  | _ => none }
def WitnessBegunWrongFalsely : Prop := witnessBegunRow.holds Try.pinned (OpenSpec.ofChange witnessBegunWrong)

/-- 'reclaimlaw12.WitnessLonger': WHATEVER THE INPUT: true; the input reads as it did. -/
def witnessLongerSpec : ChangeSpec := { name := "witnessLonger", fn := fun _ => fun
  | [d1, d2, d3, d4] => { results := [.lit (.bool true)], args := [d1, d2, d3, d4] }
  | _ => none }
def witnessLongerRow : OpenClaim := { program := "ytkjeedlkkpgopaa", sum := "74f3bf80b5e0be51a2807877caaed70977a4d99fc8bdb0480e8b202ebfe57dad", func := "reclaim/reclaimlaw12.WitnessLonger", spec := "witnessLonger", unfollowed := true, recurses := true, plainKeys := false, apart := false }
def WitnessLongerSaid : Prop := witnessLongerRow.holds Try.pinned (OpenSpec.ofChange witnessLongerSpec)

/-- ITS FALSE NEIGHBOUR: 'it returns false'. Refute it at one input. -/
def witnessLongerWrong : ChangeSpec := { name := "witnessLonger", fn := fun _ => fun
  | [d1, d2, d3, d4] => { results := [.lit (.bool false)], args := [d1, d2, d3, d4] }
  | _ => none }
def WitnessLongerWrongFalsely : Prop := witnessLongerRow.holds Try.pinned (OpenSpec.ofChange witnessLongerWrong)

/-- 'reclaimlaw12.WitnessLeast': WHATEVER THE INPUT: true; the input reads as it did. -/
def witnessLeastSpec : ChangeSpec := { name := "witnessLeast", fn := fun _ => fun
  | [d1, d2] => { results := [.lit (.bool true)], args := [d1, d2] }
  | _ => none }
def witnessLeastRow : OpenClaim := { program := "ytkjeedlkkpgopaa", sum := "74f3bf80b5e0be51a2807877caaed70977a4d99fc8bdb0480e8b202ebfe57dad", func := "reclaim/reclaimlaw12.WitnessLeast", spec := "witnessLeast", unfollowed := true, recurses := true, plainKeys := false, apart := false }
def WitnessLeastSaid : Prop := witnessLeastRow.holds Try.pinned (OpenSpec.ofChange witnessLeastSpec)

/-- ITS FALSE NEIGHBOUR: 'it returns false'. Refute it at one input. -/
def witnessLeastWrong : ChangeSpec := { name := "witnessLeast", fn := fun _ => fun
  | [d1, d2] => { results := [.lit (.bool false)], args := [d1, d2] }
  | _ => none }
def WitnessLeastWrongFalsely : Prop := witnessLeastRow.holds Try.pinned (OpenSpec.ofChange witnessLeastWrong)

/-- 'reclaimlaw12.WitnessSound': WHATEVER THE INPUT: true; the input reads as it did. -/
def witnessSoundSpec : ChangeSpec := { name := "witnessSound", fn := fun _ => fun
  | [d] => { results := [.lit (.bool true)], args := [d] }
  | _ => none }
def witnessSoundRow : OpenClaim := { program := "ytkjeedlkkpgopaa", sum := "74f3bf80b5e0be51a2807877caaed70977a4d99fc8bdb0480e8b202ebfe57dad", func := "reclaim/reclaimlaw12.WitnessSound", spec := "witnessSound", unfollowed := true, recurses := true, plainKeys := false, apart := false }
def WitnessSoundSaid : Prop := witnessSoundRow.holds Try.pinned (OpenSpec.ofChange witnessSoundSpec)

/-- ITS FALSE NEIGHBOUR: 'it returns false'. Refute it at one input. -/
def witnessSoundWrong : ChangeSpec := { name := "witnessSound", fn := fun _ => fun
  | [d] => { results := [.lit (.bool false)], args := [d] }
  | _ => none }
def WitnessSoundWrongFalsely : Prop := witnessSoundRow.holds Try.pinned (OpenSpec.ofChange witnessSoundWrong)

/-- 'reclaimlaw12.WitnessFresh': WHATEVER THE INPUT: true; the input reads as it did. -/
def witnessFreshSpec : ChangeSpec := { name := "witnessFresh", fn := fun _ => fun
  | [d1, d2] => { results := [.lit (.bool true)], args := [d1, d2] }
  | _ => none }
def witnessFreshRow : OpenClaim := { program := "ytkjeedlkkpgopaa", sum := "74f3bf80b5e0be51a2807877caaed70977a4d99fc8bdb0480e8b202ebfe57dad", func := "reclaim/reclaimlaw12.WitnessFresh", spec := "witnessFresh", unfollowed := true, recurses := true, plainKeys := false, apart := false }
def WitnessFreshSaid : Prop := witnessFreshRow.holds Try.pinned (OpenSpec.ofChange witnessFreshSpec)

/-- ITS FALSE NEIGHBOUR: 'it returns false'. Refute it at one input. -/
def witnessFreshWrong : ChangeSpec := { name := "witnessFresh", fn := fun _ => fun
  | [d1, d2] => { results := [.lit (.bool false)], args := [d1, d2] }
  | _ => none }
def WitnessFreshWrongFalsely : Prop := witnessFreshRow.holds Try.pinned (OpenSpec.ofChange witnessFreshWrong)

/- THE SECOND FORM. 'bulk': how many values and letters a reading holds, each counted each time it is reached (what is shared counts as often as it is met; a slice's spare places count too). A statement '..UptoSaid' is the law's where the arguments, and the package variables that the reading takes, are together of bulk at most 1048576: NARROWER than '..Said'. Prove '..Said' where nothing that the law and all that it calls make is longer than what came in: it says more and counts as full. Else prove '..UptoSaid'. A law counts once. -/
mutual
def uptoBulk {H : Type} : DataW H → Nat
  | .lit (.string bytes) => bytes.length + 1
  | .lit _ => 1
  | .nil => 1
  | .ptr d => uptoBulk d + 1
  | .slice elems spare => uptoBulkAll elems + uptoBulkAll spare + 1
  | .agg parts => uptoBulkAll parts + 1
  | .iface _ d => uptoBulk d + 1
  | .map entries => uptoBulkEntries entries + 1
  | .held _ => 1
def uptoBulkAll {H : Type} : List (DataW H) → Nat
  | [] => 0
  | d :: r => uptoBulk d + uptoBulkAll r
def uptoBulkEntries {H : Type} : List (Lit × DataW H) → Nat
  | [] => 0
  | x :: r => uptoBulkEntry x + uptoBulkEntries r
def uptoBulkEntry {H : Type} : Lit × DataW H → Nat
  | (.string bytes, d) => bytes.length + uptoBulk d + 1
  | (_, d) => uptoBulk d + 1
 end
def uptoSmall : (H : Type) → List (DataW H) → Bool := fun _ ds => decide (uptoBulkAll ds ≤ 1048576)
def OpenSpec.upto (s : _root_.Go.ChangeSpec) : _root_.Go.OpenSpec := { _root_.Go.OpenSpec.ofChange s with cond := some uptoSmall }

/-- 'reclaimlaw12.WitnessMays', WHERE WHAT IT READS IS OF BULK AT MOST 1048576: true; the input reads as it did. -/
def witnessMaysUptoRow : OpenClaim := { program := "ytkjeedlkkpgopaa", sum := "74f3bf80b5e0be51a2807877caaed70977a4d99fc8bdb0480e8b202ebfe57dad", func := "reclaim/reclaimlaw12.WitnessMays", spec := "witnessMays", recurses := true, plainKeys := false, apart := false, narrowed := true }
def WitnessMaysUptoSaid : Prop := witnessMaysUptoRow.holds Try.pinned (OpenSpec.upto witnessMaysSpec)

/-- 'reclaimlaw12.WitnessTimes', WHERE WHAT IT READS IS OF BULK AT MOST 1048576: true; the input reads as it did. -/
def witnessTimesUptoRow : OpenClaim := { program := "ytkjeedlkkpgopaa", sum := "74f3bf80b5e0be51a2807877caaed70977a4d99fc8bdb0480e8b202ebfe57dad", func := "reclaim/reclaimlaw12.WitnessTimes", spec := "witnessTimes", recurses := true, plainKeys := false, apart := false, narrowed := true }
def WitnessTimesUptoSaid : Prop := witnessTimesUptoRow.holds Try.pinned (OpenSpec.upto witnessTimesSpec)

/-- 'reclaimlaw12.WitnessPoints', WHERE WHAT IT READS IS OF BULK AT MOST 1048576: true; the input reads as it did. -/
def witnessPointsUptoRow : OpenClaim := { program := "ytkjeedlkkpgopaa", sum := "74f3bf80b5e0be51a2807877caaed70977a4d99fc8bdb0480e8b202ebfe57dad", func := "reclaim/reclaimlaw12.WitnessPoints", spec := "witnessPoints", unfollowed := true, recurses := true, plainKeys := false, apart := false, narrowed := true }
def WitnessPointsUptoSaid : Prop := witnessPointsUptoRow.holds Try.pinned (OpenSpec.upto witnessPointsSpec)

/-- 'reclaimlaw12.WitnessChecks', WHERE WHAT IT READS IS OF BULK AT MOST 1048576: true; the input reads as it did. -/
def witnessChecksUptoRow : OpenClaim := { program := "ytkjeedlkkpgopaa", sum := "74f3bf80b5e0be51a2807877caaed70977a4d99fc8bdb0480e8b202ebfe57dad", func := "reclaim/reclaimlaw12.WitnessChecks", spec := "witnessChecks", unfollowed := true, recurses := true, plainKeys := false, apart := false, narrowed := true }
def WitnessChecksUptoSaid : Prop := witnessChecksUptoRow.holds Try.pinned (OpenSpec.upto witnessChecksSpec)

/-- 'reclaimlaw12.WitnessFinds', WHERE WHAT IT READS IS OF BULK AT MOST 1048576: true; the input reads as it did. -/
def witnessFindsUptoRow : OpenClaim := { program := "ytkjeedlkkpgopaa", sum := "74f3bf80b5e0be51a2807877caaed70977a4d99fc8bdb0480e8b202ebfe57dad", func := "reclaim/reclaimlaw12.WitnessFinds", spec := "witnessFinds", unfollowed := true, recurses := true, plainKeys := false, apart := false, narrowed := true }
def WitnessFindsUptoSaid : Prop := witnessFindsUptoRow.holds Try.pinned (OpenSpec.upto witnessFindsSpec)

/-- 'reclaimlaw12.WitnessLocal', WHERE WHAT IT READS IS OF BULK AT MOST 1048576: true; the input reads as it did. -/
def witnessLocalUptoRow : OpenClaim := { program := "ytkjeedlkkpgopaa", sum := "74f3bf80b5e0be51a2807877caaed70977a4d99fc8bdb0480e8b202ebfe57dad", func := "reclaim/reclaimlaw12.WitnessLocal", spec := "witnessLocal", unfollowed := true, recurses := true, plainKeys := false, apart := false, narrowed := true }
def WitnessLocalUptoSaid : Prop := witnessLocalUptoRow.holds Try.pinned (OpenSpec.upto witnessLocalSpec)

/-- 'reclaimlaw12.WitnessBegun', WHERE WHAT IT READS IS OF BULK AT MOST 1048576: true; the input reads as it did. -/
def witnessBegunUptoRow : OpenClaim := { program := "ytkjeedlkkpgopaa", sum := "74f3bf80b5e0be51a2807877caaed70977a4d99fc8bdb0480e8b202ebfe57dad", func := "reclaim/reclaimlaw12.WitnessBegun", spec := "witnessBegun", unfollowed := true, recurses := true, plainKeys := false, apart := false, narrowed := true }
def WitnessBegunUptoSaid : Prop := witnessBegunUptoRow.holds Try.pinned (OpenSpec.upto witnessBegunSpec)

/-- 'reclaimlaw12.WitnessLonger', WHERE WHAT IT READS IS OF BULK AT MOST 1048576: true; the input reads as it did. -/
def witnessLongerUptoRow : OpenClaim := { program := "ytkjeedlkkpgopaa", sum := "74f3bf80b5e0be51a2807877caaed70977a4d99fc8bdb0480e8b202ebfe57dad", func := "reclaim/reclaimlaw12.WitnessLonger", spec := "witnessLonger", unfollowed := true, recurses := true, plainKeys := false, apart := false, narrowed := true }
def WitnessLongerUptoSaid : Prop := witnessLongerUptoRow.holds Try.pinned (OpenSpec.upto witnessLongerSpec)

/-- 'reclaimlaw12.WitnessLeast', WHERE WHAT IT READS IS OF BULK AT MOST 1048576: true; the input reads as it did. -/
def witnessLeastUptoRow : OpenClaim := { program := "ytkjeedlkkpgopaa", sum := "74f3bf80b5e0be51a2807877caaed70977a4d99fc8bdb0480e8b202ebfe57dad", func := "reclaim/reclaimlaw12.WitnessLeast", spec := "witnessLeast", unfollowed := true, recurses := true, plainKeys := false, apart := false, narrowed := true }
def WitnessLeastUptoSaid : Prop := witnessLeastUptoRow.holds Try.pinned (OpenSpec.upto witnessLeastSpec)

/-- 'reclaimlaw12.WitnessSound', WHERE WHAT IT READS IS OF BULK AT MOST 1048576: true; the input reads as it did. -/
def witnessSoundUptoRow : OpenClaim := { program := "ytkjeedlkkpgopaa", sum := "74f3bf80b5e0be51a2807877caaed70977a4d99fc8bdb0480e8b202ebfe57dad", func := "reclaim/reclaimlaw12.WitnessSound", spec := "witnessSound", unfollowed := true, recurses := true, plainKeys := false, apart := false, narrowed := true }
def WitnessSoundUptoSaid : Prop := witnessSoundUptoRow.holds Try.pinned (OpenSpec.upto witnessSoundSpec)

/-- 'reclaimlaw12.WitnessFresh', WHERE WHAT IT READS IS OF BULK AT MOST 1048576: true; the input reads as it did. -/
def witnessFreshUptoRow : OpenClaim := { program := "ytkjeedlkkpgopaa", sum := "74f3bf80b5e0be51a2807877caaed70977a4d99fc8bdb0480e8b202ebfe57dad", func := "reclaim/reclaimlaw12.WitnessFresh", spec := "witnessFresh", unfollowed := true, recurses := true, plainKeys := false, apart := false, narrowed := true }
def WitnessFreshUptoSaid : Prop := witnessFreshUptoRow.holds Try.pinned (OpenSpec.upto witnessFreshSpec)

end Rows
end Go.Proofs.Ytkjeedlkkpgopaa
