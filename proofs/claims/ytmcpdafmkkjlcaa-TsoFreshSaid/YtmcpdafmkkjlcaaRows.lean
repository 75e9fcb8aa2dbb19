/-
  No cell of these rows narrows 'for every input' (looked for: loops, veiled, ifaces, maps, wideKeys, modest, calm, conditions, laid).
  DERIVED. THE GIVEN ROWS OF THIS SEAT. 7 by the template 'for every input the law returns true; each argument reads behind the call as it read before'; 0 by the template 'total and deterministic' (their statements: YtmcpdafmkkjlcaaTotals.lean).
  GIVEN WITH THE SEED: the statements are not yours to turn. If you find one false, say at which input.
  Laid BY PROGRAM, IN A SANDBOX (cutbox-rows.mjs): the forced cells as the released guide's own fill.sh prints them over the translation 0b87896520d3874c… (all of the seat's roots in one cut). By AI agents, Wed Nov 11 2026. No macro, syntax, notation, axiom, sorry.
-/
import Derived.Test.YtmcpdafmkkjlcaaChecked
import GoSem.Claim
import GoSem.ClaimJoined
import GoSem.ClaimMapViews
import Derived.JoinedTies
import Derived.KernelRfl
namespace Go.Proofs.Ytmcpdafmkkjlcaa
/- THE CELL 'sum', in the pinned program and in every row, IS THE sha256 OF THE DUMP (.gsa) THAT YtmcpdafmkkjlcaaProg.lean LOADS. Nothing in Lean hashes anything: it is a label: what it is worth is what the hold of that sum in a sandbox is worth. -/
noncomputable def Try.pinned : Pinned := { name := "ytmcpdafmkkjlcaa", sum := "0b87896520d3874c8b25dd6584c5cc39668a252922dc5b0cb49f89b451cd4896", checked := Try.checked }
namespace Rows
def none {H : Type} : Left H := { results := [], args := [] }

/-- 'reclaimlaw19.TsoRuns': WHATEVER THE INPUT: true; the input reads as it did. -/
def tsoRunsSpec : ChangeSpec := { name := "tsoRuns", fn := fun _ => fun
  | [d1, d2, d3] => { results := [.lit (.bool true)], args := [d1, d2, d3] }
  | _ => none }
def tsoRunsRow : OpenClaim := { program := "ytmcpdafmkkjlcaa", sum := "0b87896520d3874c8b25dd6584c5cc39668a252922dc5b0cb49f89b451cd4896", func := "reclaim/reclaimlaw19.TsoRuns", spec := "tsoRuns", unfollowed := true, recurses := true, plainKeys := false, apart := false }
def TsoRunsSaid : Prop := tsoRunsRow.holds Try.pinned (OpenSpec.ofChange tsoRunsSpec)

/-- ITS FALSE NEIGHBOUR: 'it returns false'. Refute it at one input. -/
def tsoRunsWrong : ChangeSpec := { name := "tsoRuns", fn := fun _ => fun
  | [d1, d2, d3] => { results := [.lit (.bool false)], args := [d1, d2, d3] }
  | _ => none }
def TsoRunsWrongFalsely : Prop := tsoRunsRow.holds Try.pinned (OpenSpec.ofChange tsoRunsWrong)

/-- 'reclaimlaw19.TsoSteps': WHATEVER THE INPUT: true; the input reads as it did. -/
def tsoStepsSpec : ChangeSpec := { name := "tsoSteps", fn := fun _ => fun
  | [d1, d2, d3, d4] => { results := [.lit (.bool true)], args := [d1, d2, d3, d4] }
  | _ => none }
def tsoStepsRow : OpenClaim := { program := "ytmcpdafmkkjlcaa", sum := "0b87896520d3874c8b25dd6584c5cc39668a252922dc5b0cb49f89b451cd4896", func := "reclaim/reclaimlaw19.TsoSteps", spec := "tsoSteps", unfollowed := true, recurses := true, plainKeys := false, apart := false }
def TsoStepsSaid : Prop := tsoStepsRow.holds Try.pinned (OpenSpec.ofChange tsoStepsSpec)

/-- ITS FALSE NEIGHBOUR: 'it returns false'. Refute it at one input. -/
def tsoStepsWrong : ChangeSpec := { name := "tsoSteps", fn := fun _ => fun
  | [d1, d2, d3, d4] => { results := [.lit (.bool false)], args := [d1, d2, d3, d4] }
  | _ => none }
def TsoStepsWrongFalsely : Prop := tsoStepsRow.holds Try.pinned (OpenSpec.ofChange tsoStepsWrong)

/-- 'reclaimlaw19.TsoFinals': WHATEVER THE INPUT: true; the input reads as it did. -/
def tsoFinalsSpec : ChangeSpec := { name := "tsoFinals", fn := fun _ => fun
  | [d1, d2] => { results := [.lit (.bool true)], args := [d1, d2] }
  | _ => none }
def tsoFinalsRow : OpenClaim := { program := "ytmcpdafmkkjlcaa", sum := "0b87896520d3874c8b25dd6584c5cc39668a252922dc5b0cb49f89b451cd4896", func := "reclaim/reclaimlaw19.TsoFinals", spec := "tsoFinals", unfollowed := true, recurses := true, plainKeys := false, apart := false }
def TsoFinalsSaid : Prop := tsoFinalsRow.holds Try.pinned (OpenSpec.ofChange tsoFinalsSpec)

/-- ITS FALSE NEIGHBOUR: 'it returns false'. Refute it at one input. -/
def tsoFinalsWrong : ChangeSpec := { name := "tsoFinals", fn := fun _ => fun
  | [d1, d2] => { results := [.lit (.bool false)], args := [d1, d2] }
  | _ => none }
def TsoFinalsWrongFalsely : Prop := tsoFinalsRow.holds Try.pinned (OpenSpec.ofChange tsoFinalsWrong)

/-- 'reclaimlaw19.TsoFresh': WHATEVER THE INPUT: true; the input reads as it did. -/
def tsoFreshSpec : ChangeSpec := { name := "tsoFresh", fn := fun _ => fun
  | [d1, d2] => { results := [.lit (.bool true)], args := [d1, d2] }
  | _ => none }
def tsoFreshRow : OpenClaim := { program := "ytmcpdafmkkjlcaa", sum := "0b87896520d3874c8b25dd6584c5cc39668a252922dc5b0cb49f89b451cd4896", func := "reclaim/reclaimlaw19.TsoFresh", spec := "tsoFresh", unfollowed := true, recurses := true, plainKeys := false, apart := false }
def TsoFreshSaid : Prop := tsoFreshRow.holds Try.pinned (OpenSpec.ofChange tsoFreshSpec)

/-- ITS FALSE NEIGHBOUR: 'it returns false'. Refute it at one input. -/
def tsoFreshWrong : ChangeSpec := { name := "tsoFresh", fn := fun _ => fun
  | [d1, d2] => { results := [.lit (.bool false)], args := [d1, d2] }
  | _ => none }
def TsoFreshWrongFalsely : Prop := tsoFreshRow.holds Try.pinned (OpenSpec.ofChange tsoFreshWrong)

/-- 'reclaimlaw19.TsoFenced': WHATEVER THE INPUT: true; the input reads as it did. -/
def tsoFencedSpec : ChangeSpec := { name := "tsoFenced", fn := fun _ => fun
  | [d] => { results := [.lit (.bool true)], args := [d] }
  | _ => none }
def tsoFencedRow : OpenClaim := { program := "ytmcpdafmkkjlcaa", sum := "0b87896520d3874c8b25dd6584c5cc39668a252922dc5b0cb49f89b451cd4896", func := "reclaim/reclaimlaw19.TsoFenced", spec := "tsoFenced", unfollowed := true, recurses := true, plainKeys := false, apart := false }
def TsoFencedSaid : Prop := tsoFencedRow.holds Try.pinned (OpenSpec.ofChange tsoFencedSpec)

/-- ITS FALSE NEIGHBOUR: 'it returns false'. Refute it at one input. -/
def tsoFencedWrong : ChangeSpec := { name := "tsoFenced", fn := fun _ => fun
  | [d] => { results := [.lit (.bool false)], args := [d] }
  | _ => none }
def TsoFencedWrongFalsely : Prop := tsoFencedRow.holds Try.pinned (OpenSpec.ofChange tsoFencedWrong)

/-- 'reclaimlaw19.TsoClassics': WHATEVER THE INPUT: true; the input reads as it did. -/
def tsoClassicsSpec : ChangeSpec := { name := "tsoClassics", fn := fun _ => fun
  | [d] => { results := [.lit (.bool true)], args := [d] }
  | _ => none }
def tsoClassicsRow : OpenClaim := { program := "ytmcpdafmkkjlcaa", sum := "0b87896520d3874c8b25dd6584c5cc39668a252922dc5b0cb49f89b451cd4896", func := "reclaim/reclaimlaw19.TsoClassics", spec := "tsoClassics", unfollowed := true, recurses := true, plainKeys := false, apart := false }
def TsoClassicsSaid : Prop := tsoClassicsRow.holds Try.pinned (OpenSpec.ofChange tsoClassicsSpec)

/-- ITS FALSE NEIGHBOUR: 'it returns false'. Refute it at one input. -/
def tsoClassicsWrong : ChangeSpec := { name := "tsoClassics", fn := fun _ => fun
  | [d] => { results := [.lit (.bool false)], args := [d] }
  | _ => none }
def TsoClassicsWrongFalsely : Prop := tsoClassicsRow.holds Try.pinned (OpenSpec.ofChange tsoClassicsWrong)

/-- 'reclaimlaw19.TsoOrders': WHATEVER THE INPUT: true; the input reads as it did. -/
def tsoOrdersSpec : ChangeSpec := { name := "tsoOrders", fn := fun _ => fun
  | [d] => { results := [.lit (.bool true)], args := [d] }
  | _ => none }
def tsoOrdersRow : OpenClaim := { program := "ytmcpdafmkkjlcaa", sum := "0b87896520d3874c8b25dd6584c5cc39668a252922dc5b0cb49f89b451cd4896", func := "reclaim/reclaimlaw19.TsoOrders", spec := "tsoOrders", unfollowed := true, recurses := true, plainKeys := false, apart := false }
def TsoOrdersSaid : Prop := tsoOrdersRow.holds Try.pinned (OpenSpec.ofChange tsoOrdersSpec)

/-- ITS FALSE NEIGHBOUR: 'it returns false'. Refute it at one input. -/
def tsoOrdersWrong : ChangeSpec := { name := "tsoOrders", fn := fun _ => fun
  | [d] => { results := [.lit (.bool false)], args := [d] }
  | _ => none }
def TsoOrdersWrongFalsely : Prop := tsoOrdersRow.holds Try.pinned (OpenSpec.ofChange tsoOrdersWrong)

/- THE SECOND FORM. 'bulk': how many values and letters a reading holds, each counted each time it is reached (what is shared counts as often as it is met; a slice's spare places count too). A statement '..UptoSaid' is the law's where the arguments, and the package variables that the reading takes, are together of bulk at most 1048576: NARROWER than '..Said'. Prove '..Said' where nothing that the law and all that it calls make is longer than what came in: it says more and counts as full. Else prove '..UptoSaid'. A law counts once. -/
mutual
def uptoBulk {H : Type} : DataW H → Nat
  | .lit (.string bytes) => bytes.length + 1
  | .lit _ => 1
  | .nil => 1
  | .ptr d => uptoBulk d + 1
  | .slice elems spare => uptoBulkAll elems + uptoBulkAll spare + 1
  | .agg parts => uptoBulkAll parts + 1
  | .iface _ d => uptoBulk d + 1
  | .map entries => uptoBulkEntries entries + 1
  | .held _ => 1
def uptoBulkAll {H : Type} : List (DataW H) → Nat
  | [] => 0
  | d :: r => uptoBulk d + uptoBulkAll r
def uptoBulkEntries {H : Type} : List (Lit × DataW H) → Nat
  | [] => 0
  | x :: r => uptoBulkEntry x + uptoBulkEntries r
def uptoBulkEntry {H : Type} : Lit × DataW H → Nat
  | (.string bytes, d) => bytes.length + uptoBulk d + 1
  | (_, d) => uptoBulk d + 1
 end
def uptoSmall : (H : Type) → List (DataW H) → Bool := fun _ ds => decide (uptoBulkAll ds ≤ 1048576)
def OpenSpec.upto (s : _root_.Go.ChangeSpec) : _root_.Go.OpenSpec := { _root_.Go.OpenSpec.ofChange s with cond := some uptoSmall }

/-- 'reclaimlaw19.TsoRuns', WHERE WHAT IT READS IS OF BULK AT MOST 1048576: true; the input reads as it did. -/
def tsoRunsUptoRow : OpenClaim := { program := "ytmcpdafmkkjlcaa", sum := "0b87896520d3874c8b25dd6584c5cc39668a252922dc5b0cb49f89b451cd4896", func := "reclaim/reclaimlaw19.TsoRuns", spec := "tsoRuns", unfollowed := true, recurses := true, plainKeys := false, apart := false, narrowed := true }
def TsoRunsUptoSaid : Prop := tsoRunsUptoRow.holds Try.pinned (OpenSpec.upto tsoRunsSpec)

/-- 'reclaimlaw19.TsoSteps', WHERE WHAT IT READS IS OF BULK AT MOST 1048576: true; the input reads as it did. -/
def tsoStepsUptoRow : OpenClaim := { program := "ytmcpdafmkkjlcaa", sum := "0b87896520d3874c8b25dd6584c5cc39668a252922dc5b0cb49f89b451cd4896", func := "reclaim/reclaimlaw19.TsoSteps", spec := "tsoSteps", unfollowed := true, recurses := true, plainKeys := false, apart := false, narrowed := true }
def TsoStepsUptoSaid : Prop := tsoStepsUptoRow.holds Try.pinned (OpenSpec.upto tsoStepsSpec)

/-- 'reclaimlaw19.TsoFinals', WHERE WHAT IT READS IS OF BULK AT MOST 1048576: true; the input reads as it did. -/
def tsoFinalsUptoRow : OpenClaim := { program := "ytmcpdafmkkjlcaa", sum := "0b87896520d3874c8b25dd6584c5cc39668a252922dc5b0cb49f89b451cd4896", func := "reclaim/reclaimlaw19.TsoFinals", spec := "tsoFinals", unfollowed := true, recurses := true, plainKeys := false, apart := false, narrowed := true }
def TsoFinalsUptoSaid : Prop := tsoFinalsUptoRow.holds Try.pinned (OpenSpec.upto tsoFinalsSpec)

/-- 'reclaimlaw19.TsoFresh', WHERE WHAT IT READS IS OF BULK AT MOST 1048576: true; the input reads as it did. -/
def tsoFreshUptoRow : OpenClaim := { program := "ytmcpdafmkkjlcaa", sum := "0b87896520d3874c8b25dd6584c5cc39668a252922dc5b0cb49f89b451cd4896", func := "reclaim/reclaimlaw19.TsoFresh", spec := "tsoFresh", unfollowed := true, recurses := true, plainKeys := false, apart := false, narrowed := true }
def TsoFreshUptoSaid : Prop := tsoFreshUptoRow.holds Try.pinned (OpenSpec.upto tsoFreshSpec)

/-- 'reclaimlaw19.TsoFenced', WHERE WHAT IT READS IS OF BULK AT MOST 1048576: true; the input reads as it did. -/
def tsoFencedUptoRow : OpenClaim := { program := "ytmcpdafmkkjlcaa", sum := "0b87896520d3874c8b25dd6584c5cc39668a252922dc5b0cb49f89b451cd4896", func := "reclaim/reclaimlaw19.TsoFenced", spec := "tsoFenced", unfollowed := true, recurses := true, plainKeys := false, apart := false, narrowed := true }
def TsoFencedUptoSaid : Prop := tsoFencedUptoRow.holds Try.pinned (OpenSpec.upto tsoFencedSpec)

/-- 'reclaimlaw19.TsoClassics', WHERE WHAT IT READS IS OF BULK AT MOST 1048576: true; the input reads as it did. -/
def tsoClassicsUptoRow : OpenClaim := { program := "ytmcpdafmkkjlcaa", sum := "0b87896520d3874c8b25dd6584c5cc39668a252922dc5b0cb49f89b451cd4896", func := "reclaim/reclaimlaw19.TsoClassics", spec := "tsoClassics", unfollowed := true, recurses := true, plainKeys := false, apart := false, narrowed := true }
def TsoClassicsUptoSaid : Prop := tsoClassicsUptoRow.holds Try.pinned (OpenSpec.upto tsoClassicsSpec)

/-- 'reclaimlaw19.TsoOrders', WHERE WHAT IT READS IS OF BULK AT MOST 1048576: true; the input reads as it did. -/
def tsoOrdersUptoRow : OpenClaim := { program := "ytmcpdafmkkjlcaa", sum := "0b87896520d3874c8b25dd6584c5cc39668a252922dc5b0cb49f89b451cd4896", func := "reclaim/reclaimlaw19.TsoOrders", spec := "tsoOrders", unfollowed := true, recurses := true, plainKeys := false, apart := false, narrowed := true }
def TsoOrdersUptoSaid : Prop := tsoOrdersUptoRow.holds Try.pinned (OpenSpec.upto tsoOrdersSpec)

end Rows
end Go.Proofs.Ytmcpdafmkkjlcaa
