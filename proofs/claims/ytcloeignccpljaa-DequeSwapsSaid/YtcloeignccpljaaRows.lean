/-
  No cell of these rows narrows 'for every input' (looked for: loops, veiled, ifaces, maps, wideKeys, modest, calm, conditions, laid).
  DERIVED. THE GIVEN ROWS OF THIS SEAT. 6 by the template 'for every input the law returns true; each argument reads behind the call as it read before'; 0 by the template 'total and deterministic' (their statements: YtcloeignccpljaaTotals.lean).
  GIVEN WITH THE SEED: the statements are not yours to turn. If you find one false, say at which input.
  Laid BY PROGRAM, IN A SANDBOX (cutbox-rows.mjs): the forced cells as the released guide's own fill.sh prints them over the translation 5da1fd4d9bfd4f16… (all of the seat's roots in one cut). By AI agents, Wed Nov 11 2026. No macro, syntax, notation, axiom, sorry.
-/
import Derived.Test.YtcloeignccpljaaChecked
import GoSem.Claim
import GoSem.ClaimJoined
import GoSem.ClaimMapViews
import Derived.JoinedTies
import Derived.KernelRfl
namespace Go.Proofs.Ytcloeignccpljaa
/- THE CELL 'sum', in the pinned program and in every row, IS THE sha256 OF THE DUMP (.gsa) THAT YtcloeignccpljaaProg.lean LOADS. Nothing in Lean hashes anything: it is a label: what it is worth is what the hold of that sum in a sandbox is worth. -/
noncomputable def Try.pinned : Pinned := { name := "ytcloeignccpljaa", sum := "5da1fd4d9bfd4f16151513f8d9c6ca663b2859626d18346afa67b18d84f012e6", checked := Try.checked }
namespace Rows
def none {H : Type} : Left H := { results := [], args := [] }

/-- 'reclaimlaw21.DequeLefts': WHATEVER THE INPUT: true; the input reads as it did. -/
def dequeLeftsSpec : ChangeSpec := { name := "dequeLefts", fn := fun _ => fun
  | [d1, d2] => { results := [.lit (.bool true)], args := [d1, d2] }
  | _ => none }
def dequeLeftsRow : OpenClaim := { program := "ytcloeignccpljaa", sum := "5da1fd4d9bfd4f16151513f8d9c6ca663b2859626d18346afa67b18d84f012e6", func := "reclaim/reclaimlaw21.DequeLefts", spec := "dequeLefts", apart := false }
def DequeLeftsSaid : Prop := dequeLeftsRow.holds Try.pinned (OpenSpec.ofChange dequeLeftsSpec)

/-- ITS FALSE NEIGHBOUR: 'it returns false'. Refute it at one input. -/
def dequeLeftsWrong : ChangeSpec := { name := "dequeLefts", fn := fun _ => fun
  | [d1, d2] => { results := [.lit (.bool false)], args := [d1, d2] }
  | _ => none }
def DequeLeftsWrongFalsely : Prop := dequeLeftsRow.holds Try.pinned (OpenSpec.ofChange dequeLeftsWrong)

/-- 'reclaimlaw21.DequeSwaps': WHATEVER THE INPUT: true; the input reads as it did. -/
def dequeSwapsSpec : ChangeSpec := { name := "dequeSwaps", fn := fun _ => fun
  | [d1, d2] => { results := [.lit (.bool true)], args := [d1, d2] }
  | _ => none }
def dequeSwapsRow : OpenClaim := { program := "ytcloeignccpljaa", sum := "5da1fd4d9bfd4f16151513f8d9c6ca663b2859626d18346afa67b18d84f012e6", func := "reclaim/reclaimlaw21.DequeSwaps", spec := "dequeSwaps", unfollowed := true, recurses := true, apart := false }
def DequeSwapsSaid : Prop := dequeSwapsRow.holds Try.pinned (OpenSpec.ofChange dequeSwapsSpec)

/-- ITS FALSE NEIGHBOUR: 'it returns false'. Refute it at one input. -/
def dequeSwapsWrong : ChangeSpec := { name := "dequeSwaps", fn := fun _ => fun
  | [d1, d2] => { results := [.lit (.bool false)], args := [d1, d2] }
  | _ => none }
def DequeSwapsWrongFalsely : Prop := dequeSwapsRow.holds Try.pinned (OpenSpec.ofChange dequeSwapsWrong)

/-- 'reclaimlaw21.DequePlays': WHATEVER THE INPUT: true; the input reads as it did. -/
def dequePlaysSpec : ChangeSpec := { name := "dequePlays", fn := fun _ => fun
  | [d1, d2] => { results := [.lit (.bool true)], args := [d1, d2] }
  | _ => none }
def dequePlaysRow : OpenClaim := { program := "ytcloeignccpljaa", sum := "5da1fd4d9bfd4f16151513f8d9c6ca663b2859626d18346afa67b18d84f012e6", func := "reclaim/reclaimlaw21.DequePlays", spec := "dequePlays", unfollowed := true, recurses := true, apart := false }
def DequePlaysSaid : Prop := dequePlaysRow.holds Try.pinned (OpenSpec.ofChange dequePlaysSpec)

/-- ITS FALSE NEIGHBOUR: 'it returns false'. Refute it at one input. -/
def dequePlaysWrong : ChangeSpec := { name := "dequePlays", fn := fun _ => fun
  | [d1, d2] => { results := [.lit (.bool false)], args := [d1, d2] }
  | _ => none }
def DequePlaysWrongFalsely : Prop := dequePlaysRow.holds Try.pinned (OpenSpec.ofChange dequePlaysWrong)

/-- 'reclaimlaw21.DequeAlone': WHATEVER THE INPUT: true; the input reads as it did. -/
def dequeAloneSpec : ChangeSpec := { name := "dequeAlone", fn := fun _ => fun
  | [d1, d2, d3, d4] => { results := [.lit (.bool true)], args := [d1, d2, d3, d4] }
  | _ => none }
def dequeAloneRow : OpenClaim := { program := "ytcloeignccpljaa", sum := "5da1fd4d9bfd4f16151513f8d9c6ca663b2859626d18346afa67b18d84f012e6", func := "reclaim/reclaimlaw21.DequeAlone", spec := "dequeAlone", unfollowed := true, recurses := true, apart := false }
def DequeAloneSaid : Prop := dequeAloneRow.holds Try.pinned (OpenSpec.ofChange dequeAloneSpec)

/-- ITS FALSE NEIGHBOUR: 'it returns false'. Refute it at one input. -/
def dequeAloneWrong : ChangeSpec := { name := "dequeAlone", fn := fun _ => fun
  | [d1, d2, d3, d4] => { results := [.lit (.bool false)], args := [d1, d2, d3, d4] }
  | _ => none }
def DequeAloneWrongFalsely : Prop := dequeAloneRow.holds Try.pinned (OpenSpec.ofChange dequeAloneWrong)

/-- 'reclaimlaw21.DequeOnce': WHATEVER THE INPUT: true; the input reads as it did. -/
def dequeOnceSpec : ChangeSpec := { name := "dequeOnce", fn := fun _ => fun
  | [d1, d2] => { results := [.lit (.bool true)], args := [d1, d2] }
  | _ => none }
def dequeOnceRow : OpenClaim := { program := "ytcloeignccpljaa", sum := "5da1fd4d9bfd4f16151513f8d9c6ca663b2859626d18346afa67b18d84f012e6", func := "reclaim/reclaimlaw21.DequeOnce", spec := "dequeOnce", unfollowed := true, recurses := true, apart := false }
def DequeOnceSaid : Prop := dequeOnceRow.holds Try.pinned (OpenSpec.ofChange dequeOnceSpec)

/-- ITS FALSE NEIGHBOUR: 'it returns false'. Refute it at one input. -/
def dequeOnceWrong : ChangeSpec := { name := "dequeOnce", fn := fun _ => fun
  | [d1, d2] => { results := [.lit (.bool false)], args := [d1, d2] }
  | _ => none }
def DequeOnceWrongFalsely : Prop := dequeOnceRow.holds Try.pinned (OpenSpec.ofChange dequeOnceWrong)

/-- 'reclaimlaw21.DequeLinear': WHATEVER THE INPUT: true; the input reads as it did. -/
def dequeLinearSpec : ChangeSpec := { name := "dequeLinear", fn := fun _ => fun
  | [d1, d2] => { results := [.lit (.bool true)], args := [d1, d2] }
  | _ => none }
def dequeLinearRow : OpenClaim := { program := "ytcloeignccpljaa", sum := "5da1fd4d9bfd4f16151513f8d9c6ca663b2859626d18346afa67b18d84f012e6", func := "reclaim/reclaimlaw21.DequeLinear", spec := "dequeLinear", unfollowed := true, recurses := true, apart := false }
def DequeLinearSaid : Prop := dequeLinearRow.holds Try.pinned (OpenSpec.ofChange dequeLinearSpec)

/-- ITS FALSE NEIGHBOUR: 'it returns false'. Refute it at one input. -/
def dequeLinearWrong : ChangeSpec := { name := "dequeLinear", fn := fun _ => fun
  | [d1, d2] => { results := [.lit (.bool false)], args := [d1, d2] }
  | _ => none }
def DequeLinearWrongFalsely : Prop := dequeLinearRow.holds Try.pinned (OpenSpec.ofChange dequeLinearWrong)

/- THE SECOND FORM. 'bulk': how many values and letters a reading holds, each counted each time it is reached (what is shared counts as often as it is met; a slice's spare places count too). A statement '..UptoSaid' is the law's where the arguments, and the package variables that the reading takes, are together of bulk at most 1048576: NARROWER than '..Said'. Prove '..Said' where nothing that the law and all that it calls make is longer than what came in: it says more and counts as full. Else prove '..UptoSaid'. A law counts once. -/
mutual
def uptoBulk {H : Type} : DataW H → Nat
  | .lit (.string bytes) => bytes.length + 1
  | .lit _ => 1
  | .nil => 1
  | .ptr d => uptoBulk d + 1
  | .slice elems spare => uptoBulkAll elems + uptoBulkAll spare + 1
  | .agg parts => uptoBulkAll parts + 1
  | .iface _ d => uptoBulk d + 1
  | .map entries => uptoBulkEntries entries + 1
  | .held _ => 1
def uptoBulkAll {H : Type} : List (DataW H) → Nat
  | [] => 0
  | d :: r => uptoBulk d + uptoBulkAll r
def uptoBulkEntries {H : Type} : List (Lit × DataW H) → Nat
  | [] => 0
  | x :: r => uptoBulkEntry x + uptoBulkEntries r
def uptoBulkEntry {H : Type} : Lit × DataW H → Nat
  | (.string bytes, d) => bytes.length + uptoBulk d + 1
  | (_, d) => uptoBulk d + 1
 end
def uptoSmall : (H : Type) → List (DataW H) → Bool := fun _ ds => decide (uptoBulkAll ds ≤ 1048576)
def OpenSpec.upto (s : _root_.Go.ChangeSpec) : _root_.Go.OpenSpec := { _root_.Go.OpenSpec.ofChange s with cond := some uptoSmall }

/-- 'reclaimlaw21.DequeLefts', WHERE WHAT IT READS IS OF BULK AT MOST 1048576: true; the input reads as it did. -/
def dequeLeftsUptoRow : OpenClaim := { program := "ytcloeignccpljaa", sum := "5da1fd4d9bfd4f16151513f8d9c6ca663b2859626d18346afa67b18d84f012e6", func := "reclaim/reclaimlaw21.DequeLefts", spec := "dequeLefts", apart := false, narrowed := true }
def DequeLeftsUptoSaid : Prop := dequeLeftsUptoRow.holds Try.pinned (OpenSpec.upto dequeLeftsSpec)

/-- 'reclaimlaw21.DequeSwaps', WHERE WHAT IT READS IS OF BULK AT MOST 1048576: true; the input reads as it did. -/
def dequeSwapsUptoRow : OpenClaim := { program := "ytcloeignccpljaa", sum := "5da1fd4d9bfd4f16151513f8d9c6ca663b2859626d18346afa67b18d84f012e6", func := "reclaim/reclaimlaw21.DequeSwaps", spec := "dequeSwaps", unfollowed := true, recurses := true, apart := false, narrowed := true }
def DequeSwapsUptoSaid : Prop := dequeSwapsUptoRow.holds Try.pinned (OpenSpec.upto dequeSwapsSpec)

/-- 'reclaimlaw21.DequePlays', WHERE WHAT IT READS IS OF BULK AT MOST 1048576: true; the input reads as it did. -/
def dequePlaysUptoRow : OpenClaim := { program := "ytcloeignccpljaa", sum := "5da1fd4d9bfd4f16151513f8d9c6ca663b2859626d18346afa67b18d84f012e6", func := "reclaim/reclaimlaw21.DequePlays", spec := "dequePlays", unfollowed := true, recurses := true, apart := false, narrowed := true }
def DequePlaysUptoSaid : Prop := dequePlaysUptoRow.holds Try.pinned (OpenSpec.upto dequePlaysSpec)

/-- 'reclaimlaw21.DequeAlone', WHERE WHAT IT READS IS OF BULK AT MOST 1048576: true; the input reads as it did. -/
def dequeAloneUptoRow : OpenClaim := { program := "ytcloeignccpljaa", sum := "5da1fd4d9bfd4f16151513f8d9c6ca663b2859626d18346afa67b18d84f012e6", func := "reclaim/reclaimlaw21.DequeAlone", spec := "dequeAlone", unfollowed := true, recurses := true, apart := false, narrowed := true }
def DequeAloneUptoSaid : Prop := dequeAloneUptoRow.holds Try.pinned (OpenSpec.upto dequeAloneSpec)

/-- 'reclaimlaw21.DequeOnce', WHERE WHAT IT READS IS OF BULK AT MOST 1048576: true; the input reads as it did. -/
def dequeOnceUptoRow : OpenClaim := { program := "ytcloeignccpljaa", sum := "5da1fd4d9bfd4f16151513f8d9c6ca663b2859626d18346afa67b18d84f012e6", func := "reclaim/reclaimlaw21.DequeOnce", spec := "dequeOnce", unfollowed := true, recurses := true, apart := false, narrowed := true }
def DequeOnceUptoSaid : Prop := dequeOnceUptoRow.holds Try.pinned (OpenSpec.upto dequeOnceSpec)

/-- 'reclaimlaw21.DequeLinear', WHERE WHAT IT READS IS OF BULK AT MOST 1048576: true; the input reads as it did. -/
def dequeLinearUptoRow : OpenClaim := { program := "ytcloeignccpljaa", sum := "5da1fd4d9bfd4f16151513f8d9c6ca663b2859626d18346afa67b18d84f012e6", func := "reclaim/reclaimlaw21.DequeLinear", spec := "dequeLinear", unfollowed := true, recurses := true, apart := false, narrowed := true }
def DequeLinearUptoSaid : Prop := dequeLinearUptoRow.holds Try.pinned (OpenSpec.upto dequeLinearSpec)

end Rows
end Go.Proofs.Ytcloeignccpljaa
