/-
  No cell of these rows narrows 'for every input' (looked for: loops, veiled, ifaces, maps, wideKeys, modest, calm, conditions, laid).
  DERIVED. THE GIVEN ROWS OF THIS SEAT. 3 by the template 'for every input the law returns true; each argument reads behind the call as it read before'; 0 by the template 'total and deterministic' (their statements: YtpjdcbofngcdbaaTotals.lean).
  GIVEN WITH THE SEED: the statements are not yours to turn. If you find one false, say at which input.
  Laid BY PROGRAM, IN A SANDBOX (cutbox-rows.mjs): the forced cells as the released guide's own fill.sh prints them over the translation 1717015cb1867811… (all of the seat's roots in one cut). By AI agents, Wed Nov 11 2026. No macro, syntax, notation, axiom, sorry.
-/
import Derived.Test.YtpjdcbofngcdbaaChecked
import GoSem.Claim
import GoSem.ClaimJoined
import GoSem.ClaimMapViews
import Derived.JoinedTies
import Derived.KernelRfl
namespace Go.Proofs.Ytpjdcbofngcdbaa
/- THE CELL 'sum', in the pinned program and in every row, IS THE sha256 OF THE DUMP (.gsa) THAT YtpjdcbofngcdbaaProg.lean LOADS. Nothing in Lean hashes anything: it is a label: what it is worth is what the hold of that sum in a sandbox is worth. -/
noncomputable def Try.pinned : Pinned := { name := "ytpjdcbofngcdbaa", sum := "1717015cb1867811573e73e1d84adfbdfbb899fdecb333d05438f600dd2b86ea", checked := Try.checked }
namespace Rows
def none {H : Type} : Left H := { results := [], args := [] }

/-- 'reclaimlaw21.DequeLefts': WHATEVER THE INPUT: true; the input reads as it did. -/
def dequeLeftsSpec : ChangeSpec := { name := "dequeLefts", fn := fun _ => fun
  | [d1, d2] => { results := [.lit (.bool true)], args := [d1, d2] }
  | _ => none }
def dequeLeftsRow : OpenClaim := { program := "ytpjdcbofngcdbaa", sum := "1717015cb1867811573e73e1d84adfbdfbb899fdecb333d05438f600dd2b86ea", func := "reclaim/reclaimlaw21.DequeLefts", spec := "dequeLefts", apart := false }
def DequeLeftsSaid : Prop := dequeLeftsRow.holds Try.pinned (OpenSpec.ofChange dequeLeftsSpec)

/-- ITS FALSE NEIGHBOUR: 'it returns false'. Refute it at one input. -/
def dequeLeftsWrong : ChangeSpec := { name := "dequeLefts", fn := fun _ => fun
  | [d1, d2] => { results := [.lit (.bool false)], args := [d1, d2] }
  | _ => none }
def DequeLeftsWrongFalsely : Prop := dequeLeftsRow.holds Try.pinned (OpenSpec.ofChange dequeLeftsWrong)

/-- 'reclaimlaw23.SplitPlaces': WHATEVER THE INPUT: true; the input reads as it did. -/
def splitPlacesSpec : ChangeSpec := { name := "splitPlaces", fn := fun _ => fun
  | [d1, d2, d3] => { results := [.lit (.bool true)], args := [d1, d2, d3] }
  | _ => none }
def splitPlacesRow : OpenClaim := { program := "ytpjdcbofngcdbaa", sum := "1717015cb1867811573e73e1d84adfbdfbb899fdecb333d05438f600dd2b86ea", func := "reclaim/reclaimlaw23.SplitPlaces", spec := "splitPlaces", unfollowed := true, recurses := true, apart := false }
def SplitPlacesSaid : Prop := splitPlacesRow.holds Try.pinned (OpenSpec.ofChange splitPlacesSpec)

/-- ITS FALSE NEIGHBOUR: 'it returns false'. Refute it at one input. -/
def splitPlacesWrong : ChangeSpec := { name := "splitPlaces", fn := fun _ => fun
  | [d1, d2, d3] => { results := [.lit (.bool false)], args := [d1, d2, d3] }
  | _ => none }
def SplitPlacesWrongFalsely : Prop := splitPlacesRow.holds Try.pinned (OpenSpec.ofChange splitPlacesWrong)

/-- 'reclaimlaw23.SplitLooks': WHATEVER THE INPUT: true; the input reads as it did. -/
def splitLooksSpec : ChangeSpec := { name := "splitLooks", fn := fun _ => fun
  | [d1, d2] => { results := [.lit (.bool true)], args := [d1, d2] }
  | _ => none }
def splitLooksRow : OpenClaim := { program := "ytpjdcbofngcdbaa", sum := "1717015cb1867811573e73e1d84adfbdfbb899fdecb333d05438f600dd2b86ea", func := "reclaim/reclaimlaw23.SplitLooks", spec := "splitLooks", unfollowed := true, recurses := true, apart := false }
def SplitLooksSaid : Prop := splitLooksRow.holds Try.pinned (OpenSpec.ofChange splitLooksSpec)

/-- ITS FALSE NEIGHBOUR: 'it returns false'. Refute it at one input. -/
def splitLooksWrong : ChangeSpec := { name := "splitLooks", fn := fun _ => fun
  | [d1, d2] => { results := [.lit (.bool false)], args := [d1, d2] }
  | _ => none }
def SplitLooksWrongFalsely : Prop := splitLooksRow.holds Try.pinned (OpenSpec.ofChange splitLooksWrong)

/- THE SECOND FORM. 'bulk': how many values and letters a reading holds, each counted each time it is reached (what is shared counts as often as it is met; a slice's spare places count too). A statement '..UptoSaid' is the law's where the arguments, and the package variables that the reading takes, are together of bulk at most 1048576: NARROWER than '..Said'. Prove '..Said' where nothing that the law and all that it calls make is longer than what came in: it says more and counts as full. Else prove '..UptoSaid'. A law counts once. -/
mutual
def uptoBulk {H : Type} : DataW H → Nat
  | .lit (.string bytes) => bytes.length + 1
  | .lit _ => 1
  | .nil => 1
  | .ptr d => uptoBulk d + 1
  | .slice elems spare => uptoBulkAll elems + uptoBulkAll spare + 1
  | .agg parts => uptoBulkAll parts + 1
  | .iface _ d => uptoBulk d + 1
  | .map entries => uptoBulkEntries entries + 1
  | .held _ => 1
def uptoBulkAll {H : Type} : List (DataW H) → Nat
  | [] => 0
  | d :: r => uptoBulk d + uptoBulkAll r
def uptoBulkEntries {H : Type} : List (Lit × DataW H) → Nat
  | [] => 0
  | x :: r => uptoBulkEntry x + uptoBulkEntries r
def uptoBulkEntry {H : Type} : Lit × DataW H → Nat
  | (.string bytes, d) => bytes.length + uptoBulk d + 1
  | (_, d) => uptoBulk d + 1
 end
def uptoSmall : (H : Type) → List (DataW H) → Bool := fun _ ds => decide (uptoBulkAll ds ≤ 1048576)
def OpenSpec.upto (s : _root_.Go.ChangeSpec) : _root_.Go.OpenSpec := { _root_.Go.OpenSpec.ofChange s with cond := some uptoSmall }

/-- 'reclaimlaw21.DequeLefts', WHERE WHAT IT READS IS OF BULK AT MOST 1048576: true; the input reads as it did. -/
def dequeLeftsUptoRow : OpenClaim := { program := "ytpjdcbofngcdbaa", sum := "1717015cb1867811573e73e1d84adfbdfbb899fdecb333d05438f600dd2b86ea", func := "reclaim/reclaimlaw21.DequeLefts", spec := "dequeLefts", apart := false, narrowed := true }
def DequeLeftsUptoSaid : Prop := dequeLeftsUptoRow.holds Try.pinned (OpenSpec.upto dequeLeftsSpec)

/-- 'reclaimlaw23.SplitPlaces', WHERE WHAT IT READS IS OF BULK AT MOST 1048576: true; the input reads as it did. -/
def splitPlacesUptoRow : OpenClaim := { program := "ytpjdcbofngcdbaa", sum := "1717015cb1867811573e73e1d84adfbdfbb899fdecb333d05438f600dd2b86ea", func := "reclaim/reclaimlaw23.SplitPlaces", spec := "splitPlaces", unfollowed := true, recurses := true, apart := false, narrowed := true }
def SplitPlacesUptoSaid : Prop := splitPlacesUptoRow.holds Try.pinned (OpenSpec.upto splitPlacesSpec)

/-- 'reclaimlaw23.SplitLooks', WHERE WHAT IT READS IS OF BULK AT MOST 1048576: true; the input reads as it did. -/
def splitLooksUptoRow : OpenClaim := { program := "ytpjdcbofngcdbaa", sum := "1717015cb1867811573e73e1d84adfbdfbb899fdecb333d05438f600dd2b86ea", func := "reclaim/reclaimlaw23.SplitLooks", spec := "splitLooks", unfollowed := true, recurses := true, apart := false, narrowed := true }
def SplitLooksUptoSaid : Prop := splitLooksUptoRow.holds Try.pinned (OpenSpec.upto splitLooksSpec)

end Rows
end Go.Proofs.Ytpjdcbofngcdbaa
