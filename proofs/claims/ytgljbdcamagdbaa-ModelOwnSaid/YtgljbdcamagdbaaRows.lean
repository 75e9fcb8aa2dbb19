/-
  No cell of these rows narrows 'for every input' (looked for: loops, veiled, ifaces, maps, wideKeys, modest, calm, conditions, laid).
  DERIVED. THE GIVEN ROWS OF THIS SEAT. 13 by the template 'for every input the law returns true; each argument reads behind the call as it read before'; 0 by the template 'total and deterministic' (their statements: YtgljbdcamagdbaaTotals.lean).
  GIVEN WITH THE SEED: the statements are not yours to turn. If you find one false, say at which input.
  Laid BY PROGRAM, IN A SANDBOX (cutbox-rows.mjs): the forced cells as the released guide's own fill.sh prints them over the translation 4044790372e050a7… (all of the seat's roots in one cut). By AI agents, Wed Nov 11 2026. No macro, syntax, notation, axiom, sorry.
-/
import Derived.Test.YtgljbdcamagdbaaChecked
import GoSem.Claim
import GoSem.ClaimJoined
import GoSem.ClaimMapViews
import Derived.JoinedTies
import Derived.KernelRfl
namespace Go.Proofs.Ytgljbdcamagdbaa
/- THE CELL 'sum', in the pinned program and in every row, IS THE sha256 OF THE DUMP (.gsa) THAT YtgljbdcamagdbaaProg.lean LOADS. Nothing in Lean hashes anything: it is a label: what it is worth is what the hold of that sum in a sandbox is worth. -/
noncomputable def Try.pinned : Pinned := { name := "ytgljbdcamagdbaa", sum := "4044790372e050a701736bb6b2f907ba94a89bade970980385d9b20a1809678d", checked := Try.checked }
namespace Rows
def none {H : Type} : Left H := { results := [], args := [] }

/-- 'reclaimlaw11.ModelObjects': WHATEVER THE INPUT: true; the input reads as it did. -/
def modelObjectsSpec : ChangeSpec := { name := "modelObjects", fn := fun _ => fun
  | [d] => { results := [.lit (.bool true)], args := [d] }
  | _ => none }
def modelObjectsRow : OpenClaim := { program := "ytgljbdcamagdbaa", sum := "4044790372e050a701736bb6b2f907ba94a89bade970980385d9b20a1809678d", func := "reclaim/reclaimlaw11.ModelObjects", spec := "modelObjects", apart := false }
def ModelObjectsSaid : Prop := modelObjectsRow.holds Try.pinned (OpenSpec.ofChange modelObjectsSpec)

/-- ITS FALSE NEIGHBOUR: 'it returns false'. Refute it at one input. -/
def modelObjectsWrong : ChangeSpec := { name := "modelObjects", fn := fun _ => fun
  | [d] => { results := [.lit (.bool false)], args := [d] }
  | _ => none }
def ModelObjectsWrongFalsely : Prop := modelObjectsRow.holds Try.pinned (OpenSpec.ofChange modelObjectsWrong)

/-- 'reclaimlaw11.ModelMays': WHATEVER THE INPUT: true; the input reads as it did. -/
def modelMaysSpec : ChangeSpec := { name := "modelMays", fn := fun _ => fun
  | [d1, d2] => { results := [.lit (.bool true)], args := [d1, d2] }
  | _ => none }
def modelMaysRow : OpenClaim := { program := "ytgljbdcamagdbaa", sum := "4044790372e050a701736bb6b2f907ba94a89bade970980385d9b20a1809678d", func := "reclaim/reclaimlaw11.ModelMays", spec := "modelMays", apart := false }
def ModelMaysSaid : Prop := modelMaysRow.holds Try.pinned (OpenSpec.ofChange modelMaysSpec)

/-- ITS FALSE NEIGHBOUR: 'it returns false'. Refute it at one input. -/
def modelMaysWrong : ChangeSpec := { name := "modelMays", fn := fun _ => fun
  | [d1, d2] => { results := [.lit (.bool false)], args := [d1, d2] }
  | _ => none }
def ModelMaysWrongFalsely : Prop := modelMaysRow.holds Try.pinned (OpenSpec.ofChange modelMaysWrong)

/-- 'reclaimlaw11.ModelParts': WHATEVER THE INPUT: true; the input reads as it did. -/
def modelPartsSpec : ChangeSpec := { name := "modelParts", fn := fun _ => fun
  | [d1, d2] => { results := [.lit (.bool true)], args := [d1, d2] }
  | _ => none }
def modelPartsRow : OpenClaim := { program := "ytgljbdcamagdbaa", sum := "4044790372e050a701736bb6b2f907ba94a89bade970980385d9b20a1809678d", func := "reclaim/reclaimlaw11.ModelParts", spec := "modelParts", unfollowed := true, recurses := true, apart := false }
def ModelPartsSaid : Prop := modelPartsRow.holds Try.pinned (OpenSpec.ofChange modelPartsSpec)

/-- ITS FALSE NEIGHBOUR: 'it returns false'. Refute it at one input. -/
def modelPartsWrong : ChangeSpec := { name := "modelParts", fn := fun _ => fun
  | [d1, d2] => { results := [.lit (.bool false)], args := [d1, d2] }
  | _ => none }
def ModelPartsWrongFalsely : Prop := modelPartsRow.holds Try.pinned (OpenSpec.ofChange modelPartsWrong)

/-- 'reclaimlaw11.ModelDoes': WHATEVER THE INPUT: true; the input reads as it did. -/
def modelDoesSpec : ChangeSpec := { name := "modelDoes", fn := fun _ => fun
  | [d] => { results := [.lit (.bool true)], args := [d] }
  | _ => none }
def modelDoesRow : OpenClaim := { program := "ytgljbdcamagdbaa", sum := "4044790372e050a701736bb6b2f907ba94a89bade970980385d9b20a1809678d", func := "reclaim/reclaimlaw11.ModelDoes", spec := "modelDoes", unfollowed := true, recurses := true, apart := false }
def ModelDoesSaid : Prop := modelDoesRow.holds Try.pinned (OpenSpec.ofChange modelDoesSpec)

/-- ITS FALSE NEIGHBOUR: 'it returns false'. Refute it at one input. -/
def modelDoesWrong : ChangeSpec := { name := "modelDoes", fn := fun _ => fun
  | [d] => { results := [.lit (.bool false)], args := [d] }
  | _ => none }
def ModelDoesWrongFalsely : Prop := modelDoesRow.holds Try.pinned (OpenSpec.ofChange modelDoesWrong)

/-- 'reclaimlaw11.ModelQueues': WHATEVER THE INPUT: true; the input reads as it did. -/
def modelQueuesSpec : ChangeSpec := { name := "modelQueues", fn := fun _ => fun
  | [d1, d2] => { results := [.lit (.bool true)], args := [d1, d2] }
  | _ => none }
def modelQueuesRow : OpenClaim := { program := "ytgljbdcamagdbaa", sum := "4044790372e050a701736bb6b2f907ba94a89bade970980385d9b20a1809678d", func := "reclaim/reclaimlaw11.ModelQueues", spec := "modelQueues", unfollowed := true, recurses := true, apart := false }
def ModelQueuesSaid : Prop := modelQueuesRow.holds Try.pinned (OpenSpec.ofChange modelQueuesSpec)

/-- ITS FALSE NEIGHBOUR: 'it returns false'. Refute it at one input. -/
def modelQueuesWrong : ChangeSpec := { name := "modelQueues", fn := fun _ => fun
  | [d1, d2] => { results := [.lit (.bool false)], args := [d1, d2] }
  | _ => none }
def ModelQueuesWrongFalsely : Prop := modelQueuesRow.holds Try.pinned (OpenSpec.ofChange modelQueuesWrong)

/-- 'reclaimlaw11.ModelStacks': WHATEVER THE INPUT: true; the input reads as it did. -/
def modelStacksSpec : ChangeSpec := { name := "modelStacks", fn := fun _ => fun
  | [d1, d2] => { results := [.lit (.bool true)], args := [d1, d2] }
  | _ => none }
def modelStacksRow : OpenClaim := { program := "ytgljbdcamagdbaa", sum := "4044790372e050a701736bb6b2f907ba94a89bade970980385d9b20a1809678d", func := "reclaim/reclaimlaw11.ModelStacks", spec := "modelStacks", unfollowed := true, recurses := true, apart := false }
def ModelStacksSaid : Prop := modelStacksRow.holds Try.pinned (OpenSpec.ofChange modelStacksSpec)

/-- ITS FALSE NEIGHBOUR: 'it returns false'. Refute it at one input. -/
def modelStacksWrong : ChangeSpec := { name := "modelStacks", fn := fun _ => fun
  | [d1, d2] => { results := [.lit (.bool false)], args := [d1, d2] }
  | _ => none }
def ModelStacksWrongFalsely : Prop := modelStacksRow.holds Try.pinned (OpenSpec.ofChange modelStacksWrong)

/-- 'reclaimlaw11.ModelSets': WHATEVER THE INPUT: true; the input reads as it did. -/
def modelSetsSpec : ChangeSpec := { name := "modelSets", fn := fun _ => fun
  | [d1, d2, d3] => { results := [.lit (.bool true)], args := [d1, d2, d3] }
  | _ => none }
def modelSetsRow : OpenClaim := { program := "ytgljbdcamagdbaa", sum := "4044790372e050a701736bb6b2f907ba94a89bade970980385d9b20a1809678d", func := "reclaim/reclaimlaw11.ModelSets", spec := "modelSets", unfollowed := true, recurses := true, apart := false }
def ModelSetsSaid : Prop := modelSetsRow.holds Try.pinned (OpenSpec.ofChange modelSetsSpec)

/-- ITS FALSE NEIGHBOUR: 'it returns false'. Refute it at one input. -/
def modelSetsWrong : ChangeSpec := { name := "modelSets", fn := fun _ => fun
  | [d1, d2, d3] => { results := [.lit (.bool false)], args := [d1, d2, d3] }
  | _ => none }
def ModelSetsWrongFalsely : Prop := modelSetsRow.holds Try.pinned (OpenSpec.ofChange modelSetsWrong)

/-- 'reclaimlaw11.ModelTables': WHATEVER THE INPUT: true; the input reads as it did. -/
def modelTablesSpec : ChangeSpec := { name := "modelTables", fn := fun _ => fun
  | [d] => { results := [.lit (.bool true)], args := [d] }
  | _ => none }
def modelTablesRow : OpenClaim := { program := "ytgljbdcamagdbaa", sum := "4044790372e050a701736bb6b2f907ba94a89bade970980385d9b20a1809678d", func := "reclaim/reclaimlaw11.ModelTables", spec := "modelTables", unfollowed := true, recurses := true, apart := false }
def ModelTablesSaid : Prop := modelTablesRow.holds Try.pinned (OpenSpec.ofChange modelTablesSpec)

/-- ITS FALSE NEIGHBOUR: 'it returns false'. Refute it at one input. -/
def modelTablesWrong : ChangeSpec := { name := "modelTables", fn := fun _ => fun
  | [d] => { results := [.lit (.bool false)], args := [d] }
  | _ => none }
def ModelTablesWrongFalsely : Prop := modelTablesRow.holds Try.pinned (OpenSpec.ofChange modelTablesWrong)

/-- 'reclaimlaw11.ModelAllows': WHATEVER THE INPUT: true; the input reads as it did. -/
def modelAllowsSpec : ChangeSpec := { name := "modelAllows", fn := fun _ => fun
  | [d1, d2] => { results := [.lit (.bool true)], args := [d1, d2] }
  | _ => none }
def modelAllowsRow : OpenClaim := { program := "ytgljbdcamagdbaa", sum := "4044790372e050a701736bb6b2f907ba94a89bade970980385d9b20a1809678d", func := "reclaim/reclaimlaw11.ModelAllows", spec := "modelAllows", unfollowed := true, recurses := true, apart := false }
def ModelAllowsSaid : Prop := modelAllowsRow.holds Try.pinned (OpenSpec.ofChange modelAllowsSpec)

/-- ITS FALSE NEIGHBOUR: 'it returns false'. Refute it at one input. -/
def modelAllowsWrong : ChangeSpec := { name := "modelAllows", fn := fun _ => fun
  | [d1, d2] => { results := [.lit (.bool false)], args := [d1, d2] }
  | _ => none }
def ModelAllowsWrongFalsely : Prop := modelAllowsRow.holds Try.pinned (OpenSpec.ofChange modelAllowsWrong)

/-- 'reclaimlaw11.ModelApart': WHATEVER THE INPUT: true; the input reads as it did. -/
def modelApartSpec : ChangeSpec := { name := "modelApart", fn := fun _ => fun
  | [d1, d2, d3] => { results := [.lit (.bool true)], args := [d1, d2, d3] }
  | _ => none }
def modelApartRow : OpenClaim := { program := "ytgljbdcamagdbaa", sum := "4044790372e050a701736bb6b2f907ba94a89bade970980385d9b20a1809678d", func := "reclaim/reclaimlaw11.ModelApart", spec := "modelApart", unfollowed := true, recurses := true, apart := false }
def ModelApartSaid : Prop := modelApartRow.holds Try.pinned (OpenSpec.ofChange modelApartSpec)

/-- ITS FALSE NEIGHBOUR: 'it returns false'. Refute it at one input. -/
def modelApartWrong : ChangeSpec := { name := "modelApart", fn := fun _ => fun
  | [d1, d2, d3] => { results := [.lit (.bool false)], args := [d1, d2, d3] }
  | _ => none }
def ModelApartWrongFalsely : Prop := modelApartRow.holds Try.pinned (OpenSpec.ofChange modelApartWrong)

/-- 'reclaimlaw11.ModelPlays': WHATEVER THE INPUT: true; the input reads as it did. -/
def modelPlaysSpec : ChangeSpec := { name := "modelPlays", fn := fun _ => fun
  | [d1, d2] => { results := [.lit (.bool true)], args := [d1, d2] }
  | _ => none }
def modelPlaysRow : OpenClaim := { program := "ytgljbdcamagdbaa", sum := "4044790372e050a701736bb6b2f907ba94a89bade970980385d9b20a1809678d", func := "reclaim/reclaimlaw11.ModelPlays", spec := "modelPlays", unfollowed := true, recurses := true, apart := false }
def ModelPlaysSaid : Prop := modelPlaysRow.holds Try.pinned (OpenSpec.ofChange modelPlaysSpec)

/-- ITS FALSE NEIGHBOUR: 'it returns false'. Refute it at one input. -/
def modelPlaysWrong : ChangeSpec := { name := "modelPlays", fn := fun _ => fun
  | [d1, d2] => { results := [.lit (.bool false)], args := [d1, d2] }
  | _ => none }
def ModelPlaysWrongFalsely : Prop := modelPlaysRow.holds Try.pinned (OpenSpec.ofChange modelPlaysWrong)

/-- 'reclaimlaw11.ModelOwn': WHATEVER THE INPUT: true; the input reads as it did. -/
def modelOwnSpec : ChangeSpec := { name := "modelOwn", fn := fun _ => fun
  | [d1, d2] => { results := [.lit (.bool true)], args := [d1, d2] }
  | _ => none }
def modelOwnRow : OpenClaim := { program := "ytgljbdcamagdbaa", sum := "4044790372e050a701736bb6b2f907ba94a89bade970980385d9b20a1809678d", func := "reclaim/reclaimlaw11.ModelOwn", spec := "modelOwn", unfollowed := true, recurses := true, apart := false }
def ModelOwnSaid : Prop := modelOwnRow.holds Try.pinned (OpenSpec.ofChange modelOwnSpec)

/-- ITS FALSE NEIGHBOUR: 'it returns false'. Refute it at one input. -/
def modelOwnWrong : ChangeSpec := { name := "modelOwn", fn := fun _ => fun
  | [d1, d2] => { results := [.lit (.bool false)], args := [d1, d2] }
  | _ => none }
def ModelOwnWrongFalsely : Prop := modelOwnRow.holds Try.pinned (OpenSpec.ofChange modelOwnWrong)

/-- 'reclaimlaw11.ModelChecks': WHATEVER THE INPUT: true; the input reads as it did. -/
def modelChecksSpec : ChangeSpec := { name := "modelChecks", fn := fun _ => fun
  | [d1, d2, d3] => { results := [.lit (.bool true)], args := [d1, d2, d3] }
  | _ => none }
def modelChecksRow : OpenClaim := { program := "ytgljbdcamagdbaa", sum := "4044790372e050a701736bb6b2f907ba94a89bade970980385d9b20a1809678d", func := "reclaim/reclaimlaw11.ModelChecks", spec := "modelChecks", unfollowed := true, recurses := true, apart := false }
def ModelChecksSaid : Prop := modelChecksRow.holds Try.pinned (OpenSpec.ofChange modelChecksSpec)

/-- ITS FALSE NEIGHBOUR: 'it returns false'. Refute it at one input. -/
def modelChecksWrong : ChangeSpec := { name := "modelChecks", fn := fun _ => fun
  | [d1, d2, d3] => { results := [.lit (.bool false)], args := [d1, d2, d3] }
  | _ => none }
def ModelChecksWrongFalsely : Prop := modelChecksRow.holds Try.pinned (OpenSpec.ofChange modelChecksWrong)

/- THE SECOND FORM. 'bulk': how many values and letters a reading holds, each counted each time it is reached (what is shared counts as often as it is met; a slice's spare places count too). A statement '..UptoSaid' is the law's where the arguments, and the package variables that the reading takes, are together of bulk at most 1048576: NARROWER than '..Said'. Prove '..Said' where nothing that the law and all that it calls make is longer than what came in: it says more and counts as full. Else prove '..UptoSaid'. A law counts once. -/
mutual
def uptoBulk {H : Type} : DataW H → Nat
  | .lit (.string bytes) => bytes.length + 1
  | .lit _ => 1
  | .nil => 1
  | .ptr d => uptoBulk d + 1
  | .slice elems spare => uptoBulkAll elems + uptoBulkAll spare + 1
  | .agg parts => uptoBulkAll parts + 1
  | .iface _ d => uptoBulk d + 1
  | .map entries => uptoBulkEntries entries + 1
  | .held _ => 1
def uptoBulkAll {H : Type} : List (DataW H) → Nat
  | [] => 0
  | d :: r => uptoBulk d + uptoBulkAll r
def uptoBulkEntries {H : Type} : List (Lit × DataW H) → Nat
  | [] => 0
  | x :: r => uptoBulkEntry x + uptoBulkEntries r
def uptoBulkEntry {H : Type} : Lit × DataW H → Nat
  | (.string bytes, d) => bytes.length + uptoBulk d + 1
  | (_, d) => uptoBulk d + 1
 end
def uptoSmall : (H : Type) → List (DataW H) → Bool := fun _ ds => decide (uptoBulkAll ds ≤ 1048576)
def OpenSpec.upto (s : _root_.Go.ChangeSpec) : _root_.Go.OpenSpec := { _root_.Go.OpenSpec.ofChange s with cond := some uptoSmall }

/-- 'reclaimlaw11.ModelObjects', WHERE WHAT IT READS IS OF BULK AT MOST 1048576: true; the input reads as it did. -/
def modelObjectsUptoRow : OpenClaim := { program := "ytgljbdcamagdbaa", sum := "4044790372e050a701736bb6b2f907ba94a89bade970980385d9b20a1809678d", func := "reclaim/reclaimlaw11.ModelObjects", spec := "modelObjects", apart := false, narrowed := true }
def ModelObjectsUptoSaid : Prop := modelObjectsUptoRow.holds Try.pinned (OpenSpec.upto modelObjectsSpec)

/-- 'reclaimlaw11.ModelMays', WHERE WHAT IT READS IS OF BULK AT MOST 1048576: true; the input reads as it did. -/
def modelMaysUptoRow : OpenClaim := { program := "ytgljbdcamagdbaa", sum := "4044790372e050a701736bb6b2f907ba94a89bade970980385d9b20a1809678d", func := "reclaim/reclaimlaw11.ModelMays", spec := "modelMays", apart := false, narrowed := true }
def ModelMaysUptoSaid : Prop := modelMaysUptoRow.holds Try.pinned (OpenSpec.upto modelMaysSpec)

/-- 'reclaimlaw11.ModelParts', WHERE WHAT IT READS IS OF BULK AT MOST 1048576: true; the input reads as it did. -/
def modelPartsUptoRow : OpenClaim := { program := "ytgljbdcamagdbaa", sum := "4044790372e050a701736bb6b2f907ba94a89bade970980385d9b20a1809678d", func := "reclaim/reclaimlaw11.ModelParts", spec := "modelParts", unfollowed := true, recurses := true, apart := false, narrowed := true }
def ModelPartsUptoSaid : Prop := modelPartsUptoRow.holds Try.pinned (OpenSpec.upto modelPartsSpec)

/-- 'reclaimlaw11.ModelDoes', WHERE WHAT IT READS IS OF BULK AT MOST 1048576: true; the input reads as it did. -/
def modelDoesUptoRow : OpenClaim := { program := "ytgljbdcamagdbaa", sum := "4044790372e050a701736bb6b2f907ba94a89bade970980385d9b20a1809678d", func := "reclaim/reclaimlaw11.ModelDoes", spec := "modelDoes", unfollowed := true, recurses := true, apart := false, narrowed := true }
def ModelDoesUptoSaid : Prop := modelDoesUptoRow.holds Try.pinned (OpenSpec.upto modelDoesSpec)

/-- 'reclaimlaw11.ModelQueues', WHERE WHAT IT READS IS OF BULK AT MOST 1048576: true; the input reads as it did. -/
def modelQueuesUptoRow : OpenClaim := { program := "ytgljbdcamagdbaa", sum := "4044790372e050a701736bb6b2f907ba94a89bade970980385d9b20a1809678d", func := "reclaim/reclaimlaw11.ModelQueues", spec := "modelQueues", unfollowed := true, recurses := true, apart := false, narrowed := true }
def ModelQueuesUptoSaid : Prop := modelQueuesUptoRow.holds Try.pinned (OpenSpec.upto modelQueuesSpec)

/-- 'reclaimlaw11.ModelStacks', WHERE WHAT IT READS IS OF BULK AT MOST 1048576: true; the input reads as it did. -/
def modelStacksUptoRow : OpenClaim := { program := "ytgljbdcamagdbaa", sum := "4044790372e050a701736bb6b2f907ba94a89bade970980385d9b20a1809678d", func := "reclaim/reclaimlaw11.ModelStacks", spec := "modelStacks", unfollowed := true, recurses := true, apart := false, narrowed := true }
def ModelStacksUptoSaid : Prop := modelStacksUptoRow.holds Try.pinned (OpenSpec.upto modelStacksSpec)

/-- 'reclaimlaw11.ModelSets', WHERE WHAT IT READS IS OF BULK AT MOST 1048576: true; the input reads as it did. -/
def modelSetsUptoRow : OpenClaim := { program := "ytgljbdcamagdbaa", sum := "4044790372e050a701736bb6b2f907ba94a89bade970980385d9b20a1809678d", func := "reclaim/reclaimlaw11.ModelSets", spec := "modelSets", unfollowed := true, recurses := true, apart := false, narrowed := true }
def ModelSetsUptoSaid : Prop := modelSetsUptoRow.holds Try.pinned (OpenSpec.upto modelSetsSpec)

/-- 'reclaimlaw11.ModelTables', WHERE WHAT IT READS IS OF BULK AT MOST 1048576: true; the input reads as it did. -/
def modelTablesUptoRow : OpenClaim := { program := "ytgljbdcamagdbaa", sum := "4044790372e050a701736bb6b2f907ba94a89bade970980385d9b20a1809678d", func := "reclaim/reclaimlaw11.ModelTables", spec := "modelTables", unfollowed := true, recurses := true, apart := false, narrowed := true }
def ModelTablesUptoSaid : Prop := modelTablesUptoRow.holds Try.pinned (OpenSpec.upto modelTablesSpec)

/-- 'reclaimlaw11.ModelAllows', WHERE WHAT IT READS IS OF BULK AT MOST 1048576: true; the input reads as it did. -/
def modelAllowsUptoRow : OpenClaim := { program := "ytgljbdcamagdbaa", sum := "4044790372e050a701736bb6b2f907ba94a89bade970980385d9b20a1809678d", func := "reclaim/reclaimlaw11.ModelAllows", spec := "modelAllows", unfollowed := true, recurses := true, apart := false, narrowed := true }
def ModelAllowsUptoSaid : Prop := modelAllowsUptoRow.holds Try.pinned (OpenSpec.upto modelAllowsSpec)

/-- 'reclaimlaw11.ModelApart', WHERE WHAT IT READS IS OF BULK AT MOST 1048576: true; the input reads as it did. -/
def modelApartUptoRow : OpenClaim := { program := "ytgljbdcamagdbaa", sum := "4044790372e050a701736bb6b2f907ba94a89bade970980385d9b20a1809678d", func := "reclaim/reclaimlaw11.ModelApart", spec := "modelApart", unfollowed := true, recurses := true, apart := false, narrowed := true }
def ModelApartUptoSaid : Prop := modelApartUptoRow.holds Try.pinned (OpenSpec.upto modelApartSpec)

/-- 'reclaimlaw11.ModelPlays', WHERE WHAT IT READS IS OF BULK AT MOST 1048576: true; the input reads as it did. -/
def modelPlaysUptoRow : OpenClaim := { program := "ytgljbdcamagdbaa", sum := "4044790372e050a701736bb6b2f907ba94a89bade970980385d9b20a1809678d", func := "reclaim/reclaimlaw11.ModelPlays", spec := "modelPlays", unfollowed := true, recurses := true, apart := false, narrowed := true }
def ModelPlaysUptoSaid : Prop := modelPlaysUptoRow.holds Try.pinned (OpenSpec.upto modelPlaysSpec)

/-- 'reclaimlaw11.ModelOwn', WHERE WHAT IT READS IS OF BULK AT MOST 1048576: true; the input reads as it did. -/
def modelOwnUptoRow : OpenClaim := { program := "ytgljbdcamagdbaa", sum := "4044790372e050a701736bb6b2f907ba94a89bade970980385d9b20a1809678d", func := "reclaim/reclaimlaw11.ModelOwn", spec := "modelOwn", unfollowed := true, recurses := true, apart := false, narrowed := true }
def ModelOwnUptoSaid : Prop := modelOwnUptoRow.holds Try.pinned (OpenSpec.upto modelOwnSpec)

/-- 'reclaimlaw11.ModelChecks', WHERE WHAT IT READS IS OF BULK AT MOST 1048576: true; the input reads as it did. -/
def modelChecksUptoRow : OpenClaim := { program := "ytgljbdcamagdbaa", sum := "4044790372e050a701736bb6b2f907ba94a89bade970980385d9b20a1809678d", func := "reclaim/reclaimlaw11.ModelChecks", spec := "modelChecks", unfollowed := true, recurses := true, apart := false, narrowed := true }
def ModelChecksUptoSaid : Prop := modelChecksUptoRow.holds Try.pinned (OpenSpec.upto modelChecksSpec)

end Rows
end Go.Proofs.Ytgljbdcamagdbaa
