/- WitnessLeastSaid: what its proof is made of. No condition. -/
import Derived.Test.YtkjeedlkkpgopaaPkWitnessLeastAS
set_option linter.unusedSimpArgs false
set_option linter.unusedVariables false
namespace Go.Proofs.Ytkjeedlkkpgopaa.Z
open Go Go.RowKit Go.ChangeShapes Go.WideShapes Go.ChangeAt
theorem own:ownKnob Try.prog.godebug=none:=by kernel_rfl
theorem laidOut:laidOutB Try.prog=true:=by kernel_rfl
theorem leavesCl:leavesIn Try.prog 9 53=some [3,48,3,3,3,3,3,49,3]:=by kernel_rfl
theorem cellsCl:Try.prog.cellsOf 53=9:=by kernel_rfl
theorem bytesCl:Try.prog.bytesOf 53=72:=by kernel_rfl
section
variable {H:Type} {enc:TypeId×Value→H} {w:World}
theorem leavesCs:leavesIn Try.prog 9 22=some [22]:=by kernel_rfl
theorem reach_len {α:Type} {x:List α} {s:Nat} {ws:List Nat} (hr:∀ k∈ws,k≤reachBytes) (h:x=[]∨∃ k∈ws,x.length * s≤k):x.length * s≤140737488351232:=by
 rcases h with rfl | ⟨k,hk,h⟩
 ·simp
 ·have:=hr k hk
  unfold reachBytes at this
  omega
theorem lit_rng {n:Int} (h:(Lit.int .i64 n).wf=true) : -9223372036854775808≤n∧n≤9223372036854775807:=by
 simp [Lit.wf,IntKind.min,IntKind.max,IntKind.signed,IntKind.bits] at h
 omega
def ClR (c:Cl):Prop:=c.beg≤9223372036854775807∧c.fin≤9223372036854775807∧c.point≤9223372036854775807
theorem leaf_calls {b:Nat} {ws:List Nat} {c:Value} (h:LeafAt enc Try.prog w 0 (fun _=>true) true b ws 22 c) :
  ∃ xs:List Cl,Arr w Cl.enc 9 c xs∧(∀ c∈xs,ClR c)∧xs.length+1≤b∧(xs=[]∨∃ k∈ws,xs.length * 72≤k):=by
 obtain ⟨xs,h1,h4,h2,h3⟩:=h.slice (α:=Cl) Try.underlying22 (by decide) cellsCl Cl.enc ClR (fun m cs y hl ht=>by
  match cs,hl with
  | [c0,c1,c2,c3,c4,c5,c6,c7,c8],_ =>
   have L:=leaf_of 9 _ _ leavesCl m _ _ ht
   obtain ⟨x0,rfl,_⟩:=(L 0 _ c0 rfl rfl).int Try.underlying3
   obtain ⟨x1,rfl,_⟩:=(L 1 _ c1 rfl rfl).int Try.underlying48
   obtain ⟨x2,rfl,_⟩:=(L 2 _ c2 rfl rfl).int Try.underlying3
   obtain ⟨x3,rfl,_⟩:=(L 3 _ c3 rfl rfl).int Try.underlying3
   obtain ⟨x4,rfl,r4⟩:=(L 4 _ c4 rfl rfl).int Try.underlying3
   obtain ⟨x5,rfl,r5⟩:=(L 5 _ c5 rfl rfl).int Try.underlying3
   obtain ⟨x6,rfl,r6⟩:=(L 6 _ c6 rfl rfl).int Try.underlying3
   obtain ⟨x7,rfl,_⟩:=(L 7 _ c7 rfl rfl).int Try.underlying49
   obtain ⟨x8,rfl,_⟩:=(L 8 _ c8 rfl rfl).int Try.underlying3
   exact ⟨⟨x0,x1,x2,x3,x4,x5,x6,x7,x8⟩,rfl,(lit_rng r4).2,(lit_rng r5).2,(lit_rng r6).2⟩)
 rw [bytesCl] at h3
 exact ⟨xs,h1,h4,h2,h3⟩
set_option maxRecDepth 100000 in
theorem open_callsR {base:Nat} {v:Value} {d:DataW H} {p:List MemPlace} (hv:Value.okWide Try.prog w .any base 22 v) (h:DataW.Trod enc Try.prog w 0 (fun _=>true) true 22 v d p) :
  ∃ xs,Arr w Cl.enc 9 v xs∧(∀ c∈xs,ClR c)∧((∀ k∈d.weights Try.prog 22,k≤reachBytes)→xs.length * 72≤140737488351232):=by
 obtain ⟨ba,len,cap,rfl⟩:=okWide_slice Try.underlying22 hv
 obtain ⟨fuel,hf⟩:=h
 obtain ⟨xs,h1,h4,_,h2⟩:=leaf_calls (leaf_of 9 _ _ leavesCs fuel _ _ hf 0 22 _ rfl rfl)
 exact ⟨xs,h1,h4,fun hr=>reach_len hr h2⟩
theorem leavesIn1:leavesIn Try.prog 9 33=some [33]:=by kernel_rfl
theorem cellsI1:Try.prog.cellsOf 3=1:=by kernel_rfl
theorem bytesI1:Try.prog.bytesOf 3=8:=by kernel_rfl
theorem leaf_intsW {b:Nat} {ws:List Nat} {c:Value} (h:LeafAt enc Try.prog w 0 (fun _=>true) true b ws 33 c) :
  ∃ xs:List Int,Arr w eI 1 c xs∧(∀ x∈xs,-9223372036854775808≤x∧x≤9223372036854775807)∧xs.length+1≤b∧(xs=[]∨∃ k∈ws,xs.length * 8≤k):=by
 obtain ⟨xs,h1,h4,h2,h3⟩:=h.slice (α:=Int) Try.underlying33 (by decide) cellsI1 eI (fun x=>-9223372036854775808≤x∧x≤9223372036854775807) (fun m cs y hl ht=>by
  match cs,hl with
  | [c0],_ =>
   have L:=leaf_of 9 _ _ (show leavesIn Try.prog 9 3=some [3] by kernel_rfl) m _ _ ht
   obtain ⟨x0,rfl,r0⟩:=(L 0 _ c0 rfl rfl).int Try.underlying3
   exact ⟨x0,rfl,lit_rng r0⟩)
 rw [bytesI1] at h3
 exact ⟨xs,h1,h4,h2,h3⟩
set_option maxRecDepth 100000 in
theorem open_intsW {base:Nat} {v:Value} {d:DataW H} {p:List MemPlace} (hv:Value.okWide Try.prog w .any base 33 v) (h:DataW.Trod enc Try.prog w 0 (fun _=>true) true 33 v d p) :
  ∃ xs,Arr w eI 1 v xs∧(∀ x∈xs,-9223372036854775808≤x∧x≤9223372036854775807)∧((∀ k∈d.weights Try.prog 33,k≤reachBytes)→xs.length * 8≤140737488351232):=by
 obtain ⟨ba,len,cap,rfl⟩:=okWide_slice Try.underlying33 hv
 obtain ⟨fuel,hf⟩:=h
 obtain ⟨xs,h1,h4,_,h2⟩:=leaf_intsW (leaf_of 9 _ _ leavesIn1 fuel _ _ hf 0 33 _ rfl rfl)
 exact ⟨xs,h1,h4,fun hr=>reach_len hr h2⟩
end
end Go.Proofs.Ytkjeedlkkpgopaa.Z
