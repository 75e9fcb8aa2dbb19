/- TsoOrdersSaid: what its proof is made of. No condition. -/
import Derived.Test.YtmcpdafmkkjlcaaPkTTsoOrdersAP
set_option linter.unusedSimpArgs false
set_option linter.unusedVariables false
namespace Go.Proofs.Ytmcpdafmkkjlcaa.Z
open Go Go.RowKit Go.ChangeShapes Go.WideShapes Go.ChangeAt
theorem own:ownKnob Try.prog.godebug=none:=by kernel_rfl
theorem laidOut:laidOutB Try.prog=true:=by kernel_rfl
section
variable {H:Type} {enc:TypeId×Value→H} {P:Program} {w:World} {base:Nat} {spare:Nat→Bool} {held:Bool}
theorem leaf_sliceW {α:Type} {b:Nat} {ws:List Nat} {u e:TypeId} {c:Value} (hu:P.underlying u=some (.slice e)) {s:Nat} (hpos:0<s) (hc:P.cellsOf e=s) (encA:α→List Value) (Q:α→Prop)
  (helem:∀ (m:Nat) (cs:List Value) (y:DataW H×List MemPlace),cs.length=s→DataW.trod enc P w base spare held m e cs=some y→(∀ k∈y.1.weights P e,k∈ws)→∃ x:α,cs=encA x∧Q x)
  (h:LeafAt enc P w base spare held b ws u c):∃ xs:List α,Arr w encA s c xs∧(∀ x∈xs,Q x)∧xs.length+1≤b∧(xs=[]∨∃ k∈ws,xs.length * P.bytesOf e≤k):=by
 obtain ⟨m,y,h1,hb,hw⟩:=h
 rcases DataW.trod_slice hu h1 with ⟨hcs,rfl⟩ | ⟨a,len,cap,elems,rest,n,_,hcs,rfl,hba,hl,hm,hlen,hel,hsp,hns⟩
 ·simp only [List.cons.injEq,and_true] at hcs
  subst hcs
  refine ⟨[],Arr.nil _ _ _,by simp,?_,Or.inl rfl⟩
  simp only [Rows.uptoBulk] at hb
  simpa using hb
 ·simp only [List.cons.injEq,and_true] at hcs
  subst hcs
  have each:∀ i,i<len→∃ x:α,(∃ cs,w.cells? base (a.add (i * s)) s=some cs∧cs=encA x)∧Q x:=by
   intro i hi
   have h2:=hel i hi
   rw [List.getElem?_eq_getElem (by omega),hc] at h2
   obtain ⟨cs,h3,h4⟩:=Option.bind_eq_some_iff.1 h2
   obtain ⟨x,h5,h6⟩:=helem n cs _ (World.cells?_some h3).2.1 h4 (fun k hk=>hw k (by
    simp only [DataW.weights,hu]
    exact List.mem_cons_of_mem _ (List.mem_append_left _ (weightsAll_mem (List.mem_map.2 ⟨_,List.getElem_mem (by omega),rfl⟩) k hk))))
   exact ⟨x,⟨cs,h3,h5⟩,h6⟩
  obtain ⟨xs,hxl,hx⟩:=choose_list len each
  refine ⟨xs,?_,?_,?_,?_⟩
  ·refine ⟨some a,cap,by rw [hxl],by omega,hm,?_⟩
   by_cases h0:xs=[]
   ·exact Or.inl h0
   ·right
    by_cases hspot:a.spot=none
    ·obtain ⟨ab,ao,sp⟩:=a
     simp only at hspot
     subst hspot
     refine ⟨ab,ao,rfl,fun k x hk j u hj=>?_⟩
     obtain ⟨⟨cs,h3,rfl⟩,_⟩:=hx k x hk
     obtain ⟨_,hlc,hcell⟩:=World.cells?_some h3
     have hjs:j<s:=by rw [← hlc];exact (List.getElem?_eq_some_iff.1 hj).1
     have h4:=hcell j hjs
     rw [hj] at h4
     rw [← h4]
     congr 1
     unfold Addr.add
     split <;> split <;> simp_all
    ·exfalso
     obtain ⟨x0,hx0⟩:∃ x0,xs[0]? = some x0:=by cases xs with | nil=>exact absurd rfl h0 | cons y _=>exact ⟨y,rfl⟩
     obtain ⟨⟨cs,h3,_⟩,_⟩:=hx 0 x0 hx0
     obtain ⟨_,hlc,hcell⟩:=World.cells?_some h3
     have h4:=hcell 0 hpos
     rw [Nat.zero_mul] at h4
     have e:(a.add 0).add 0=a:=by simp [Addr.add]
     rw [e,List.getElem?_eq_getElem (by omega)] at h4
     unfold World.cell? at h4
     split at h4
     ·cases hs:a.spot with
      | none=>exact hspot hs
      | some q=>rw [hs] at h4;simp at h4
     ·cases h4
  ·intro x hx'
   obtain ⟨i,hi⟩:=List.getElem?_of_mem hx'
   exact (hx i x hi).2
  ·have h2:=length_le_bulk (elems.map (·.1))
   simp only [Rows.uptoBulk,List.length_map] at hb h2
   omega
  ·right
   refine ⟨_,hw (((elems.map (·.1)).length+(rest.map (·.1)).length) * P.bytesOf e) ?_,?_⟩
   ·simp only [DataW.weights,hu]
    exact List.mem_cons_self
   ·rw [hxl,List.length_map,hlen]
    exact Nat.mul_le_mul_right _ (by omega)
end
section
variable {H:Type} {enc:TypeId×Value→H} {w:World}
theorem reach_len {α:Type} {x:List α} {s:Nat} {ws:List Nat} (hr:∀ k∈ws,k≤reachBytes) (h:x=[]∨∃ k∈ws,x.length * s≤k):x.length * s≤140737488351232:=by
 rcases h with rfl | ⟨k,hk,h⟩
 ·simp
 ·have:=hr k hk
  unfold reachBytes at this
  omega
theorem lit_rng {n:Int} (h:(Lit.int .i64 n).wf=true) : -9223372036854775808≤n∧n≤9223372036854775807:=by
 simp [Lit.wf,IntKind.min,IntKind.max,IntKind.signed,IntKind.bits] at h
 omega
theorem leavesIs:leavesIn Try.prog 9 83=some [81,3,3,3,3,3,3]:=by kernel_rfl
theorem cellsIs:Try.prog.cellsOf 83=7:=by kernel_rfl
theorem bytesIs:Try.prog.bytesOf 83=56:=by kernel_rfl
theorem leavesLt:leavesIn Try.prog 9 25=some [22,23]:=by kernel_rfl
theorem cellsLt:Try.prog.cellsOf 25=2:=by kernel_rfl
theorem cellsI1:Try.prog.cellsOf 3=1:=by kernel_rfl
theorem bytesI1:Try.prog.bytesOf 3=8:=by kernel_rfl
theorem cellsIl:Try.prog.cellsOf 80=1:=by kernel_rfl
theorem bytesIl:Try.prog.bytesOf 80=24:=by kernel_rfl
theorem leavesIl:leavesIn Try.prog 9 80=some [80]:=by kernel_rfl
theorem leaf_ints {b:Nat} {ws:List Nat} {c:Value} (h:LeafAt enc Try.prog w 0 (fun _=>true) true b ws 22 c) :
  ∃ xs:List Int,Arr w eI 1 c xs∧(xs=[]∨∃ k∈ws,xs.length * 8≤k):=by
 obtain ⟨xs,h1,h4,h2,h3⟩:=h.slice (α:=Int) Try.underlying22 (by decide) cellsI1 eI (fun x=>True) (fun m cs y hl ht=>by
  match cs,hl with
  | [c0],_ =>
   have L:=leaf_of 9 _ _ (show leavesIn Try.prog 9 3=some [3] by kernel_rfl) m _ _ ht
   obtain ⟨x0,rfl,r0⟩:=(L 0 _ c0 rfl rfl).int Try.underlying3
   exact ⟨x0,rfl,trivial⟩)
 rw [bytesI1] at h3
 exact ⟨xs,h1,h3⟩
theorem leaf_code {b:Nat} {ws:List Nat} {c:Value} (h:LeafAt enc Try.prog w 0 (fun _=>true) true b ws 80 c) :
  ∃ xs:List Ins,Arr w Ins.enc 7 c xs∧(∀ c∈xs,InR c)∧(xs=[]∨∃ k∈ws,xs.length * 56≤k):=by
 obtain ⟨xs,h1,h4,h2,h3⟩:=h.slice (α:=Ins) Try.underlying80 (by decide) cellsIs Ins.enc InR (fun m cs y hl ht=>by
  match cs,hl with
  | [c0,c1,c2,c3,c4,c5,c6],_ =>
   have L:=leaf_of 9 _ _ leavesIs m _ _ ht
   obtain ⟨x0,rfl,_⟩:=(L 0 _ c0 rfl rfl).int Try.underlying81
   obtain ⟨x1,rfl,_⟩:=(L 1 _ c1 rfl rfl).int Try.underlying3
   obtain ⟨x2,rfl,_⟩:=(L 2 _ c2 rfl rfl).int Try.underlying3
   obtain ⟨x3,rfl,_⟩:=(L 3 _ c3 rfl rfl).int Try.underlying3
   obtain ⟨x4,rfl,r4⟩:=(L 4 _ c4 rfl rfl).int Try.underlying3
   obtain ⟨x5,rfl,_⟩:=(L 5 _ c5 rfl rfl).int Try.underlying3
   obtain ⟨x6,rfl,_⟩:=(L 6 _ c6 rfl rfl).int Try.underlying3
   exact ⟨⟨x0,x1,x2,x3,x4,x5,x6⟩,rfl,lit_rng r4⟩)
 rw [bytesIs] at h3
 exact ⟨xs,h1,h4,h3⟩
theorem leaf_codes {b:Nat} {ws:List Nat} {c:Value} (h:LeafAt enc Try.prog w 0 (fun _=>true) true b ws 23 c) :
  ∃ ls:List (List Ins),Nest w Ins.enc 7 c ls∧(∀ code∈ls,∀ c∈code,InR c)∧(ls=[]∨∃ k∈ws,ls.length * 24≤k)∧(∀ code∈ls,code=[]∨∃ k∈ws,code.length * 56≤k):=by
 obtain ⟨vs,h1,h4,_,h3⟩:=leaf_sliceW (h:=h) (α:=Value) Try.underlying23 (by decide) cellsIl one1' (fun v=>∃ is:List Ins,Arr w Ins.enc 7 v is∧(∀ c∈is,InR c)∧(is=[]∨∃ k∈ws,is.length * 56≤k)) (fun m cs y hl ht hw=>by
  match cs,hl with
  | [c0],_ =>
   have L:=leaf_of 9 _ _ leavesIl m _ _ ht
   obtain ⟨is,g1,g2,g3⟩:=leaf_code (L 0 _ c0 rfl rfl)
   exact ⟨c0,rfl,is,g1,g2,g3.imp id fun ⟨k,hk,h⟩=>⟨k,hw k hk,h⟩⟩)
 rw [bytesIl] at h3
 obtain ⟨ls,hl,hls⟩:=choose_list (R:=fun i is=>Arr w Ins.enc 7 (vs.getD i nest0) is∧(∀ c∈is,InR c)∧(is=[]∨∃ k∈ws,is.length * 56≤k)) vs.length (fun i hi=>by
  obtain ⟨is,g⟩:=h4 (vs.getD i nest0) (by rw [List.getD_eq_getElem?_getD,List.getElem?_eq_getElem hi];exact List.getElem_mem hi)
  exact ⟨is,g⟩)
 refine ⟨ls,⟨vs,h1,hl.symm,fun k hk=>?_⟩,fun code hc=>?_,?_,fun code hc=>?_⟩
 ·rw [List.getD_eq_getElem?_getD (l:=ls),List.getElem?_eq_getElem hk]
  exact (hls k _ (List.getElem?_eq_getElem hk)).1
 ·obtain ⟨i,hi⟩:=List.getElem?_of_mem hc
  exact (hls i _ hi).2.1
 ·rw [hl]
  refine h3.imp (fun e=>?_) id
  subst e
  exact List.eq_nil_of_length_eq_zero hl
 ·obtain ⟨i,hi⟩:=List.getElem?_of_mem hc
  exact (hls i _ hi).2.2
set_option maxRecDepth 100000 in
theorem open_litmus {base:Nat} {v:Value} {d:DataW H} {p:List MemPlace} (hv:Value.okWide Try.prog w .any base 25 v) (h:DataW.Trod enc Try.prog w 0 (fun _=>true) true 25 v d p) :
  ∃ L,LtR w v L∧LtOk L∧((∀ k∈d.weights Try.prog 25,k≤reachBytes)→LtSz L):=by
 obtain ⟨cs,rfl,hsz⟩:=okWide_struct Try.underlying25 hv
 obtain ⟨l⟩:=cs
 obtain ⟨fuel,hf⟩:=h
 match l,hsz.trans cellsLt with
 | [c0,c1],_ =>
  have L:=leaf_of 9 _ _ leavesLt fuel _ _ hf
  obtain ⟨xs,h1,h2⟩:=leaf_ints (L 0 22 c0 rfl rfl)
  obtain ⟨ls,g1,g2,g3,g4⟩:=leaf_codes (L 1 23 c1 rfl rfl)
  refine ⟨⟨xs,ls⟩,⟨c0,c1,rfl,h1,g1⟩,g2,fun hr=>⟨reach_len hr h2,reach_len hr g3,fun k hk=>?_⟩⟩
  have hm:ls.getD k []∈ls:=by rw [List.getD_eq_getElem?_getD,List.getElem?_eq_getElem hk];exact List.getElem_mem hk
  exact reach_len hr (g4 _ hm)
end
end Go.Proofs.Ytmcpdafmkkjlcaa.Z
