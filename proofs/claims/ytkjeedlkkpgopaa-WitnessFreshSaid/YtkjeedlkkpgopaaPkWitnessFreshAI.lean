/- WitnessFreshSaid: what its proof is made of. No condition. -/
import Derived.Test.YtkjeedlkkpgopaaPkWitnessFreshAH
set_option linter.unusedSimpArgs false
set_option linter.unusedVariables false
namespace Go.Proofs.Ytkjeedlkkpgopaa
open Go.RowKit
def delAt {α:Type} (l:List α) (i:Nat):List α:=l.take i++l.drop (i+1)
theorem delAt_len {α:Type} (l:List α) (i:Nat) (hi:i<l.length):(delAt l i).length=l.length - 1:=by simp [delAt];omega
theorem splice_take {α:Type} (L cs:List α) (o:Nat) (ho:o≤L.length):(splice L o cs).take o=L.take o:=by
 unfold splice
 rw [List.take_append,List.length_take,Nat.min_eq_left ho,Nat.sub_self,List.take_zero,List.append_nil,List.take_take,Nat.min_self]
theorem splice_mid {α:Type} (X W Y:List α) (k:Nat) (hk:X.length=k):(splice (X++W) k Y).take (k+Y.length)=X++Y:=by
 subst hk
 unfold splice
 rw [List.take_left,show X.length+Y.length=(X++Y).length by simp,← List.append_assoc,List.take_left]
set_option maxRecDepth 100000 in
set_option maxHeartbeats 1000000 in
theorem delete_set {w:World} {B i:Nat} {v:Value} {l:List Int} (hi:i<l.length) (hown:OwnE w B 3 eI 1 v l) :
  Calls Try.prog 137 #[v,.int .i64 i,.int .i64 ((i:Int)+1)] w (RetB w B 3 eI 1 (delAt l i)):=by
 rcases hown with ⟨rfl,_⟩ | hown
 ·simp at hi
 obtain ⟨hlen0,⟨rfl,h0⟩ | ⟨g,cap,cur,rfl,hBg,hg,hnc,hcm,hcs,htk⟩⟩:=hown
 ·omega
 obtain ⟨n,hn⟩:∃ n,n=l.length:=⟨_,rfl⟩
 rw [← hn] at hi hnc htk hlen0 ⊢
 have hl:l=l.take i++l[i] :: l.drop (i+1):=by rw [← List.drop_eq_getElem_cons (by omega),List.take_append_drop]
 have hX1:((l.take i).flatMap eI).length=i:=by rw [flat_len eI_ok.len,List.length_take,← hn];omega
 have hX2:((l.drop (i+1)).flatMap eI).length=(n - (i+1)) * 1:=by rw [flat_len eI_ok.len,List.length_drop,← hn]
 have hE:(eI l[i]).length=1:=eI_ok.len _
 have hsplit:l.flatMap eI=(l.take i).flatMap eI++(eI l[i]++(l.drop (i+1)).flatMap eI):=by
  conv=>lhs;rw [hl]
  simp only [List.flatMap_append,List.flatMap_cons]
 obtain ⟨X,eX⟩:∃ X,(l.take i).flatMap eI=X:=⟨_,rfl⟩
 obtain ⟨Y,eY⟩:∃ Y,(l.drop (i+1)).flatMap eI=Y:=⟨_,rfl⟩
 obtain ⟨E,eE⟩:∃ E,eI l[i]=E:=⟨_,rfl⟩
 obtain ⟨S,eS⟩:∃ S,cur.toList.drop (n * 1)=S:=⟨_,rfl⟩
 rw [eX] at hX1
 rw [eY] at hX2
 rw [eE] at hE
 rw [eX,eY,eE] at hsplit
 have hS:S.length=(cap - n) * 1:=by rw [← eS,List.length_drop,Array.length_toList,hcs];omega
 have hcur:cur=(X++(E++(Y++S))).toArray:=by
  have h1:cur.toList=X++(E++(Y++S)):=by rw [← List.append_assoc E,← List.append_assoc X,← hsplit,← htk,← eS,List.take_append_drop]
  rw [← h1]
 subst hcur
 clear hlen0 hcs htk eS hsplit hl
 have hl0:(X++(E++(Y++S))).length=cap * 1:=by simp only [List.length_append,hX1,hX2,hE,hS];omega
 have h1Y:∀ v∈Y,v.oneCell' = true:=fun v hv=>by rw [← eY] at hv;obtain ⟨y,_,h⟩:=List.mem_flatMap.1 hv;exact eI_ok.one y v h
 have hg0:w.drew.heap[g]? = some (.cells (X++(E++(Y++S))).toArray 3 (0,0)):=hg
 have hsrcY:∀ j v,Y[j]? = some v→w.drew.cell? ((⟨g,i+1,none⟩:Addr).add j)=some v:=fun j v hv=>by
  have ea:(⟨g,i+1,none⟩:Addr).add j=⟨g,i+1+j,none⟩:=by unfold Addr.add;split <;> simp_all
  rw [ea,cell_of_row w.drew g (i+1+j) _ _ (0,0) hg0]
  rw [List.getElem?_toArray,List.getElem?_append_right (by rw [hX1];omega),hX1,show i+1+j - i=1+j by omega,List.getElem?_append_right (by rw [hE];omega),hE,show 1+j - 1=j by omega,List.getElem?_append_left (List.getElem?_eq_some_iff.1 hv).1]
  exact hv
 have hnY:Y.length=(n - (i+1)) * 1:=hX2
 have hroom:i+(n - (i+1))≤cap:=by omega
 have hfY:0+i * 1+Y.length≤(X++(E++(Y++S))).length:=by rw [hl0,hX2];omega
 have hl1:(splice (X++(E++(Y++S))) (i) Y).length=(X++(E++(Y++S))).length:=length_splice _ _ _ (by rw [hl0,hX2];omega)
 have hg1:=setRow_heap w.drew g _ (splice (X++(E++(Y++S))) (i) Y).toArray 3 (0,0) hg0
 have hfz:n - 1+1 * 1≤(splice (X++(E++(Y++S))) (i) Y).length:=by rw [hl1,hl0];omega
 have htake:(splice (X++(E++(Y++S))) (i) Y).take ((n - 1) * 1)=(delAt l i).flatMap eI:=by
  have:=splice_mid X (E++(Y++S)) Y (i) hX1
  rw [show (n - 1) * 1=i+Y.length by rw [hX2];omega,this]
  simp only [delAt,List.flatMap_append,eX,eY]
 have hdl:(delAt l i).length=n - 1:=by rw [delAt_len l i (by omega),hn]
 have hret:∀ cs:List Value,cs.length=1 * 1→OwnE ((w.drew.setRow g (splice (X++(E++(Y++S))) (i) Y).toArray).setRow g (splice (splice (X++(E++(Y++S))) (i) Y) (n - 1) cs).toArray) B 3 eI 1 (.slice (some ⟨g,0,none⟩) (n - 1) cap) (delAt l i):=by
  intro cs hc
  refine Or.inr ⟨flat_len eI_ok.len _,Or.inr ⟨g,cap,_,by rw [hdl],hBg,setRow_heap _ g _ _ 3 (0,0) hg1,by rw [hdl];omega,hcm,?_,?_⟩⟩
  ·rw [List.size_toArray,length_splice _ _ _ (by rw [hc];exact hfz),hl1,hl0]
  ·rw [hdl,← htake,List.toList_toArray]
   rw [show (n - 1) * 1=n - 1 by omega]
   exact splice_take _ _ _ (by rw [hl1,hl0];omega)
 have hbel:∀ cs:List Value,Below B w ((w.drew.setRow g (splice (X++(E++(Y++S))) (i) Y).toArray).setRow g (splice (splice (X++(E++(Y++S))) (i) Y) (n - 1) cs).toArray) :=
  fun cs=>below_setRow' (below_setRow' (Below.refl _ _).drew hBg _) hBg _
 have hne:((i:Int) == (i:Int)+1)=false:=by rw [beq_eq_false_iff_ne];omega
 have hi1:(i:Int)+1≤(n:Int):=by omega
 have hi0:(i:Int)≤(i:Int)+1:=by omega
 have hi2:(0:Int)≤(i:Int)+1:=by omega
 have hi3:((i:Int)+1).toNat=i+1:=by omega
 have hi4:(i:Int)≤(cap:Int):=by omega
 have hi5:(n:Int)≤(cap:Int):=by omega
 have hnb:cap≤9223372036854775807:=by unfold maxLen at hcm;omega
 have ei:i+(n - (i+1))=n - 1:=by omega
 have hk0:¬ n=i:=by omega
 have hk1:¬ cap=0:=by omega
 have hk2:¬ cap=n - 1:=by omega
 have hk3:n - (n - 1)=1:=by omega
 have hk4:((n - 1:Nat):Int)≤(n:Int):=by omega
 have HRM:=Lib.hid hroom
 have HG0:=Lib.hid hg0
 have HG1:=Lib.hid hg1
 have HNY:=Lib.hid hnY
 have HSY:=Lib.hid hsrcY
 have HFY:=Lib.hid hfY
 have H1Y:=Lib.hid h1Y
 have HFZ:=Lib.hid hfz
 have HRET:=Lib.hid hret
 have HBEL:=Lib.hid hbel
 have EI:=Lib.hid ei
 clear hg hg0 hg1 hnY hsrcY hfY h1Y hfz hret hbel hl0 hl1 htake hdl hX1 hX2 hE hS eX eY eE hn hBg hroom ei
 by_cases hcp:cap=i+1
 ·have HSY0:Hid (∀ j v,Y[j]? = some v→w.drew.cell? ((⟨g,0,none⟩:Addr).add j)=some v):=fun j v hv=>by
   have h:=(List.getElem?_eq_some_iff.1 hv).1
   have:=HNY.out
   omega
  clear HSY;have HSY:=HSY0;clear HSY0
  subst hcp
  have hn1:n=i+1:=by omega
  subst hn1
  have HNY0:Hid (Y.length=0 * 1):=HNY.out.trans (by omega)
  have HRM0:Hid (i+0≤i+1):=by show _≤_;omega
  go_enter Try.func137,Try.ntmps137
  go_upto_region 5 with (fail)
  go_region_law (refine step_append_rowS (off:=0) (n:=i) (cap:=i+1) (ad:=⟨g,0,none⟩) (m:=0) (c:=0) rfl (.tmp 22) (.tmp 25) 150 rfl zI Try.underlying150 (by simp [Act.eval,Act.put]) (by simp [Act.eval,Act.put]) HG0.out Y HNY0.out HRM0.out HSY.out HFY.out H1Y.out ?_;intro W3 e3;subst e3)
  rw [EI.out] at *
  generalize w.drew.setRow g (splice (X++(E++(Y++S))) (i) Y).toArray=W2 at *
  go_wp2_with (refine wpList_clear_rowS rfl (.tmp 31) 150 rfl zI Try.underlying150 rfl HG1.out (by simp) HFZ.out ?_;intro W3 cs hcs e3;subst e3;have HCS:=Lib.hid hcs;clear hcs)
  go_ret
  exact ⟨_,rfl,HRET.out cs HCS.out,HBEL.out cs⟩
 ·skip
  go_enter Try.func137,Try.ntmps137
  go_upto_region 5 with (fail)
  go_region_law (refine step_append_rowS (off:=0) (n:=i) (cap:=cap) (ad:=⟨g,i+1,none⟩) (m:=n - (i+1)) (c:=cap - (i+1)) rfl (.tmp 22) (.tmp 25) 150 rfl zI Try.underlying150 (by simp [Act.eval,Act.put]) (by simp [Act.eval,Act.put]) HG0.out Y HNY.out HRM.out HSY.out HFY.out H1Y.out ?_;intro W3 e3;subst e3)
  rw [EI.out] at *
  generalize w.drew.setRow g (splice (X++(E++(Y++S))) (i) Y).toArray=W2 at *
  go_wp2_with (refine wpList_clear_rowS rfl (.tmp 31) 150 rfl zI Try.underlying150 rfl HG1.out (by simp) HFZ.out ?_;intro W3 cs hcs e3;subst e3;have HCS:=Lib.hid hcs;clear hcs)
  go_ret
  exact ⟨_,rfl,HRET.out cs HCS.out,HBEL.out cs⟩
set_option maxRecDepth 100000 in
set_option maxHeartbeats 1000000 in
theorem delete_table {w:World} {B i:Nat} {v:Value} {l:List (Int×Int)} (hi:i<l.length) (hown:OwnE w B 98 eP 2 v l) :
  Calls Try.prog 151 #[v,.int .i64 i,.int .i64 ((i:Int)+1)] w (RetB w B 98 eP 2 (delAt l i)):=by
 rcases hown with ⟨rfl,_⟩ | hown
 ·simp at hi
 obtain ⟨hlen0,⟨rfl,h0⟩ | ⟨g,cap,cur,rfl,hBg,hg,hnc,hcm,hcs,htk⟩⟩:=hown
 ·omega
 obtain ⟨n,hn⟩:∃ n,n=l.length:=⟨_,rfl⟩
 rw [← hn] at hi hnc htk hlen0 ⊢
 have hl:l=l.take i++l[i] :: l.drop (i+1):=by rw [← List.drop_eq_getElem_cons (by omega),List.take_append_drop]
 have hX1:((l.take i).flatMap eP).length=i * 2:=by rw [flat_len eP_ok.len,List.length_take,← hn];omega
 have hX2:((l.drop (i+1)).flatMap eP).length=(n - (i+1)) * 2:=by rw [flat_len eP_ok.len,List.length_drop,← hn]
 have hE:(eP l[i]).length=2:=eP_ok.len _
 have hsplit:l.flatMap eP=(l.take i).flatMap eP++(eP l[i]++(l.drop (i+1)).flatMap eP):=by
  conv=>lhs;rw [hl]
  simp only [List.flatMap_append,List.flatMap_cons]
 obtain ⟨X,eX⟩:∃ X,(l.take i).flatMap eP=X:=⟨_,rfl⟩
 obtain ⟨Y,eY⟩:∃ Y,(l.drop (i+1)).flatMap eP=Y:=⟨_,rfl⟩
 obtain ⟨E,eE⟩:∃ E,eP l[i]=E:=⟨_,rfl⟩
 obtain ⟨S,eS⟩:∃ S,cur.toList.drop (n * 2)=S:=⟨_,rfl⟩
 rw [eX] at hX1
 rw [eY] at hX2
 rw [eE] at hE
 rw [eX,eY,eE] at hsplit
 have hS:S.length=(cap - n) * 2:=by rw [← eS,List.length_drop,Array.length_toList,hcs];omega
 have hcur:cur=(X++(E++(Y++S))).toArray:=by
  have h1:cur.toList=X++(E++(Y++S)):=by rw [← List.append_assoc E,← List.append_assoc X,← hsplit,← htk,← eS,List.take_append_drop]
  rw [← h1]
 subst hcur
 clear hlen0 hcs htk eS hsplit hl
 have hl0:(X++(E++(Y++S))).length=cap * 2:=by simp only [List.length_append,hX1,hX2,hE,hS];omega
 have h1Y:∀ v∈Y,v.oneCell' = true:=fun v hv=>by rw [← eY] at hv;obtain ⟨y,_,h⟩:=List.mem_flatMap.1 hv;exact eP_ok.one y v h
 have hg0:w.drew.heap[g]? = some (.cells (X++(E++(Y++S))).toArray 98 (0,0)):=hg
 have hsrcY:∀ j v,Y[j]? = some v→w.drew.cell? ((⟨g,(i+1) * 2,none⟩:Addr).add j)=some v:=fun j v hv=>by
  have ea:(⟨g,(i+1) * 2,none⟩:Addr).add j=⟨g,(i+1) * 2+j,none⟩:=by unfold Addr.add;split <;> simp_all
  rw [ea,cell_of_row w.drew g ((i+1) * 2+j) _ _ (0,0) hg0]
  rw [List.getElem?_toArray,List.getElem?_append_right (by rw [hX1];omega),hX1,show (i+1) * 2+j - i * 2=2+j by omega,List.getElem?_append_right (by rw [hE];omega),hE,show 2+j - 2=j by omega,List.getElem?_append_left (List.getElem?_eq_some_iff.1 hv).1]
  exact hv
 have hnY:Y.length=(n - (i+1)) * 2:=hX2
 have hroom:i+(n - (i+1))≤cap:=by omega
 have hfY:0+i * 2+Y.length≤(X++(E++(Y++S))).length:=by rw [hl0,hX2];omega
 have hl1:(splice (X++(E++(Y++S))) (i * 2) Y).length=(X++(E++(Y++S))).length:=length_splice _ _ _ (by rw [hl0,hX2];omega)
 have hg1:=setRow_heap w.drew g _ (splice (X++(E++(Y++S))) (i * 2) Y).toArray 98 (0,0) hg0
 have hfz:(n - 1) * 2+1 * 2≤(splice (X++(E++(Y++S))) (i * 2) Y).length:=by rw [hl1,hl0];omega
 have htake:(splice (X++(E++(Y++S))) (i * 2) Y).take ((n - 1) * 2)=(delAt l i).flatMap eP:=by
  have:=splice_mid X (E++(Y++S)) Y (i * 2) hX1
  rw [show (n - 1) * 2=i * 2+Y.length by rw [hX2];omega,this]
  simp only [delAt,List.flatMap_append,eX,eY]
 have hdl:(delAt l i).length=n - 1:=by rw [delAt_len l i (by omega),hn]
 have hret:∀ cs:List Value,cs.length=1 * 2→OwnE ((w.drew.setRow g (splice (X++(E++(Y++S))) (i * 2) Y).toArray).setRow g (splice (splice (X++(E++(Y++S))) (i * 2) Y) ((n - 1) * 2) cs).toArray) B 98 eP 2 (.slice (some ⟨g,0,none⟩) (n - 1) cap) (delAt l i):=by
  intro cs hc
  refine Or.inr ⟨flat_len eP_ok.len _,Or.inr ⟨g,cap,_,by rw [hdl],hBg,setRow_heap _ g _ _ 98 (0,0) hg1,by rw [hdl];omega,hcm,?_,?_⟩⟩
  ·rw [List.size_toArray,length_splice _ _ _ (by rw [hc];exact hfz),hl1,hl0]
  ·rw [hdl,← htake,List.toList_toArray]
   rw [show (n - 1) * 2=(n - 1) * 2 by omega]
   exact splice_take _ _ _ (by rw [hl1,hl0];omega)
 have hbel:∀ cs:List Value,Below B w ((w.drew.setRow g (splice (X++(E++(Y++S))) (i * 2) Y).toArray).setRow g (splice (splice (X++(E++(Y++S))) (i * 2) Y) ((n - 1) * 2) cs).toArray) :=
  fun cs=>below_setRow' (below_setRow' (Below.refl _ _).drew hBg _) hBg _
 have hne:((i:Int) == (i:Int)+1)=false:=by rw [beq_eq_false_iff_ne];omega
 have hi1:(i:Int)+1≤(n:Int):=by omega
 have hi0:(i:Int)≤(i:Int)+1:=by omega
 have hi2:(0:Int)≤(i:Int)+1:=by omega
 have hi3:((i:Int)+1).toNat=i+1:=by omega
 have hi4:(i:Int)≤(cap:Int):=by omega
 have hi5:(n:Int)≤(cap:Int):=by omega
 have hnb:cap≤9223372036854775807:=by unfold maxLen at hcm;omega
 have ei:i+(n - (i+1))=n - 1:=by omega
 have hk0:¬ n=i:=by omega
 have hk1:¬ cap=0:=by omega
 have hk2:¬ cap=n - 1:=by omega
 have hk3:n - (n - 1)=1:=by omega
 have hk4:((n - 1:Nat):Int)≤(n:Int):=by omega
 have HRM:=Lib.hid hroom
 have HG0:=Lib.hid hg0
 have HG1:=Lib.hid hg1
 have HNY:=Lib.hid hnY
 have HSY:=Lib.hid hsrcY
 have HFY:=Lib.hid hfY
 have H1Y:=Lib.hid h1Y
 have HFZ:=Lib.hid hfz
 have HRET:=Lib.hid hret
 have HBEL:=Lib.hid hbel
 have EI:=Lib.hid ei
 clear hg hg0 hg1 hnY hsrcY hfY h1Y hfz hret hbel hl0 hl1 htake hdl hX1 hX2 hE hS eX eY eE hn hBg hroom ei
 by_cases hcp:cap=i+1
 ·have HSY0:Hid (∀ j v,Y[j]? = some v→w.drew.cell? ((⟨g,0,none⟩:Addr).add j)=some v):=fun j v hv=>by
   have h:=(List.getElem?_eq_some_iff.1 hv).1
   have:=HNY.out
   omega
  clear HSY;have HSY:=HSY0;clear HSY0
  subst hcp
  have hn1:n=i+1:=by omega
  subst hn1
  have HNY0:Hid (Y.length=0 * 2):=HNY.out.trans (by omega)
  have HRM0:Hid (i+0≤i+1):=by show _≤_;omega
  go_enter Try.func151,Try.ntmps151
  go_upto_region 5 with (fail)
  go_region_law (refine step_append_rowS (off:=0) (n:=i) (cap:=i+1) (ad:=⟨g,0,none⟩) (m:=0) (c:=0) rfl (.tmp 22) (.tmp 25) 151 rfl zP Try.underlying151 (by simp [Act.eval,Act.put]) (by simp [Act.eval,Act.put]) HG0.out Y HNY0.out HRM0.out HSY.out HFY.out H1Y.out ?_;intro W3 e3;subst e3)
  rw [EI.out] at *
  generalize w.drew.setRow g (splice (X++(E++(Y++S))) (i * 2) Y).toArray=W2 at *
  go_wp2_with (refine wpList_clear_rowS rfl (.tmp 31) 151 rfl zP Try.underlying151 rfl HG1.out (by simp) HFZ.out ?_;intro W3 cs hcs e3;subst e3;have HCS:=Lib.hid hcs;clear hcs)
  go_ret
  exact ⟨_,rfl,HRET.out cs HCS.out,HBEL.out cs⟩
 ·skip
  go_enter Try.func151,Try.ntmps151
  go_upto_region 5 with (fail)
  go_region_law (refine step_append_rowS (off:=0) (n:=i) (cap:=cap) (ad:=⟨g,(i+1) * 2,none⟩) (m:=n - (i+1)) (c:=cap - (i+1)) rfl (.tmp 22) (.tmp 25) 151 rfl zP Try.underlying151 (by simp [Act.eval,Act.put]) (by simp [Act.eval,Act.put]) HG0.out Y HNY.out HRM.out HSY.out HFY.out H1Y.out ?_;intro W3 e3;subst e3)
  rw [EI.out] at *
  generalize w.drew.setRow g (splice (X++(E++(Y++S))) (i * 2) Y).toArray=W2 at *
  go_wp2_with (refine wpList_clear_rowS rfl (.tmp 31) 151 rfl zP Try.underlying151 rfl HG1.out (by simp) HFZ.out ?_;intro W3 cs hcs e3;subst e3;have HCS:=Lib.hid hcs;clear hcs)
  go_ret
  exact ⟨_,rfl,HRET.out cs HCS.out,HBEL.out cs⟩
end Go.Proofs.Ytkjeedlkkpgopaa
namespace Go.Proofs.Ytkjeedlkkpgopaa
open Go.RowKit
structure Pos (l:List Int) (k:Int) (i:Nat):Prop where
 le:i≤l.length
 lo:∀ j x,l[j]? = some x→j<i→x<k
 hi:∀ j x,l[j]? = some x→i≤j→k≤x
theorem inc_lt {l:List Int} (h:incB l=true):∀ (a b:Nat) (x y:Int),a<b→l[a]? = some x→l[b]? = some y→x<y:=by
 intro a b
 induction b with
 | zero=>intro x y hab;omega
 | succ b ih =>
  intro x y hab hx hy
  have hl:b<l.length:=by have:=(List.getElem?_eq_some_iff.1 hy).1;omega
  have hz:l[b]? = some l[b]:=List.getElem?_eq_getElem hl
  have h1:=(incB_iff l).1 h b _ _ hz hy
  by_cases e:a=b
  ·subst e;rw [hz] at hx;cases hx;exact h1
  ·have:=ih x _ (by omega) hx hz;omega
theorem cmpIsNaN (x:Int) (w:World):Calls Try.prog 142 #[.int .i64 x] w fun e w'=>e = .returned (.bool false)∧w' = w:=by
 go_enter Try.func142,Try.ntmps142
 go_wp2
 go_ret
 exact ⟨by simp,rfl⟩
theorem slicesIsNaN (x:Int) (w:World):Calls Try.prog 139 #[.int .i64 x] w fun e w'=>e = .returned (.bool false)∧w' = w:=by
 go_enter Try.func139,Try.ntmps139
 go_wp2
 go_ret
 exact ⟨by simp,rfl⟩
theorem cmpLess (x y:Int) (w:World):Calls Try.prog 138 #[.int .i64 x,.int .i64 y] w fun e w'=>e = .returned (.bool (decide (x<y)))∧w' = w:=by
 go_enter Try.func138,Try.ntmps138
 go_wp2_with (go_at_call 142;refine (cmpIsNaN _ _).mono ?_;rintro e w' ⟨rfl,rfl⟩)
 go_ret
 exact ⟨rfl,rfl⟩
def RetS (W:World) (l:List Int) (k:Int) (r:Ending) (w' : World):Prop:=∃ i:Nat,r = .returned (.tuple #[.int .i64 i,.bool (decide (l[i]? = some k))])∧Pos l k i∧Below W.heap.size W w'
set_option maxRecDepth 100000 in
set_option maxHeartbeats 4000000 in
theorem search_set {v:Value} {l:List Int} {k:Int} {w:World} (h:Arr w eI 1 v l) (hinc:incB l=true) (hl:l.length<4611686018427387904) :
  Calls Try.prog 133 #[v,.int .i64 k] w (RetS w l k):=by
 obtain ⟨ba,cap,rfl,hlc,hcm,g⟩:=h.at1
 have S:=Lib.hid (inc_lt hinc)
 have G:=Lib.hid g
 clear g hinc h
 obtain ⟨n,hn⟩:∃ n,n=l.length:=⟨_,rfl⟩
 rw [← hn] at hl hlc ⊢
 have HN:=Lib.hid hn;clear hn
 go_enter Try.func133,Try.ntmps133
 go_wp2
 go_loopg [7,8] n (fun g s7 s8 wr=>∃ lo hi:Nat,s7 = .int .i64 lo∧s8 = .int .i64 hi∧lo≤hi∧hi≤n∧hi - lo≤g∧Hid (Below w.heap.size w wr)∧Hid ((∀ j x,l[j]? = some x→j<lo→x<k)∧(∀ j x,l[j]? = some x→hi≤j→k≤x)))
 case atStart=>exact ⟨0,n,rfl,rfl,Nat.zero_le _,Nat.le_refl _,by omega,Below.refl _ _,(⟨fun j x _ hj=>by omega,fun j x hx hj=>by have:=(List.getElem?_eq_some_iff.1 hx).1;have:=HN.out;omega⟩:_∧_)⟩
 case round =>
  obtain ⟨lo,hi,rfl,rfl,hlh,hin,hg,hb,I⟩:=hrel
  by_cases hlt:lo<hi
  ·obtain ⟨y,hy⟩:∃ y,l[(lo+hi) / 2]? = some y:=⟨_,List.getElem?_eq_getElem (by rw [← HN.out];omega)⟩
   obtain ⟨b1,o1,rfl,hb1,c1⟩:=G.out _ y hy
   have d1:=(hb.out.cell (by exact hb1)).trans c1
   clear c1 hb1
   have Y:=Lib.hid hy;clear hy
   by_cases hyx:y<k
   ·go_wp2_with (first | (go_at_call 138;refine (cmpLess _ _ _).mono ?_;rintro e w' ⟨rfl,rfl⟩) | (go_at_call 139;refine (slicesIsNaN _ _).mono ?_;rintro e w' ⟨rfl,rfl⟩))
    go_roundg (hi - ((lo+hi) / 2+1))
    case measure=>omega
    case rel =>
     refine ⟨(lo+hi) / 2+1,hi,by rw [show ((lo:Int)+(hi:Int)) / 2+1=(((lo+hi) / 2+1:Nat):Int) by omega],rfl,by omega,hin,Nat.le_refl _,?_,(⟨fun j x hx hj=>?_,I.out.2⟩:_∧_)⟩
     ·exact hb
     ·by_cases e:j=(lo+hi) / 2
      ·subst e;rw [Y.out] at hx;cases hx;exact hyx
      ·have:=S.out j ((lo+hi) / 2) x y (by omega) hx Y.out;omega
   ·go_wp2_with (first | (go_at_call 138;refine (cmpLess _ _ _).mono ?_;rintro e w' ⟨rfl,rfl⟩) | (go_at_call 139;refine (slicesIsNaN _ _).mono ?_;rintro e w' ⟨rfl,rfl⟩))
    go_roundg ((lo+hi) / 2 - lo)
    case measure=>omega
    case rel =>
     refine ⟨lo,(lo+hi) / 2,rfl,by rw [show ((lo:Int)+(hi:Int)) / 2=(((lo+hi) / 2:Nat):Int) by omega],by omega,by omega,Nat.le_refl _,?_,(⟨I.out.1,fun j x hx hj=>?_⟩:_∧_)⟩
     ·exact hb
     ·by_cases e:j=(lo+hi) / 2
      ·subst e;rw [Y.out] at hx;cases hx;omega
      ·have:=S.out ((lo+hi) / 2) j y x (by omega) Y.out hx;omega
  ·obtain rfl:hi=lo:=by omega
   have P0:Hid (Pos l k hi):=(⟨by rw [← HN.out];exact hin,I.out.1,I.out.2⟩:Pos l k hi)
   clear I S
   by_cases hn:hi<n
   ·obtain ⟨y,hy⟩:∃ y,l[hi]? = some y:=⟨_,List.getElem?_eq_getElem (by rw [← HN.out];exact hn)⟩
    obtain ⟨b1,o1,rfl,hb1,c1⟩:=G.out _ y hy
    have d1:=(hb.out.cell (by exact hb1)).trans c1
    clear c1 hb1
    have Y:=Lib.hid hy;clear hy
    by_cases hyx:y=k
    ·go_wp2_with (first | (go_at_call 138;refine (cmpLess _ _ _).mono ?_;rintro e w' ⟨rfl,rfl⟩) | (go_at_call 139;refine (slicesIsNaN _ _).mono ?_;rintro e w' ⟨rfl,rfl⟩))
     go_ret2
     exact ⟨hi,by rw [Y.out,decide_eq_true (congrArg some hyx)];first | rfl | simp [*],P0.out,by first | exact hb.out | exact hb.out.drew | exact below_drewN hb.out _⟩
    ·go_wp2_with (first | (go_at_call 138;refine (cmpLess _ _ _).mono ?_;rintro e w' ⟨rfl,rfl⟩) | (go_at_call 139;refine (slicesIsNaN _ _).mono ?_;rintro e w' ⟨rfl,rfl⟩))
     go_ret2
     exact ⟨hi,by rw [Y.out,decide_eq_false (fun h=>hyx (Option.some.inj h))];first | rfl | simp [*],P0.out,by first | exact hb.out | exact hb.out.drew | exact below_drewN hb.out _⟩
   ·have hnone:l[hi]? = none:=List.getElem?_eq_none (by rw [← HN.out];omega)
    have Y:=Lib.hid hnone;clear hnone
    go_wp2_with (first | (go_at_call 138;refine (cmpLess _ _ _).mono ?_;rintro e w' ⟨rfl,rfl⟩) | (go_at_call 139;refine (slicesIsNaN _ _).mono ?_;rintro e w' ⟨rfl,rfl⟩))
    go_ret2
    exact ⟨hi,by rw [Y.out];first | rfl | simp [*],P0.out,by first | exact hb.out | exact hb.out.drew | exact below_drewN hb.out _⟩
def cmpP (p:Int×Int) (k:Int):Int:=if p.1<k then -1 else if p.1>k then 1 else 0
theorem find1 (p:Int×Int) (k:Int) (w:World):Calls Try.prog 153 #[.agg #[.int .i64 p.1,.int .i64 p.2],.int .i64 k] w fun e w'=>e = .returned (.int .i64 (cmpP p k))∧Below w.heap.size w w':=by
 obtain ⟨a,b⟩:=p
 have E:Hid ((a<k→cmpP (a,b) k = -1)∧(¬ a<k→a>k→cmpP (a,b) k=1)∧(¬ a<k→¬ a>k→cmpP (a,b) k=0)) :=
  (⟨fun h=>by simp [cmpP,h],fun h h2=>by simp only [cmpP];rw [if_neg h,if_pos h2],fun h h2=>by simp only [cmpP];rw [if_neg h,if_neg h2]⟩:_∧_∧_)
 by_cases h1:a<k
 ·go_enter Try.func153,Try.ntmps153
  go_wp2
  go_ret
  exact ⟨by rw [E.out.1 h1];rfl,below_box _ _⟩
 ·by_cases h2:a>k
  ·go_enter Try.func153,Try.ntmps153
   go_wp2
   go_ret
   exact ⟨by rw [E.out.2.1 (by omega) (by omega)];rfl,below_box _ _⟩
  ·go_enter Try.func153,Try.ntmps153
   go_wp2
   go_ret
   exact ⟨by rw [E.out.2.2 (by omega) (by omega)];rfl,below_box _ _⟩
def keys (l:List (Int×Int)):List Int:=l.map (·.1)
theorem keys_at {l:List (Int×Int)} {j:Nat} {p:Int×Int} (h:l[j]? = some p):(keys l)[j]? = some p.1:=by simp [keys,h]
set_option maxRecDepth 100000 in
set_option maxHeartbeats 4000000 in
theorem search_table {v:Value} {l:List (Int×Int)} {k:Int} {w:World} (h:Arr w eP 2 v l) (hinc:incB (keys l)=true) (hl:l.length<4611686018427387904) :
  Calls Try.prog 152 #[v,.int .i64 k,.func (.func 153) #[] #[]] w (RetS w (keys l) k):=by
 obtain ⟨ba,cap,rfl,hlc,hcm,g⟩:=h.at2
 have S:=Lib.hid (inc_lt hinc)
 have G:=Lib.hid g
 clear g hinc h
 obtain ⟨n,hn⟩:∃ n,n=l.length:=⟨_,rfl⟩
 rw [← hn] at hl hlc ⊢
 have HK:Hid ((keys l).length=n):=by show _=_;rw [hn];simp [keys]
 have HN:=Lib.hid hn;clear hn
 go_enter Try.func152,Try.ntmps152
 go_wp2
 go_loopg [9,10] n (fun g s9 s10 wr=>∃ lo hi:Nat,s9 = .int .i64 lo∧s10 = .int .i64 hi∧lo≤hi∧hi≤n∧hi - lo≤g∧Hid (Below w.heap.size w wr)∧Hid ((∀ j x,(keys l)[j]? = some x→j<lo→x<k)∧(∀ j x,(keys l)[j]? = some x→hi≤j→k≤x)))
 case atStart=>exact ⟨0,n,rfl,rfl,Nat.zero_le _,Nat.le_refl _,by omega,Below.refl _ _,(⟨fun j x _ hj=>by omega,fun j x hx hj=>by have:=(List.getElem?_eq_some_iff.1 hx).1;have:=HK.out;omega⟩:_∧_)⟩
 case round =>
  obtain ⟨lo,hi,rfl,rfl,hlh,hin,hg,hb,I⟩:=hrel
  by_cases hlt:lo<hi
  ·obtain ⟨y,hy⟩:∃ y,l[(lo+hi) / 2]? = some y:=⟨_,List.getElem?_eq_getElem (by rw [← HN.out];omega)⟩
   obtain ⟨b1,o1,rfl,hb1,c1,c2⟩:=G.out _ y hy
   have d1:=(hb.out.cell (by exact hb1)).trans c1
   have d2:=(hb.out.cell (by exact hb1)).trans c2
   clear c1 c2 hb1
   have Y:=Lib.hid (keys_at hy);clear hy
   by_cases hyx:y.1<k
   ·have hc:cmpP y k = -1:=by simp [cmpP,hyx]
    have C:Hid (∀ wx,Calls Try.prog 153 #[.agg #[.int .i64 y.1,.int .i64 y.2],.int .i64 k] wx fun e w'=>e = .returned (.int .i64 (-1))∧Below wx.heap.size wx w'):=fun wx=>by rw [← hc];exact find1 y k wx
    clear hc
    go_wp2_with (go_at_call 153;(with_reducible refine (C.out _).mono ?_);rintro e w' ⟨rfl,hb2⟩;have hb3:=Lib.hid (hb.out.trans (hb2.mono hb.out.size));clear hb hb2)
    go_roundg (hi - ((lo+hi) / 2+1))
    case measure=>omega
    case rel =>
     refine ⟨(lo+hi) / 2+1,hi,by rw [show ((lo:Int)+(hi:Int)) / 2+1=(((lo+hi) / 2+1:Nat):Int) by omega],rfl,by omega,hin,Nat.le_refl _,?_,(⟨fun j x hx hj=>?_,I.out.2⟩:_∧_)⟩
     ·exact hb3
     ·by_cases e:j=(lo+hi) / 2
      ·subst e;rw [Y.out] at hx;cases hx;exact hyx
      ·have:=S.out j ((lo+hi) / 2) x y.1 (by omega) hx Y.out;omega
   ·obtain ⟨c,hc,hc0⟩:∃ c,cmpP y k=c∧¬ c<0:=⟨_,rfl,by simp only [cmpP,hyx,if_false];split <;> omega⟩
    have C:Hid (∀ wx,Calls Try.prog 153 #[.agg #[.int .i64 y.1,.int .i64 y.2],.int .i64 k] wx fun e w'=>e = .returned (.int .i64 c)∧Below wx.heap.size wx w'):=fun wx=>by rw [← hc];exact find1 y k wx
    clear hc
    go_wp2_with (go_at_call 153;(with_reducible refine (C.out _).mono ?_);rintro e w' ⟨rfl,hb2⟩;have hb3:=Lib.hid (hb.out.trans (hb2.mono hb.out.size));clear hb hb2)
    go_roundg ((lo+hi) / 2 - lo)
    case measure=>omega
    case rel =>
     refine ⟨lo,(lo+hi) / 2,rfl,by rw [show ((lo:Int)+(hi:Int)) / 2=(((lo+hi) / 2:Nat):Int) by omega],by omega,by omega,Nat.le_refl _,?_,(⟨I.out.1,fun j x hx hj=>?_⟩:_∧_)⟩
     ·exact hb3
     ·by_cases e:j=(lo+hi) / 2
      ·subst e;rw [Y.out] at hx;cases hx;omega
      ·have:=S.out ((lo+hi) / 2) j y.1 x (by omega) Y.out hx;omega
  ·obtain rfl:hi=lo:=by omega
   have P0:Hid (Pos (keys l) k hi):=(⟨by rw [HK.out];exact hin,I.out.1,I.out.2⟩:Pos (keys l) k hi)
   clear I S
   by_cases hn:hi<n
   ·obtain ⟨y,hy⟩:∃ y,l[hi]? = some y:=⟨_,List.getElem?_eq_getElem (by rw [← HN.out];exact hn)⟩
    obtain ⟨b1,o1,rfl,hb1,c1,c2⟩:=G.out _ y hy
    have d1:=(hb.out.cell (by exact hb1)).trans c1
    have d2:=(hb.out.cell (by exact hb1)).trans c2
    clear c1 c2 hb1
    have Y:=Lib.hid (keys_at hy);clear hy
    obtain ⟨c,hc⟩:∃ c,cmpP y k=c:=⟨_,rfl⟩
    have hck:Hid ((c == 0)=decide (some y.1=some k)):=by
     show _=_
     rw [← hc,Bool.eq_iff_iff,beq_iff_eq,decide_eq_true_iff,Option.some.injEq]
     simp only [cmpP]
     split
     ·constructor <;> intro <;> omega
     ·split <;> constructor <;> intro <;> omega
    have C:Hid (∀ wx,Calls Try.prog 153 #[.agg #[.int .i64 y.1,.int .i64 y.2],.int .i64 k] wx fun e w'=>e = .returned (.int .i64 c)∧Below wx.heap.size wx w'):=fun wx=>by rw [← hc];exact find1 y k wx
    clear hc
    go_wp2_with (go_at_call 153;(with_reducible refine (C.out _).mono ?_);rintro e w' ⟨rfl,hb2⟩;have hb3:=Lib.hid (hb.out.trans (hb2.mono hb.out.size));clear hb hb2)
    go_ret2
    exact ⟨hi,by rw [Y.out,← hck.out];rfl,P0.out,hb3.out⟩
   ·have hnone:(keys l)[hi]? = none:=List.getElem?_eq_none (by rw [HK.out];omega)
    have Y:=Lib.hid hnone;clear hnone
    go_wp2
    go_ret2
    exact ⟨hi,by rw [Y.out];first | rfl | simp [*],P0.out,by first | exact hb.out | exact hb.out.drew | exact below_drewN hb.out _⟩
theorem tableFind {v:Value} {l:List (Int×Int)} {k:Int} {w:World} (h:Arr w eP 2 v l) (hinc:incB (keys l)=true) (hl:l.length<4611686018427387904) :
  Calls Try.prog 148 #[v,.int .i64 k] w (RetS w (keys l) k):=by
 obtain ⟨ba,cap,hv,_⟩:=h.at2
 have C:=Lib.hid (search_table (k:=k) h hinc hl)
 clear h hinc hl
 subst hv
 go_enter Try.func148,Try.ntmps148
 go_wp2_with (go_at_call 152;refine C.out.mono ?_;rintro e w' ⟨i,rfl,hp,hb⟩;have HP:=Lib.hid hp;clear hp;have HB:=Lib.hid hb;clear hb)
 go_ret2
 exact ⟨i,rfl,HP.out,HB.out⟩
end Go.Proofs.Ytkjeedlkkpgopaa
namespace Go.Proofs.Ytkjeedlkkpgopaa
open Go.RowKit
set_option maxHeartbeats 400000 in
theorem put_cell {w:World} {g:Nat} {a b c d e v:Value} {ba:Option Addr} {n cp:Nat} (h:w.heap[g]? = some (.cells #[a,b,c,d,e] 70)) (hv:v = .slice ba n cp) :
  Calls Try.prog 121 #[v,.pointer (some ⟨g,0,none⟩)] w fun r w'=>r = .returned (.tuple #[])∧w.setRow g #[v,b,c,d,e]=w':=by
 subst hv
 obtain ⟨⟨z0,z1,z2,z3,z4⟩,⟨f0,f1,f2,f3,f4⟩⟩:=blk5 h
 have hr:w.setCell ⟨g,0,none⟩ (.slice ba n cp)=w.setRow g #[.slice ba n cp,b,c,d,e]:=setCell_eq_setRow w g 0 _ _ (0,0) _ h
 have HR:=Lib.hid hr;clear hr h
 go_enter Try.func121,Try.ntmps121
 go_wp2
 go_end0
 exact ⟨rfl,HR.out.symm⟩
set_option maxHeartbeats 400000 in
theorem put_stack {w:World} {g:Nat} {a b c d e v:Value} {ba:Option Addr} {n cp:Nat} (h:w.heap[g]? = some (.cells #[a,b,c,d,e] 70)) (hv:v = .slice ba n cp) :
  Calls Try.prog 125 #[v,.pointer (some ⟨g,0,none⟩)] w fun r w'=>r = .returned (.tuple #[])∧w.setRow g #[a,v,c,d,e]=w':=by
 subst hv
 obtain ⟨⟨z0,z1,z2,z3,z4⟩,⟨f0,f1,f2,f3,f4⟩⟩:=blk5 h
 have hr:w.setCell ⟨g,1,none⟩ (.slice ba n cp)=w.setRow g #[a,.slice ba n cp,c,d,e]:=setCell_eq_setRow w g 1 _ _ (0,0) _ h
 have HR:=Lib.hid hr;clear hr h
 go_enter Try.func125,Try.ntmps125
 go_wp2
 go_end0
 exact ⟨rfl,HR.out.symm⟩
set_option maxHeartbeats 400000 in
theorem put_queue {w:World} {g:Nat} {a b c d e v:Value} {ba:Option Addr} {n cp:Nat} (h:w.heap[g]? = some (.cells #[a,b,c,d,e] 70)) (hv:v = .slice ba n cp) :
  Calls Try.prog 128 #[v,.pointer (some ⟨g,0,none⟩)] w fun r w'=>r = .returned (.tuple #[])∧w.setRow g #[a,b,v,d,e]=w':=by
 subst hv
 obtain ⟨⟨z0,z1,z2,z3,z4⟩,⟨f0,f1,f2,f3,f4⟩⟩:=blk5 h
 have hr:w.setCell ⟨g,2,none⟩ (.slice ba n cp)=w.setRow g #[a,b,.slice ba n cp,d,e]:=setCell_eq_setRow w g 2 _ _ (0,0) _ h
 have HR:=Lib.hid hr;clear hr h
 go_enter Try.func128,Try.ntmps128
 go_wp2
 go_end0
 exact ⟨rfl,HR.out.symm⟩
set_option maxHeartbeats 400000 in
theorem put_set {w:World} {g:Nat} {a b c d e v:Value} {ba:Option Addr} {n cp:Nat} (h:w.heap[g]? = some (.cells #[a,b,c,d,e] 70)) (hv:v = .slice ba n cp) :
  Calls Try.prog 132 #[v,.pointer (some ⟨g,0,none⟩)] w fun r w'=>r = .returned (.tuple #[])∧w.setRow g #[a,b,c,v,e]=w':=by
 subst hv
 obtain ⟨⟨z0,z1,z2,z3,z4⟩,⟨f0,f1,f2,f3,f4⟩⟩:=blk5 h
 have hr:w.setCell ⟨g,3,none⟩ (.slice ba n cp)=w.setRow g #[a,b,c,.slice ba n cp,e]:=setCell_eq_setRow w g 3 _ _ (0,0) _ h
 have HR:=Lib.hid hr;clear hr h
 go_enter Try.func132,Try.ntmps132
 go_wp2
 go_end0
 exact ⟨rfl,HR.out.symm⟩
set_option maxHeartbeats 400000 in
theorem put_table {w:World} {g:Nat} {a b c d e v:Value} {ba:Option Addr} {n cp:Nat} (h:w.heap[g]? = some (.cells #[a,b,c,d,e] 70)) (hv:v = .slice ba n cp) :
  Calls Try.prog 147 #[v,.pointer (some ⟨g,0,none⟩)] w fun r w'=>r = .returned (.tuple #[])∧w.setRow g #[a,b,c,d,v]=w':=by
 subst hv
 obtain ⟨⟨z0,z1,z2,z3,z4⟩,⟨f0,f1,f2,f3,f4⟩⟩:=blk5 h
 have hr:w.setCell ⟨g,4,none⟩ (.slice ba n cp)=w.setRow g #[a,b,c,d,.slice ba n cp]:=setCell_eq_setRow w g 4 _ _ (0,0) _ h
 have HR:=Lib.hid hr;clear hr h
 go_enter Try.func147,Try.ntmps147
 go_wp2
 go_end0
 exact ⟨rfl,HR.out.symm⟩
theorem meth_cell_put (ba:Option Addr) (n cp:Nat) (w:World):(method 293 145 (.slice ba n cp) "reclaim/model.put").run Try.prog w = .ok (121,.slice ba n cp) w:=by kernel_rfl
theorem meth_cell_do (ba:Option Addr) (n cp:Nat) (w:World):(method 293 145 (.slice ba n cp) "reclaim/model.do").run Try.prog w = .ok (120,.slice ba n cp) w:=by kernel_rfl
theorem meth_stack_put (ba:Option Addr) (n cp:Nat) (w:World):(method 293 146 (.slice ba n cp) "reclaim/model.put").run Try.prog w = .ok (125,.slice ba n cp) w:=by kernel_rfl
theorem meth_stack_do (ba:Option Addr) (n cp:Nat) (w:World):(method 293 146 (.slice ba n cp) "reclaim/model.do").run Try.prog w = .ok (124,.slice ba n cp) w:=by kernel_rfl
theorem meth_queue_put (ba:Option Addr) (n cp:Nat) (w:World):(method 293 147 (.slice ba n cp) "reclaim/model.put").run Try.prog w = .ok (128,.slice ba n cp) w:=by kernel_rfl
theorem meth_queue_do (ba:Option Addr) (n cp:Nat) (w:World):(method 293 147 (.slice ba n cp) "reclaim/model.do").run Try.prog w = .ok (127,.slice ba n cp) w:=by kernel_rfl
theorem meth_set_put (ba:Option Addr) (n cp:Nat) (w:World):(method 293 150 (.slice ba n cp) "reclaim/model.put").run Try.prog w = .ok (132,.slice ba n cp) w:=by kernel_rfl
theorem meth_set_do (ba:Option Addr) (n cp:Nat) (w:World):(method 293 150 (.slice ba n cp) "reclaim/model.do").run Try.prog w = .ok (130,.slice ba n cp) w:=by kernel_rfl
theorem meth_table_put (ba:Option Addr) (n cp:Nat) (w:World):(method 293 151 (.slice ba n cp) "reclaim/model.put").run Try.prog w = .ok (147,.slice ba n cp) w:=by kernel_rfl
theorem meth_table_do (ba:Option Addr) (n cp:Nat) (w:World):(method 293 151 (.slice ba n cp) "reclaim/model.do").run Try.prog w = .ok (145,.slice ba n cp) w:=by kernel_rfl
def ofV (n:Int) (a b c d e:Value):Value :=
 if n=1 then .iface 145 a else if n=2 then .iface 146 b else if n=3 then .iface 147 c else if n=4 then .iface 150 d else .iface 151 e
set_option maxHeartbeats 400000 in
theorem of_any (a b c d e:Value) (n:Int) (w:World) :
  Calls Try.prog 88 #[.agg #[a,b,c,d,e],.int .i64 n] w fun r w'=>r = .returned (ofV n a b c d e)∧Below w.heap.size w w':=by
 have X:Hid (∀ j u,#[a,b,c,d,e][j]? = some u→(w.alloc (.cells #[a,b,c,d,e] 70)).cell? ⟨w.heap.size,j,none⟩=some u):=fun j u h=>box_cell w _ _ j u h
 have hb0:Below w.heap.size w (w.alloc (.cells #[a,b,c,d,e] 70)):=below_box _ _
 have hl:w.heap.size<(w.alloc (.cells #[a,b,c,d,e] 70)).heap.size:=by simp
 go_enter Try.func88,Try.ntmps88
 go_wp2_with fail
 generalize w.alloc (.cells #[a,b,c,d,e] 70)=W1 at *
 obtain ⟨x0,x1,x2,x3,x4⟩:=box5 X.out (Below.refl _ _) hl
 clear X
 go_wp2
 all_goals go_ret
 all_goals refine ⟨?_,hb0⟩
 all_goals simp_all [ofV]
end Go.Proofs.Ytkjeedlkkpgopaa
