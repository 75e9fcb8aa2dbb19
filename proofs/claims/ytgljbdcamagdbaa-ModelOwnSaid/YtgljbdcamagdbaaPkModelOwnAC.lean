/- ModelOwnSaid: what its proof is made of. No condition. -/
import Derived.Test.YtgljbdcamagdbaaPkModelOwnAB
set_option linter.unusedSimpArgs false
set_option linter.unusedVariables false
namespace Go.Proofs.Ytgljbdcamagdbaa
open Go.RowKit
theorem zI:ElemI Try.prog 3 1 8 (.int .i64 0):=by
 obtain ⟨i0,hi,hz0,hz1,hz2⟩:=info_parts (show (Try.prog.info? 3).map (fun i=>(i.zero,i.size,i.bytes))=some (some (.int .i64 0),1,8) by kernel_rfl)
 exact ⟨⟨i0,hi,hz0,hz1,hz2⟩,rfl,by simp [Value.cells,Value.oneCell'],by decide⟩
theorem zP:ElemI Try.prog 76 2 16 (.agg #[.int .i64 0,.int .i64 0]):=by
 obtain ⟨i0,hi,hz0,hz1,hz2⟩:=info_parts (show (Try.prog.info? 76).map (fun i=>(i.zero,i.size,i.bytes))=some (some (.agg #[.int .i64 0,.int .i64 0]),2,16) by kernel_rfl)
 exact ⟨⟨i0,hi,hz0,hz1,hz2⟩,rfl,by simp [Value.cells,Value.oneCell'],by decide⟩
def insAt {α:Type} (l:List α) (i:Nat) (x:α):List α:=l.take i++x :: l.drop i
theorem insAt_len {α:Type} (l:List α) (i:Nat) (x:α) (hi:i≤l.length):(insAt l i x).length=l.length+1:=by simp [insAt];omega
def RetB {α:Type} (W:World) (B:Nat) (e:TypeId) (enc:α→List Value) (s:Nat) (l:List α) (r:Ending) (w' : World):Prop:=∃ v',r = .returned v'∧OwnE w' B e enc s v' l∧Below B W w'
theorem below_grown {w w' : World} {o:Option Nat} {B:Nat} (hB:B≤w.heap.size) (h:w.grownBy w' o) (ho:∀ k,o=some k→B≤k):Below B w w' :=
 ⟨h.os,h.tape,h.output,h.size,fun k hk=>h.block k (by omega) (fun e=>by have:=ho k e.symm;omega)⟩
theorem append_types {P:Program} {t t' ty e:TypeId} {size bytes:Nat} (T:ElemT P t e size bytes) (h' : P.underlying t' = some (.slice e)) (v v2:Value) (w:World) :
  (Builtin.append_ #[t,t'] ty #[v,v2]).run P w=(Builtin.append_ #[t,t] ty #[v,v2]).run P w:=by
 obtain ⟨i,z,hi,_⟩:=T.ex
 cases v <;> simp [Builtin.append_,run_underlying T.ht,run_underlying h',sizeOf,typeInfo,hi]
theorem wpList_append_arr2 {P:Program} {w:World} {ops:Array Oper} {rest:List Oper} {o:Oper} {a:Act} {Q:Exit→Act→World→Prop} (hgd:o.guard=none) (s x:Operand) {t t' e:TypeId} {size bytes:Nat}
  (ho:o.op = .call { callee:=.builtin .append,args:=#[s,x],argTypes:=#[t,t'] }) (ht' : P.underlying t' = some (.slice e)) (T:ElemT P t e size bytes) (base:Nat)
  {v:Value} {n:Nat} {cs:List Value} (hs:a.eval s=v) (hown:w.ownsRow base e size v n cs)
  {α:Type} {enc:α→List Value} (E:EncT enc size) {v2:Value} {xs:List α} (hx:a.eval x=v2) (hxs:Arr w enc size v2 xs)
  (hbytes:(n+xs.length) * bytes≤140737488355328) (h63:n+xs.length≤maxLen) (hbase:base≤w.heap.size)
  (h:∀ v' w',w'.ownsRow base e size v' (n+xs.length) (cs++xs.flatMap enc)→w.grownBy w' v.ownBlock→wpList P ops Q rest (a.put o.dst v') w'):wpList P ops Q (o :: rest) a w:=by
 refine wpList_plain hgd fun K hK=>?_
 obtain ⟨i,z,hi,hz,hsz,hby,hzs⟩:=T.ex
 obtain ⟨v',w',hr,h2,h3⟩:=run_append_arr (P:=P) (w:=w) base t o.type e i z size bytes T.ht hi hz hsz hby hzs T.pos v n cs hown E.len E.one v2 xs hxs h63 hbytes hbase
 rw [← append_types T ht'] at hr
 unfold Oper.wp execOp
 simp only [ho,resolve,invoke,builtin,Sem.run_bind,Sem.run_pure,Result.andThen_ok,List.map_toArray,List.map_cons,List.map_nil,hs,hx,hr]
 exact hK _ _ (h v' w' h2 h3)
theorem wpList_append_empty2 {P:Program} {w:World} {ops:Array Oper} {rest:List Oper} {o:Oper} {a:Act} {Q:Exit→Act→World→Prop} (hgd:o.guard=none) (s x:Operand) {t t' e:TypeId} {size bytes:Nat}
  (ho:o.op = .call { callee:=.builtin .append,args:=#[s,x],argTypes:=#[t,t'] }) (ht' : P.underlying t' = some (.slice e)) (T:ElemT P t e size bytes)
  {α:Type} {enc:α→List Value} (E:EncT enc size) {ba:Option Addr} {xs:List α} (hs:a.eval s = .slice ba 0 0)
  {v2:Value} (hx:a.eval x=v2) (hxs:Arr w enc size v2 xs)
  (hbytes:xs.length * bytes≤140737488355328) (h63:xs.length≤maxLen)
  (h:∀ v' w',Below w.heap.size w w'→OwnE w' w.heap.size e enc size v' xs→wpList P ops Q rest (a.put o.dst v') w'):wpList P ops Q (o :: rest) a w:=by
 refine wpList_plain hgd fun K hK=>?_
 obtain ⟨v',w',hr,h2,h3⟩:=run_append_full (w:=w) T o.type E (arr_empty w enc size ba) hxs (by simpa using hbytes) (by simpa using h63)
 rw [← append_types T ht'] at hr
 unfold Oper.wp execOp
 simp only [ho,resolve,invoke,builtin,Sem.run_bind,Sem.run_pure,Result.andThen_ok,List.map_toArray,List.map_cons,List.map_nil,hs,hx,hr]
 refine hK _ _ (h v' w' h2 ?_)
 rcases h3 with ⟨h1,h2,_⟩ | ⟨_,h2⟩
 ·exact Or.inl ⟨h1,ba,h2⟩
 ·simp only [Nat.zero_add,List.nil_append] at h2
  exact Or.inr h2
set_option maxRecDepth 100000 in
set_option maxHeartbeats 1000000 in
theorem insert_table_grow {w:World} {B g n cap i nb:Nat} {l:List (Int×Int)} {x:(Int×Int)} (hn:n=l.length) (hi:i<n) (hB:B≤w.heap.size)
  (hown:w.ownsRow B 76 2 (.slice (some ⟨g,0,none⟩) n cap) l.length (l.flatMap eP)) (hx:w.heap[nb]? = some (.cells (eP x).toArray 76)) (hc:n=cap) (hbig:(n+1) * 16≤140737488355328) :
  Calls Try.prog 101 #[.slice (some ⟨g,0,none⟩) n cap,.int .i64 i,.slice (some ⟨nb,0,none⟩) 1 1] w (RetB w B 76 eP 2 (insAt l i x)):=by
 subst hc
 have HX:=Lib.hid hx;clear hx
 have HN:=Lib.hid hn;clear hn
 have HO:=Lib.hid hown;clear hown
 have HBG:=Lib.hid hbig;clear hbig
 have hnn:(n:Int)+1>(n:Int):=by omega
 have hin:((i:Int) == (n:Int))=false:=by rw [beq_eq_false_iff_ne];omega
 have hii:(i:Int)≤(n:Int):=by omega
 have hnb:n≤100000000000000:=by have:=HBG.out;omega
 go_enter Try.func101,Try.ntmps101
 go_upto_region 9 with (fail)
 -- the new row
 have ek:((n+1 - i:Nat):Int)=(n:Int)+1 - (i:Int):=by omega
 have hX1:((l.take i).flatMap eP).length=i * 2:=by rw [flat_len eP_ok.len,List.length_take,← HN.out];congr 1;omega
 have hX2:((l.drop i).flatMap eP).length=(n - i) * 2:=by rw [flat_len eP_ok.len,List.length_drop,← HN.out]
 have hcells:=HO.out.cells (g:=g) rfl
 have hsplit:l.flatMap eP=(l.take i).flatMap eP++(l.drop i).flatMap eP:=by rw [← List.flatMap_append,List.take_append_drop]
 obtain ⟨X,eX⟩:∃ X,(l.take i).flatMap eP=X:=⟨_,rfl⟩
 obtain ⟨Y,eY⟩:∃ Y,(l.drop i).flatMap eP=Y:=⟨_,rfl⟩
 have hold:∀ j v,X[j]? = some v→w.cell? ((⟨g,0,none⟩:Addr).add j)=some v:=fun j v hv=>hcells j v (by rw [hsplit,eX,List.getElem?_append_left (List.getElem?_eq_some_iff.1 hv).1];exact hv)
 rw [eX] at hX1
 rw [eY] at hX2
 rw [eX,eY] at hsplit
 have HOLD:=Lib.hid hold;clear hold
 have HX1:=Lib.hid hX1;clear hX1
 have HX2:=Lib.hid hX2;clear hX2
 have HSP:=Lib.hid hsplit;clear hsplit
 have EX:=Lib.hid eX;clear eX
 have EY:=Lib.hid eY;clear eY
 have HC:=Lib.hid hcells;clear hcells
 have EK:=Lib.hid ek;clear ek
 go_upto_region 10 with (at_builtin;refine wpList_append_zeros rfl (.tmp 34) (.tmp 39) rfl zP Try.underlying94 Try.underlying3 rfl (n+1 - i) rfl EK.out.symm X HX1.out HOLD.out (by omega) (by omega) (by have:=HBG.out;omega) (by unfold maxLen;omega) ?_;intro W1 cap2 Z spare hG0 hB1 hS1 hZ hcap hcm hlen;have HG0:=Lib.hid hG0;clear hG0;have HB1:=Lib.hid hB1;clear hB1;have HLEN:=Lib.hid hlen;clear hlen;have HZ:=Lib.hid hZ;clear hZ;have HS1:=Lib.hid hS1;clear hS1)
 have hG0:=HG0.out
 have hB1:=HB1.out
 have hsrc1:∀ j v,(eP x)[j]? = some v→W1.cell? ((⟨nb,0,none⟩:Addr).add j)=some v:=fun j v hv=>by
  have:=cell_of_row w nb j _ _ (0,0) HX.out
  rw [show (⟨nb,0,none⟩:Addr).add j=⟨nb,j,none⟩ by unfold Addr.add;split <;> simp_all]
  exact keeps_below hB1 _ _ (this.trans (by simpa using hv))
 have hk1:((i:Nat)+(n+1 - i):Nat)=n+1:=by omega
 rw [hk1]
 have hn1:(eP x).length=Nat.min 1 (n+1 - i) * 2:=by rw [eP_ok.len];have:Nat.min 1 (n+1 - i)=1:=Nat.min_eq_left (by omega);rw [this]
 have hf1:i * 2+(eP x).length≤(X++(Z++spare)).length:=by rw [HLEN.out,eP_ok.len];omega
 have h11:∀ v∈eP x,v.oneCell' = true:=eP_ok.one x
 have hG1:=setRow_heap W1 w.heap.size _ (splice (X++(Z++spare)) (i * 2) (eP x)).toArray 76 (0,0) HG0.out
 have hB2:Below w.heap.size w (W1.setRow w.heap.size (splice (X++(Z++spare)) (i * 2) (eP x)).toArray):=below_setRow' HB1.out (Nat.le_refl _) _
 have hsrc2:∀ j v,Y[j]? = some v→(W1.setRow w.heap.size (splice (X++(Z++spare)) (i * 2) (eP x)).toArray).cell? ((⟨g,i * 2,none⟩:Addr).add j)=some v:=fun j v hv=>by
  have h0:=HC.out (i * 2+j) v (by rw [HSP.out,List.getElem?_append_right (by rw [HX1.out];omega),HX1.out];rw [← hv];congr 1;omega)
  have ea:(⟨g,i * 2,none⟩:Addr).add j=(⟨g,0,none⟩:Addr).add (i * 2+j):=by unfold Addr.add;split <;> split <;> simp_all
  rw [ea]
  exact keeps_below hB2 _ _ h0
 have hl2:(splice (X++(Z++spare)) (i * 2) (eP x)).length=(X++(Z++spare)).length:=length_splice _ _ _ hf1
 have hfin:splice (splice (X++(Z++spare)) (i * 2) (eP x)) (i * 2+2) Y=(insAt l i x).flatMap eP++spare:=by
  rw [splice_new X Z spare (eP x) Y (i * 2) 2 (by rw [HX1.out]) (eP_ok.len x) (by rw [HZ.out,HX2.out];omega)]
  simp only [insAt,List.flatMap_append,List.flatMap_cons,EX.out,EY.out,List.append_assoc]
 have HSRC1:=Lib.hid hsrc1;clear hsrc1
 have HN1:=Lib.hid hn1;clear hn1
 have HF1:=Lib.hid hf1;clear hf1
 have H11:=Lib.hid h11;clear h11
 have HG1:=Lib.hid hG1;clear hG1
 have HB2:=Lib.hid hB2;clear hB2
 have HSRC2:=Lib.hid hsrc2;clear hsrc2
 have HL2:=Lib.hid hl2;clear hl2
 have HFIN:=Lib.hid hfin;clear hfin
 clear hG0 hB1
 go_upto_region 11 with (refine wpList_copy_rowS rfl (.tmp 43) (.tmp 44) 94 27 rfl 76 2 Try.underlying94 (by kernel_rfl) rfl rfl HG0.out (eP x) HN1.out HSRC1.out HF1.out H11.out ?_;intro W2 e2;subst e2)
 generalize W1.setRow w.heap.size (splice (X++(Z++spare)) (i * 2) (eP x)).toArray=W2 at *
 generalize splice (X++(Z++spare)) (i * 2) (eP x)=R2 at *
 have HG1:Hid (W2.drew.heap[w.heap.size]? = some (.cells R2.toArray 76 (0,0))):=HG1
 have HSRC2:Hid (∀ j v,Y[j]? = some v→W2.drew.cell? ((⟨g,i * 2,none⟩:Addr).add j)=some v):=HSRC2
 have hn2:Y.length=Nat.min (n - i) (n - i) * 2:=by rw [HX2.out];congr 1;simp only [Nat.min_def];split <;> omega
 have hf2:(i+1) * 2+Y.length≤R2.length:=by rw [HL2.out,HLEN.out,HX2.out];omega
 have h12:∀ v∈Y,v.oneCell' = true:=fun v hv=>by rw [← EY.out] at hv;obtain ⟨y,_,h⟩:=List.mem_flatMap.1 hv;exact eP_ok.one y v h
 have hcm2:cap2≤maxLen:=hcm
 have hret:OwnE (W2.drew.setRow w.heap.size (splice R2 ((i+1) * 2) Y).toArray) B 76 eP 2 (.slice (some ⟨w.heap.size,0,none⟩) (n+1) cap2) (insAt l i x):=by
  have hl:(insAt l i x).length=n+1:=by rw [insAt_len l i x (by rw [← HN.out];omega),HN.out]
  refine Or.inr ⟨flat_len eP_ok.len _,Or.inr ⟨w.heap.size,cap2,((insAt l i x).flatMap eP++spare).toArray,by rw [hl],hB,?_,by omega,hcm2,?_,?_⟩⟩
  ·have:=setRow_heap W2.drew w.heap.size _ (splice R2 ((i+1) * 2) Y).toArray 76 (0,0) HG1.out
   rw [this]
   have e:=HFIN.out
   rw [show i * 2+2=(i+1) * 2 by omega] at e
   rw [e]
  ·have e:=congrArg List.length HFIN.out
   rw [length_splice _ _ _ (by rw [show i * 2+2=(i+1) * 2 by omega];exact hf2),HL2.out,HLEN.out] at e
   first | exact e.symm | simpa using e.symm
  ·rw [← flat_len eP_ok.len];exact List.take_left
 have hbel:Below w.heap.size w (W2.drew.setRow w.heap.size (splice R2 ((i+1) * 2) Y).toArray):=below_setRow' HB2.out.drew (Nat.le_refl _) _
 have HN2:=Lib.hid hn2;clear hn2
 have HF2:=Lib.hid hf2;clear hf2
 have H12:=Lib.hid h12;clear h12
 have HRET:=Lib.hid hret;clear hret
 have HBEL:=Lib.hid hbel;clear hbel
 have hw1:IntKind.i64.wrap ((i:Int)+(1:Int))=(i:Int)+(1:Int):=by rw [IntKind.wrap_i64];omega
 have hb1:(0:Int)≤(i:Int)+(1:Int):=by omega
 have htn:((i:Int)+(1:Int)).toNat=i+1:=by omega
 have hb3:(i:Int)+1≤(n:Int)+1:=by omega
 have hb4:¬ (cap2=i+1):=by omega
 have hb5:¬ (n=i):=by omega
 go_region_law (refine step_copy_rowS (off:=(i+1) * 2) (dCap:=cap2 - (i+1)) (ad:=⟨g,i * 2,none⟩) (sCap:=n - i) rfl (.tmp 50) (.tmp 53) 94 94 rfl 76 2 Try.underlying94 (by kernel_rfl) (by simp [Act.eval,Act.put]) (by simp [Act.eval,Act.put]) HG1.out Y HN2.out HSRC2.out HF2.out H12.out ?_;intro W3 e3;subst e3)
 go_wp2
 go_ret
 exact ⟨_,rfl,HRET.out,HBEL.out.mono hB⟩
set_option maxRecDepth 100000 in
set_option maxHeartbeats 1000000 in
theorem insert_table_room {w:World} {B g n cap i nb:Nat} {l:List (Int×Int)} {x:(Int×Int)} (hn:n=l.length) (hi:i<n)
  (hown:w.ownsRow B 76 2 (.slice (some ⟨g,0,none⟩) n cap) l.length (l.flatMap eP)) (hx:w.heap[nb]? = some (.cells (eP x).toArray 76)) (hne:nb≠g) (hc:n+1≤cap) :
  Calls Try.prog 101 #[.slice (some ⟨g,0,none⟩) n cap,.int .i64 i,.slice (some ⟨nb,0,none⟩) 1 1] w (RetB w B 76 eP 2 (insAt l i x)):=by
 obtain ⟨hlen0,⟨h0,_⟩ | ⟨g',cap',cur,he,hBg,hg,_,hcm,hcs,htk⟩⟩:=hown
 ·cases h0
 simp only [Value.slice.injEq,Option.some.injEq,Addr.mk.injEq] at he
 obtain ⟨⟨rfl,-⟩,-,rfl⟩:=he
 have hX1:((l.take i).flatMap eP).length=i * 2:=by rw [flat_len eP_ok.len,List.length_take,← hn];omega
 have hX2:((l.drop i).flatMap eP).length=(n - i) * 2:=by rw [flat_len eP_ok.len,List.length_drop,← hn]
 have hsplit:l.flatMap eP=(l.take i).flatMap eP++(l.drop i).flatMap eP:=by rw [← List.flatMap_append,List.take_append_drop]
 obtain ⟨X,eX⟩:∃ X,(l.take i).flatMap eP=X:=⟨_,rfl⟩
 obtain ⟨Y,eY⟩:∃ Y,(l.drop i).flatMap eP=Y:=⟨_,rfl⟩
 obtain ⟨S,eS⟩:∃ S,cur.toList.drop (n * 2)=S:=⟨_,rfl⟩
 rw [eX] at hX1
 rw [eY] at hX2
 rw [eX,eY] at hsplit
 have hS:S.length=(cap - n) * 2:=by rw [← eS,List.length_drop,Array.length_toList,hcs];omega
 have hcur:cur=(X++(Y++S)).toArray:=by
  have h1:cur.toList=X++(Y++S):=by rw [← List.append_assoc,← hsplit,← htk,← hn,← eS,List.take_append_drop]
  rw [← h1]
 subst hcur
 clear hlen0 hcs htk eS hsplit
 have hl0:(X++(Y++S)).length=cap * 2:=by simp only [List.length_append,hX1,hX2,hS];omega
 have h1Y:∀ v∈Y,v.oneCell' = true:=fun v hv=>by rw [← eY] at hv;obtain ⟨y,_,h⟩:=List.mem_flatMap.1 hv;exact eP_ok.one y v h
 have hov:∀ lb cb,(callFunc 106 #[.slice (some ⟨nb,0,none⟩) 1 1,.slice (some ⟨g,(i+1) * 2,none⟩) lb cb]).run Try.prog w = .ok (.value (.bool false)) w:=fun lb cb=>by
  rw [run_callFunc_extern Try.func106 (by kernel_rfl) (by kernel_rfl) (by kernel_rfl) (e:=Extern.SlicesOverlaps.overlaps #[27,27] #[4]) (by kernel_rfl),
   Lib.run_overlaps_apart w 27 4 76 Try.underlying27 2 (fun w=>zP.sizeOf w) ⟨nb,0,none⟩ ⟨g,(i+1) * 2,none⟩ 1 1 lb cb hne _ _ _ _ (by simp only [World.shape?,hx];rfl) (by simp only [World.shape?,hg];rfl)
    (by rw [List.size_toArray,hl0];omega) (by simp [World.frozen?,hx]) (by simp [World.frozen?,hx])]
  rfl
 have hg0:w.drew.heap[g]? = some (.cells (X++(Y++S)).toArray 76 (0,0)):=hg
 have hsrcY:∀ j v,Y[j]? = some v→w.drew.cell? ((⟨g,i * 2,none⟩:Addr).add j)=some v:=fun j v hv=>by
  have ea:(⟨g,i * 2,none⟩:Addr).add j=⟨g,i * 2+j,none⟩:=by unfold Addr.add;split <;> simp_all
  rw [ea,cell_of_row w.drew g (i * 2+j) _ _ (0,0) hg0]
  rw [List.getElem?_toArray,List.getElem?_append_right (by rw [hX1];omega),hX1,show i * 2+j - i * 2=j by omega,List.getElem?_append_left (List.getElem?_eq_some_iff.1 hv).1]
  exact hv
 have hnY:Y.length=Nat.min (n+1 - i) (n - i) * 2:=by rw [hX2];congr 1;simp only [Nat.min_def];split <;> omega
 have hfY:(i+1) * 2+Y.length≤(X++(Y++S)).length:=by rw [hl0,hX2];omega
 have hl1:(splice (X++(Y++S)) ((i+1) * 2) Y).length=(X++(Y++S)).length:=length_splice _ _ _ hfY
 have hg1:=setRow_heap w.drew g _ (splice (X++(Y++S)) ((i+1) * 2) Y).toArray 76 (0,0) hg0
 have hx1:(w.drew.setRow g (splice (X++(Y++S)) ((i+1) * 2) Y).toArray).heap[nb]? = some (.cells (eP x).toArray 76):=(setRow_other _ _ _ _ hne).trans hx
 have hnx:(eP x).length=Nat.min 1 (n+1 - i) * 2:=by rw [eP_ok.len];have:Nat.min 1 (n+1 - i)=1:=Nat.min_eq_left (by omega);rw [this]
 have hfx:i * 2+(eP x).length≤(splice (X++(Y++S)) ((i+1) * 2) Y).length:=by rw [hl1,hl0,eP_ok.len];omega
 have hsrcx:∀ j v,(eP x)[j]? = some v→(w.drew.setRow g (splice (X++(Y++S)) ((i+1) * 2) Y).toArray).cell? ((⟨nb,0,none⟩:Addr).add j)=some v:=fun j v hv=>by
  rw [show (⟨nb,0,none⟩:Addr).add j=⟨nb,j,none⟩ by unfold Addr.add;split <;> simp_all,cell_of_row _ nb j _ _ (0,0) hx1]
  simpa using hv
 have hfin:splice (splice (X++(Y++S)) ((i+1) * 2) Y) (i * 2) (eP x)=(insAt l i x).flatMap eP++S.drop 2:=by
  rw [show (i+1) * 2=i * 2+2 by omega,splice_ins X Y S (eP x) (i * 2) 2 hX1 (eP_ok.len x) (by rw [hS];omega)]
  simp only [insAt,List.flatMap_append,List.flatMap_cons,eX,eY,List.append_assoc]
 have hl2:=length_splice (splice (X++(Y++S)) ((i+1) * 2) Y) (i * 2) (eP x) hfx
 have hret:OwnE ((w.drew.setRow g (splice (X++(Y++S)) ((i+1) * 2) Y).toArray).setRow g (splice (splice (X++(Y++S)) ((i+1) * 2) Y) (i * 2) (eP x)).toArray) B 76 eP 2 (.slice (some ⟨g,0,none⟩) (n+1) cap) (insAt l i x):=by
  have hl:(insAt l i x).length=n+1:=by rw [insAt_len l i x (by rw [← hn];omega),hn]
  refine Or.inr ⟨flat_len eP_ok.len _,Or.inr ⟨g,cap,((insAt l i x).flatMap eP++S.drop 2).toArray,by rw [hl],hBg,?_,by omega,hcm,?_,?_⟩⟩
  ·rw [setRow_heap _ g _ _ 76 (0,0) hg1,hfin]
  ·rw [List.size_toArray,← hfin,hl2,hl1,hl0]
  ·rw [← flat_len eP_ok.len];exact List.take_left
 have hbel:Below B w ((w.drew.setRow g (splice (X++(Y++S)) ((i+1) * 2) Y).toArray).setRow g (splice (splice (X++(Y++S)) ((i+1) * 2) Y) (i * 2) (eP x)).toArray) :=
  below_setRow' (below_setRow' (Below.refl _ _).drew hBg _) hBg _
 have h1x:∀ v∈eP x,v.oneCell' = true:=eP_ok.one x
 have hnn:¬ ((n:Int)+1>(cap:Int)):=by omega
 have hin:((i:Int) == (n:Int))=false:=by rw [beq_eq_false_iff_ne];omega
 have hii:(i:Int)≤(n:Int):=by omega
 have hnb:cap≤9223372036854775807:=by unfold maxLen at hcm;omega
 have hw1:IntKind.i64.wrap ((i:Int)+(1:Int))=(i:Int)+(1:Int):=by rw [IntKind.wrap_i64];omega
 have hb1:(0:Int)≤(i:Int)+(1:Int):=by omega
 have htn:((i:Int)+(1:Int)).toNat=i+1:=by omega
 have hb3:(i:Int)+1≤(n:Int)+1:=by omega
 have hb4:¬ (cap=i+1):=by omega
 have hb5:¬ (cap=i):=by omega
 have hb6:(i:Int)≤(n:Int)+1:=by omega
 have HG0:=Lib.hid hg0
 have HG1:=Lib.hid hg1
 have HNY:=Lib.hid hnY
 have HSY:=Lib.hid hsrcY
 have HFY:=Lib.hid hfY
 have H1Y:=Lib.hid h1Y
 have HNX:=Lib.hid hnx
 have HSX:=Lib.hid hsrcx
 have HFX:=Lib.hid hfx
 have H1X:=Lib.hid h1x
 have HRET:=Lib.hid hret
 have HBEL:=Lib.hid hbel
 clear hg hx hg0 hg1 hnY hsrcY hfY h1Y hnx hsrcx hfx h1x hret hbel hl0 hl1 hl2 hfin hx1 hX1 hX2 hS eX eY hn hBg hne
 go_enter Try.func101,Try.ntmps101
 go_upto_region 15 with (simp only [hov])
 go_region_law (refine step_copy_rowS (off:=(i+1) * 2) (dCap:=cap - (i+1)) (ad:=⟨g,i * 2,none⟩) (sCap:=cap - i) rfl (.tmp 73) (.tmp 76) 94 94 rfl 76 2 Try.underlying94 (by kernel_rfl) (by simp [Act.eval,Act.put]) (by simp [Act.eval,Act.put]) HG0.out Y HNY.out HSY.out HFY.out H1Y.out ?_;intro W3 e3;subst e3)
 generalize w.drew.setRow g (splice (X++(Y++S)) ((i+1) * 2) Y).toArray=W2 at *
 generalize splice (X++(Y++S)) ((i+1) * 2) Y=R2 at *
 go_wp2_with (refine wpList_copy_rowS rfl (.tmp 80) (.tmp 81) 94 27 rfl 76 2 Try.underlying94 (by kernel_rfl) rfl rfl HG1.out (eP x) HNX.out HSX.out HFX.out H1X.out ?_;intro W3 e3;subst e3)
 go_ret
 exact ⟨_,rfl,HRET.out,HBEL.out⟩
set_option maxRecDepth 100000 in
set_option maxHeartbeats 1000000 in
theorem insert_table_end {w:World} {B nb:Nat} {v:Value} {l:List (Int×Int)} {x:(Int×Int)} (hB:B≤w.heap.size)
  (hown:OwnE w B 76 eP 2 v l) (hx:w.heap[nb]? = some (.cells (eP x).toArray 76)) (hbig:(l.length+1) * 16≤140737488355328) :
  Calls Try.prog 101 #[v,.int .i64 l.length,.slice (some ⟨nb,0,none⟩) 1 1] w (RetB w B 76 eP 2 (l++[x])):=by
 have hx1:Arr w eP 2 (.slice (some ⟨nb,0,none⟩) 1 1) [x]:=by
  refine ⟨_,1,rfl,Nat.le_refl _,by unfold maxLen;omega,Or.inr ⟨nb,0,rfl,fun k y hk j u hu=>?_⟩⟩
  have hk0:k=0:=by have:=(List.getElem?_eq_some_iff.1 hk).1;simpa using this
  subst hk0
  simp only [List.getElem?_cons_zero,Option.some.injEq] at hk
  subst hk
  rw [cell_of_row w nb _ _ _ (0,0) hx]
  simpa using hu
 have hlen:l.length≤9223372036854775807:=by omega
 have HX:=Lib.hid hx1;clear hx1
 have H63:Hid (l.length+([x]:List (Int×Int)).length≤maxLen):=by show _≤_;unfold maxLen;simp only [List.length_singleton];omega
 have HBG:Hid ((l.length+([x]:List (Int×Int)).length) * 16≤140737488355328):=hbig
 have H63' : Hid (([x]:List (Int×Int)).length≤maxLen):=by show _≤_;unfold maxLen;simp
 have HBG' : Hid (([x]:List (Int×Int)).length * 16≤140737488355328):=by show _≤_;simp
 rcases hown with ⟨rfl,ba,rfl⟩ | hown
 ·rcases ba with _ | ba
  ·go_enter Try.func101,Try.ntmps101
   go_wp2_with (at_builtin;refine wpList_append_empty2 rfl (.tmp 23) (.tmp 24) rfl Try.underlying27 tE_table eP_ok rfl rfl HX.out HBG'.out H63'.out ?_;intro v' w' hb ho)
   have HO:=Lib.hid ho;clear ho
   go_wp2
   go_ret
   exact ⟨v',rfl,HO.out.base hB,hb.mono hB⟩
  ·go_enter Try.func101,Try.ntmps101
   go_wp2_with (at_builtin;refine wpList_append_empty2 rfl (.tmp 23) (.tmp 24) rfl Try.underlying27 tE_table eP_ok rfl rfl HX.out HBG'.out H63'.out ?_;intro v' w' hb ho)
   have HO:=Lib.hid ho;clear ho
   go_wp2
   go_ret
   exact ⟨v',rfl,HO.out.base hB,hb.mono hB⟩
 ·obtain ⟨ba,cap,rfl⟩:=own_form hown
  have hbl:∀ k,(Value.slice ba l.length cap).ownBlock=some k→B≤k:=fun k hk=>(hown.lt k hk).1
  have HOWN:=Lib.hid hown;clear hown
  have HBL:=Lib.hid hbl;clear hbl
  rcases ba with _ | ba
  ·go_enter Try.func101,Try.ntmps101
   go_wp2_with (at_builtin;refine wpList_append_arr2 rfl (.tmp 23) (.tmp 24) rfl Try.underlying27 tE_table B rfl HOWN.out eP_ok rfl HX.out HBG.out H63.out hB ?_;intro v' w' ho hg;have HO:=Lib.hid ho;clear ho;have HG:=Lib.hid hg;clear hg)
   go_wp2
   all_goals (go_ret;exact ⟨v',rfl,Or.inr (by simpa using HO.out),below_grown hB HG.out HBL.out⟩)
  ·go_enter Try.func101,Try.ntmps101
   go_wp2_with (at_builtin;refine wpList_append_arr2 rfl (.tmp 23) (.tmp 24) rfl Try.underlying27 tE_table B rfl HOWN.out eP_ok rfl HX.out HBG.out H63.out hB ?_;intro v' w' ho hg;have HO:=Lib.hid ho;clear ho;have HG:=Lib.hid hg;clear hg)
   go_wp2
   all_goals (go_ret;exact ⟨v',rfl,Or.inr (by simpa using HO.out),below_grown hB HG.out HBL.out⟩)
theorem insert_table {w:World} {B nb i:Nat} {v:Value} {l:List (Int×Int)} {x:(Int×Int)} (hi:i≤l.length) (hB:B≤w.heap.size)
  (hown:OwnE w B 76 eP 2 v l) (hx:w.heap[nb]? = some (.cells (eP x).toArray 76)) (hne:∀ k,v.ownBlock=some k→l≠[]→nb≠k) (hbig:(l.length+1) * 16≤140737488355328) :
  Calls Try.prog 101 #[v,.int .i64 i,.slice (some ⟨nb,0,none⟩) 1 1] w (RetB w B 76 eP 2 (insAt l i x)):=by
 by_cases he:i=l.length
 ·subst he
  have e:insAt l l.length x=l++[x]:=by simp [insAt]
  rw [e]
  exact insert_table_end hB hown hx hbig
 ·have hl:l≠[]:=by rintro rfl;simp at hi;exact he (by simpa using hi)
  rcases hown with ⟨h,_⟩ | hown
  ·exact absurd h hl
  have hown0:=hown
  obtain ⟨_,⟨_,h⟩ | ⟨g,cap,cur,rfl,hBg,hg,hnc,_⟩⟩:=hown
  ·exact absurd (List.eq_nil_of_length_eq_zero h) hl
  by_cases hc:l.length=cap
  ·exact insert_table_grow rfl (by omega) hB hown0 hx hc hbig
  ·exact insert_table_room rfl (by omega) hown0 hx (hne g rfl hl) (by omega)
set_option maxRecDepth 100000 in
set_option maxHeartbeats 1000000 in
theorem insert_set_grow {w:World} {B g n cap i nb:Nat} {l:List Int} {x:Int} (hn:n=l.length) (hi:i<n) (hB:B≤w.heap.size)
  (hown:w.ownsRow B 3 1 (.slice (some ⟨g,0,none⟩) n cap) l.length (l.flatMap eI)) (hx:w.heap[nb]? = some (.cells (eI x).toArray 3)) (hc:n=cap) (hbig:(n+1) * 8≤140737488355328) :
  Calls Try.prog 86 #[.slice (some ⟨g,0,none⟩) n cap,.int .i64 i,.slice (some ⟨nb,0,none⟩) 1 1] w (RetB w B 3 eI 1 (insAt l i x)):=by
 subst hc
 have HX:=Lib.hid hx;clear hx
 have HN:=Lib.hid hn;clear hn
 have HO:=Lib.hid hown;clear hown
 have HBG:=Lib.hid hbig;clear hbig
 have hnn:(n:Int)+1>(n:Int):=by omega
 have hin:((i:Int) == (n:Int))=false:=by rw [beq_eq_false_iff_ne];omega
 have hii:(i:Int)≤(n:Int):=by omega
 have hnb:n≤100000000000000:=by have:=HBG.out;omega
 go_enter Try.func86,Try.ntmps86
 go_upto_region 9 with (fail)
 -- the new row
 have ek:((n+1 - i:Nat):Int)=(n:Int)+1 - (i:Int):=by omega
 have hX1:((l.take i).flatMap eI).length=i * 1:=by rw [flat_len eI_ok.len,List.length_take,← HN.out];congr 1;omega
 have hX2:((l.drop i).flatMap eI).length=(n - i) * 1:=by rw [flat_len eI_ok.len,List.length_drop,← HN.out]
 have hcells:=HO.out.cells (g:=g) rfl
 have hsplit:l.flatMap eI=(l.take i).flatMap eI++(l.drop i).flatMap eI:=by rw [← List.flatMap_append,List.take_append_drop]
 obtain ⟨X,eX⟩:∃ X,(l.take i).flatMap eI=X:=⟨_,rfl⟩
 obtain ⟨Y,eY⟩:∃ Y,(l.drop i).flatMap eI=Y:=⟨_,rfl⟩
 have hold:∀ j v,X[j]? = some v→w.cell? ((⟨g,0,none⟩:Addr).add j)=some v:=fun j v hv=>hcells j v (by rw [hsplit,eX,List.getElem?_append_left (List.getElem?_eq_some_iff.1 hv).1];exact hv)
 rw [eX] at hX1
 rw [eY] at hX2
 rw [eX,eY] at hsplit
 have HOLD:=Lib.hid hold;clear hold
 have HX1:=Lib.hid hX1;clear hX1
 have HX2:=Lib.hid hX2;clear hX2
 have HSP:=Lib.hid hsplit;clear hsplit
 have EX:=Lib.hid eX;clear eX
 have EY:=Lib.hid eY;clear eY
 have HC:=Lib.hid hcells;clear hcells
 have EK:=Lib.hid ek;clear ek
 go_upto_region 10 with (at_builtin;refine wpList_append_zeros rfl (.tmp 34) (.tmp 39) rfl zI Try.underlying93 Try.underlying3 rfl (n+1 - i) rfl EK.out.symm X HX1.out HOLD.out (by omega) (by omega) (by have:=HBG.out;omega) (by unfold maxLen;omega) ?_;intro W1 cap2 Z spare hG0 hB1 hS1 hZ hcap hcm hlen;have HG0:=Lib.hid hG0;clear hG0;have HB1:=Lib.hid hB1;clear hB1;have HLEN:=Lib.hid hlen;clear hlen;have HZ:=Lib.hid hZ;clear hZ;have HS1:=Lib.hid hS1;clear hS1)
 have hG0:=HG0.out
 have hB1:=HB1.out
 have hsrc1:∀ j v,(eI x)[j]? = some v→W1.cell? ((⟨nb,0,none⟩:Addr).add j)=some v:=fun j v hv=>by
  have:=cell_of_row w nb j _ _ (0,0) HX.out
  rw [show (⟨nb,0,none⟩:Addr).add j=⟨nb,j,none⟩ by unfold Addr.add;split <;> simp_all]
  exact keeps_below hB1 _ _ (this.trans (by simpa using hv))
 have hk1:((i:Nat)+(n+1 - i):Nat)=n+1:=by omega
 rw [hk1]
 have hn1:(eI x).length=Nat.min 1 (n+1 - i) * 1:=by rw [eI_ok.len];have:Nat.min 1 (n+1 - i)=1:=Nat.min_eq_left (by omega);rw [this]
 have hf1:i+(eI x).length≤(X++(Z++spare)).length:=by rw [HLEN.out,eI_ok.len];omega
 have h11:∀ v∈eI x,v.oneCell' = true:=eI_ok.one x
 have hG1:=setRow_heap W1 w.heap.size _ (splice (X++(Z++spare)) (i) (eI x)).toArray 3 (0,0) HG0.out
 have hB2:Below w.heap.size w (W1.setRow w.heap.size (splice (X++(Z++spare)) (i) (eI x)).toArray):=below_setRow' HB1.out (Nat.le_refl _) _
 have hsrc2:∀ j v,Y[j]? = some v→(W1.setRow w.heap.size (splice (X++(Z++spare)) (i) (eI x)).toArray).cell? ((⟨g,i,none⟩:Addr).add j)=some v:=fun j v hv=>by
  have h0:=HC.out (i+j) v (by rw [HSP.out,List.getElem?_append_right (by rw [HX1.out];omega),HX1.out];rw [← hv];congr 1;omega)
  have ea:(⟨g,i,none⟩:Addr).add j=(⟨g,0,none⟩:Addr).add (i+j):=by unfold Addr.add;split <;> split <;> simp_all
  rw [ea]
  exact keeps_below hB2 _ _ h0
 have hl2:(splice (X++(Z++spare)) (i) (eI x)).length=(X++(Z++spare)).length:=length_splice _ _ _ hf1
 have hfin:splice (splice (X++(Z++spare)) (i) (eI x)) (i+1) Y=(insAt l i x).flatMap eI++spare:=by
  rw [splice_new X Z spare (eI x) Y (i) 1 (by rw [HX1.out];omega) (eI_ok.len x) (by rw [HZ.out,HX2.out];omega)]
  simp only [insAt,List.flatMap_append,List.flatMap_cons,EX.out,EY.out,List.append_assoc]
 have HSRC1:=Lib.hid hsrc1;clear hsrc1
 have HN1:=Lib.hid hn1;clear hn1
 have HF1:=Lib.hid hf1;clear hf1
 have H11:=Lib.hid h11;clear h11
 have HG1:=Lib.hid hG1;clear hG1
 have HB2:=Lib.hid hB2;clear hB2
 have HSRC2:=Lib.hid hsrc2;clear hsrc2
 have HL2:=Lib.hid hl2;clear hl2
 have HFIN:=Lib.hid hfin;clear hfin
 clear hG0 hB1
 go_upto_region 11 with (refine wpList_copy_rowS rfl (.tmp 43) (.tmp 44) 93 26 rfl 3 1 Try.underlying93 (by kernel_rfl) rfl rfl HG0.out (eI x) HN1.out HSRC1.out HF1.out H11.out ?_;intro W2 e2;subst e2)
 generalize W1.setRow w.heap.size (splice (X++(Z++spare)) (i) (eI x)).toArray=W2 at *
 generalize splice (X++(Z++spare)) (i) (eI x)=R2 at *
 have HG1:Hid (W2.drew.heap[w.heap.size]? = some (.cells R2.toArray 3 (0,0))):=HG1
 have HSRC2:Hid (∀ j v,Y[j]? = some v→W2.drew.cell? ((⟨g,i,none⟩:Addr).add j)=some v):=HSRC2
 have hn2:Y.length=Nat.min (n - i) (n - i) * 1:=by rw [HX2.out];congr 1;simp only [Nat.min_def];split <;> omega
 have hf2:(i+1)+Y.length≤R2.length:=by rw [HL2.out,HLEN.out,HX2.out];omega
 have h12:∀ v∈Y,v.oneCell' = true:=fun v hv=>by rw [← EY.out] at hv;obtain ⟨y,_,h⟩:=List.mem_flatMap.1 hv;exact eI_ok.one y v h
 have hcm2:cap2≤maxLen:=hcm
 have hret:OwnE (W2.drew.setRow w.heap.size (splice R2 ((i+1)) Y).toArray) B 3 eI 1 (.slice (some ⟨w.heap.size,0,none⟩) (n+1) cap2) (insAt l i x):=by
  have hl:(insAt l i x).length=n+1:=by rw [insAt_len l i x (by rw [← HN.out];omega),HN.out]
  refine Or.inr ⟨flat_len eI_ok.len _,Or.inr ⟨w.heap.size,cap2,((insAt l i x).flatMap eI++spare).toArray,by rw [hl],hB,?_,by omega,hcm2,?_,?_⟩⟩
  ·have:=setRow_heap W2.drew w.heap.size _ (splice R2 ((i+1)) Y).toArray 3 (0,0) HG1.out
   rw [this]
   have e:=HFIN.out
   rw [show i+1=(i+1) by omega] at e
   rw [e]
  ·have e:=congrArg List.length HFIN.out
   rw [length_splice _ _ _ (by rw [show i+1=(i+1) by omega];exact hf2),HL2.out,HLEN.out] at e
   first | exact e.symm | simpa using e.symm
  ·rw [← flat_len eI_ok.len];exact List.take_left
 have hbel:Below w.heap.size w (W2.drew.setRow w.heap.size (splice R2 ((i+1)) Y).toArray):=below_setRow' HB2.out.drew (Nat.le_refl _) _
 have HN2:=Lib.hid hn2;clear hn2
 have HF2:=Lib.hid hf2;clear hf2
 have H12:=Lib.hid h12;clear h12
 have HRET:=Lib.hid hret;clear hret
 have HBEL:=Lib.hid hbel;clear hbel
 have hw1:IntKind.i64.wrap ((i:Int)+(1:Int))=(i:Int)+(1:Int):=by rw [IntKind.wrap_i64];omega
 have hb1:(0:Int)≤(i:Int)+(1:Int):=by omega
 have htn:((i:Int)+(1:Int)).toNat=i+1:=by omega
 have hb3:(i:Int)+1≤(n:Int)+1:=by omega
 have hb4:¬ (cap2=i+1):=by omega
 have hb5:¬ (n=i):=by omega
 go_region_law (refine step_copy_rowS (off:=(i+1)) (dCap:=cap2 - (i+1)) (ad:=⟨g,i,none⟩) (sCap:=n - i) rfl (.tmp 50) (.tmp 53) 93 93 rfl 3 1 Try.underlying93 (by kernel_rfl) (by simp [Act.eval,Act.put]) (by simp [Act.eval,Act.put]) HG1.out Y HN2.out HSRC2.out HF2.out H12.out ?_;intro W3 e3;subst e3)
 go_wp2
 go_ret
 exact ⟨_,rfl,HRET.out,HBEL.out.mono hB⟩
set_option maxRecDepth 100000 in
set_option maxHeartbeats 1000000 in
theorem insert_set_room {w:World} {B g n cap i nb:Nat} {l:List Int} {x:Int} (hn:n=l.length) (hi:i<n)
  (hown:w.ownsRow B 3 1 (.slice (some ⟨g,0,none⟩) n cap) l.length (l.flatMap eI)) (hx:w.heap[nb]? = some (.cells (eI x).toArray 3)) (hne:nb≠g) (hc:n+1≤cap) :
  Calls Try.prog 86 #[.slice (some ⟨g,0,none⟩) n cap,.int .i64 i,.slice (some ⟨nb,0,none⟩) 1 1] w (RetB w B 3 eI 1 (insAt l i x)):=by
 obtain ⟨hlen0,⟨h0,_⟩ | ⟨g',cap',cur,he,hBg,hg,_,hcm,hcs,htk⟩⟩:=hown
 ·cases h0
 simp only [Value.slice.injEq,Option.some.injEq,Addr.mk.injEq] at he
 obtain ⟨⟨rfl,-⟩,-,rfl⟩:=he
 have hX1:((l.take i).flatMap eI).length=i:=by rw [flat_len eI_ok.len,List.length_take,← hn];omega
 have hX2:((l.drop i).flatMap eI).length=(n - i) * 1:=by rw [flat_len eI_ok.len,List.length_drop,← hn]
 have hsplit:l.flatMap eI=(l.take i).flatMap eI++(l.drop i).flatMap eI:=by rw [← List.flatMap_append,List.take_append_drop]
 obtain ⟨X,eX⟩:∃ X,(l.take i).flatMap eI=X:=⟨_,rfl⟩
 obtain ⟨Y,eY⟩:∃ Y,(l.drop i).flatMap eI=Y:=⟨_,rfl⟩
 obtain ⟨S,eS⟩:∃ S,cur.toList.drop (n * 1)=S:=⟨_,rfl⟩
 rw [eX] at hX1
 rw [eY] at hX2
 rw [eX,eY] at hsplit
 have hS:S.length=(cap - n) * 1:=by rw [← eS,List.length_drop,Array.length_toList,hcs];omega
 have hcur:cur=(X++(Y++S)).toArray:=by
  have h1:cur.toList=X++(Y++S):=by rw [← List.append_assoc,← hsplit,← htk,← hn,← eS,List.take_append_drop]
  rw [← h1]
 subst hcur
 clear hlen0 hcs htk eS hsplit
 have hl0:(X++(Y++S)).length=cap * 1:=by simp only [List.length_append,hX1,hX2,hS];omega
 have h1Y:∀ v∈Y,v.oneCell' = true:=fun v hv=>by rw [← eY] at hv;obtain ⟨y,_,h⟩:=List.mem_flatMap.1 hv;exact eI_ok.one y v h
 have hov:∀ lb cb,(callFunc 92 #[.slice (some ⟨nb,0,none⟩) 1 1,.slice (some ⟨g,(i+1),none⟩) lb cb]).run Try.prog w = .ok (.value (.bool false)) w:=fun lb cb=>by
  rw [run_callFunc_extern Try.func92 (by kernel_rfl) (by kernel_rfl) (by kernel_rfl) (e:=Extern.SlicesOverlaps.overlaps #[26,26] #[4]) (by kernel_rfl),
   Lib.run_overlaps_apart w 26 4 3 Try.underlying26 1 (fun w=>zI.sizeOf w) ⟨nb,0,none⟩ ⟨g,(i+1),none⟩ 1 1 lb cb hne _ _ _ _ (by simp only [World.shape?,hx];rfl) (by simp only [World.shape?,hg];rfl)
    (by rw [List.size_toArray,hl0];omega) (by simp [World.frozen?,hx]) (by simp [World.frozen?,hx])]
  rfl
 have hg0:w.drew.heap[g]? = some (.cells (X++(Y++S)).toArray 3 (0,0)):=hg
 have hsrcY:∀ j v,Y[j]? = some v→w.drew.cell? ((⟨g,i,none⟩:Addr).add j)=some v:=fun j v hv=>by
  have ea:(⟨g,i,none⟩:Addr).add j=⟨g,i+j,none⟩:=by unfold Addr.add;split <;> simp_all
  rw [ea,cell_of_row w.drew g (i+j) _ _ (0,0) hg0]
  rw [List.getElem?_toArray,List.getElem?_append_right (by rw [hX1];omega),hX1,show i+j - i=j by omega,List.getElem?_append_left (List.getElem?_eq_some_iff.1 hv).1]
  exact hv
 have hnY:Y.length=Nat.min (n+1 - i) (n - i) * 1:=by rw [hX2];congr 1;simp only [Nat.min_def];split <;> omega
 have hfY:(i+1)+Y.length≤(X++(Y++S)).length:=by rw [hl0,hX2];omega
 have hl1:(splice (X++(Y++S)) ((i+1)) Y).length=(X++(Y++S)).length:=length_splice _ _ _ hfY
 have hg1:=setRow_heap w.drew g _ (splice (X++(Y++S)) ((i+1)) Y).toArray 3 (0,0) hg0
 have hx1:(w.drew.setRow g (splice (X++(Y++S)) ((i+1)) Y).toArray).heap[nb]? = some (.cells (eI x).toArray 3):=(setRow_other _ _ _ _ hne).trans hx
 have hnx:(eI x).length=Nat.min 1 (n+1 - i) * 1:=by rw [eI_ok.len];have:Nat.min 1 (n+1 - i)=1:=Nat.min_eq_left (by omega);rw [this]
 have hfx:i+(eI x).length≤(splice (X++(Y++S)) ((i+1)) Y).length:=by rw [hl1,hl0,eI_ok.len];omega
 have hsrcx:∀ j v,(eI x)[j]? = some v→(w.drew.setRow g (splice (X++(Y++S)) ((i+1)) Y).toArray).cell? ((⟨nb,0,none⟩:Addr).add j)=some v:=fun j v hv=>by
  rw [show (⟨nb,0,none⟩:Addr).add j=⟨nb,j,none⟩ by unfold Addr.add;split <;> simp_all,cell_of_row _ nb j _ _ (0,0) hx1]
  simpa using hv
 have hfin:splice (splice (X++(Y++S)) ((i+1)) Y) (i) (eI x)=(insAt l i x).flatMap eI++S.drop 1:=by
  rw [show (i+1)=i+1 by omega,splice_ins X Y S (eI x) (i) 1 hX1 (eI_ok.len x) (by rw [hS];omega)]
  simp only [insAt,List.flatMap_append,List.flatMap_cons,eX,eY,List.append_assoc]
 have hl2:=length_splice (splice (X++(Y++S)) ((i+1)) Y) (i) (eI x) hfx
 have hret:OwnE ((w.drew.setRow g (splice (X++(Y++S)) ((i+1)) Y).toArray).setRow g (splice (splice (X++(Y++S)) ((i+1)) Y) (i) (eI x)).toArray) B 3 eI 1 (.slice (some ⟨g,0,none⟩) (n+1) cap) (insAt l i x):=by
  have hl:(insAt l i x).length=n+1:=by rw [insAt_len l i x (by rw [← hn];omega),hn]
  refine Or.inr ⟨flat_len eI_ok.len _,Or.inr ⟨g,cap,((insAt l i x).flatMap eI++S.drop 1).toArray,by rw [hl],hBg,?_,by omega,hcm,?_,?_⟩⟩
  ·rw [setRow_heap _ g _ _ 3 (0,0) hg1,hfin]
  ·rw [List.size_toArray,← hfin,hl2,hl1,hl0]
  ·rw [← flat_len eI_ok.len];exact List.take_left
 have hbel:Below B w ((w.drew.setRow g (splice (X++(Y++S)) ((i+1)) Y).toArray).setRow g (splice (splice (X++(Y++S)) ((i+1)) Y) (i) (eI x)).toArray) :=
  below_setRow' (below_setRow' (Below.refl _ _).drew hBg _) hBg _
 have h1x:∀ v∈eI x,v.oneCell' = true:=eI_ok.one x
 have hnn:¬ ((n:Int)+1>(cap:Int)):=by omega
 have hin:((i:Int) == (n:Int))=false:=by rw [beq_eq_false_iff_ne];omega
 have hii:(i:Int)≤(n:Int):=by omega
 have hnb:cap≤9223372036854775807:=by unfold maxLen at hcm;omega
 have hw1:IntKind.i64.wrap ((i:Int)+(1:Int))=(i:Int)+(1:Int):=by rw [IntKind.wrap_i64];omega
 have hb1:(0:Int)≤(i:Int)+(1:Int):=by omega
 have htn:((i:Int)+(1:Int)).toNat=i+1:=by omega
 have hb3:(i:Int)+1≤(n:Int)+1:=by omega
 have hb4:¬ (cap=i+1):=by omega
 have hb5:¬ (cap=i):=by omega
 have hb6:(i:Int)≤(n:Int)+1:=by omega
 have HG0:=Lib.hid hg0
 have HG1:=Lib.hid hg1
 have HNY:=Lib.hid hnY
 have HSY:=Lib.hid hsrcY
 have HFY:=Lib.hid hfY
 have H1Y:=Lib.hid h1Y
 have HNX:=Lib.hid hnx
 have HSX:=Lib.hid hsrcx
 have HFX:=Lib.hid hfx
 have H1X:=Lib.hid h1x
 have HRET:=Lib.hid hret
 have HBEL:=Lib.hid hbel
 clear hg hx hg0 hg1 hnY hsrcY hfY h1Y hnx hsrcx hfx h1x hret hbel hl0 hl1 hl2 hfin hx1 hX1 hX2 hS eX eY hn hBg hne
 go_enter Try.func86,Try.ntmps86
 go_upto_region 15 with (simp only [hov])
 go_region_law (refine step_copy_rowS (off:=(i+1)) (dCap:=cap - (i+1)) (ad:=⟨g,i,none⟩) (sCap:=cap - i) rfl (.tmp 73) (.tmp 76) 93 93 rfl 3 1 Try.underlying93 (by kernel_rfl) (by simp [Act.eval,Act.put]) (by simp [Act.eval,Act.put]) HG0.out Y HNY.out HSY.out HFY.out H1Y.out ?_;intro W3 e3;subst e3)
 generalize w.drew.setRow g (splice (X++(Y++S)) ((i+1)) Y).toArray=W2 at *
 generalize splice (X++(Y++S)) ((i+1)) Y=R2 at *
 go_wp2_with (refine wpList_copy_rowS rfl (.tmp 80) (.tmp 81) 93 26 rfl 3 1 Try.underlying93 (by kernel_rfl) rfl rfl HG1.out (eI x) HNX.out HSX.out HFX.out H1X.out ?_;intro W3 e3;subst e3)
 go_ret
 exact ⟨_,rfl,HRET.out,HBEL.out⟩
set_option maxRecDepth 100000 in
set_option maxHeartbeats 1000000 in
theorem insert_set_end {w:World} {B nb:Nat} {v:Value} {l:List Int} {x:Int} (hB:B≤w.heap.size)
  (hown:OwnE w B 3 eI 1 v l) (hx:w.heap[nb]? = some (.cells (eI x).toArray 3)) (hbig:(l.length+1) * 8≤140737488355328) :
  Calls Try.prog 86 #[v,.int .i64 l.length,.slice (some ⟨nb,0,none⟩) 1 1] w (RetB w B 3 eI 1 (l++[x])):=by
 have hx1:Arr w eI 1 (.slice (some ⟨nb,0,none⟩) 1 1) [x]:=by
  refine ⟨_,1,rfl,Nat.le_refl _,by unfold maxLen;omega,Or.inr ⟨nb,0,rfl,fun k y hk j u hu=>?_⟩⟩
  have hk0:k=0:=by have:=(List.getElem?_eq_some_iff.1 hk).1;simpa using this
  subst hk0
  simp only [List.getElem?_cons_zero,Option.some.injEq] at hk
  subst hk
  rw [cell_of_row w nb _ _ _ (0,0) hx]
  simpa using hu
 have hlen:l.length≤9223372036854775807:=by omega
 have HX:=Lib.hid hx1;clear hx1
 have H63:Hid (l.length+([x]:List Int).length≤maxLen):=by show _≤_;unfold maxLen;simp only [List.length_singleton];omega
 have HBG:Hid ((l.length+([x]:List Int).length) * 8≤140737488355328):=hbig
 have H63' : Hid (([x]:List Int).length≤maxLen):=by show _≤_;unfold maxLen;simp
 have HBG' : Hid (([x]:List Int).length * 8≤140737488355328):=by show _≤_;simp
 rcases hown with ⟨rfl,ba,rfl⟩ | hown
 ·rcases ba with _ | ba
  ·go_enter Try.func86,Try.ntmps86
   go_wp2_with (at_builtin;refine wpList_append_empty2 rfl (.tmp 23) (.tmp 24) rfl Try.underlying26 tE_set eI_ok rfl rfl HX.out HBG'.out H63'.out ?_;intro v' w' hb ho)
   have HO:=Lib.hid ho;clear ho
   go_wp2
   go_ret
   exact ⟨v',rfl,HO.out.base hB,hb.mono hB⟩
  ·go_enter Try.func86,Try.ntmps86
   go_wp2_with (at_builtin;refine wpList_append_empty2 rfl (.tmp 23) (.tmp 24) rfl Try.underlying26 tE_set eI_ok rfl rfl HX.out HBG'.out H63'.out ?_;intro v' w' hb ho)
   have HO:=Lib.hid ho;clear ho
   go_wp2
   go_ret
   exact ⟨v',rfl,HO.out.base hB,hb.mono hB⟩
 ·obtain ⟨ba,cap,rfl⟩:=own_form hown
  have hbl:∀ k,(Value.slice ba l.length cap).ownBlock=some k→B≤k:=fun k hk=>(hown.lt k hk).1
  have HOWN:=Lib.hid hown;clear hown
  have HBL:=Lib.hid hbl;clear hbl
  rcases ba with _ | ba
  ·go_enter Try.func86,Try.ntmps86
   go_wp2_with (at_builtin;refine wpList_append_arr2 rfl (.tmp 23) (.tmp 24) rfl Try.underlying26 tE_set B rfl HOWN.out eI_ok rfl HX.out HBG.out H63.out hB ?_;intro v' w' ho hg;have HO:=Lib.hid ho;clear ho;have HG:=Lib.hid hg;clear hg)
   go_wp2
   all_goals (go_ret;exact ⟨v',rfl,Or.inr (by simpa using HO.out),below_grown hB HG.out HBL.out⟩)
  ·go_enter Try.func86,Try.ntmps86
   go_wp2_with (at_builtin;refine wpList_append_arr2 rfl (.tmp 23) (.tmp 24) rfl Try.underlying26 tE_set B rfl HOWN.out eI_ok rfl HX.out HBG.out H63.out hB ?_;intro v' w' ho hg;have HO:=Lib.hid ho;clear ho;have HG:=Lib.hid hg;clear hg)
   go_wp2
   all_goals (go_ret;exact ⟨v',rfl,Or.inr (by simpa using HO.out),below_grown hB HG.out HBL.out⟩)
theorem insert_set {w:World} {B nb i:Nat} {v:Value} {l:List Int} {x:Int} (hi:i≤l.length) (hB:B≤w.heap.size)
  (hown:OwnE w B 3 eI 1 v l) (hx:w.heap[nb]? = some (.cells (eI x).toArray 3)) (hne:∀ k,v.ownBlock=some k→l≠[]→nb≠k) (hbig:(l.length+1) * 8≤140737488355328) :
  Calls Try.prog 86 #[v,.int .i64 i,.slice (some ⟨nb,0,none⟩) 1 1] w (RetB w B 3 eI 1 (insAt l i x)):=by
 by_cases he:i=l.length
 ·subst he
  have e:insAt l l.length x=l++[x]:=by simp [insAt]
  rw [e]
  exact insert_set_end hB hown hx hbig
 ·have hl:l≠[]:=by rintro rfl;simp at hi;exact he (by simpa using hi)
  rcases hown with ⟨h,_⟩ | hown
  ·exact absurd h hl
  have hown0:=hown
  obtain ⟨_,⟨_,h⟩ | ⟨g,cap,cur,rfl,hBg,hg,hnc,_⟩⟩:=hown
  ·exact absurd (List.eq_nil_of_length_eq_zero h) hl
  by_cases hc:l.length=cap
  ·exact insert_set_grow rfl (by omega) hB hown0 hx hc hbig
  ·exact insert_set_room rfl (by omega) hown0 hx (hne g rfl hl) (by omega)
end Go.Proofs.Ytgljbdcamagdbaa
namespace Go.Proofs.Ytgljbdcamagdbaa
open Go.RowKit
def delAt {α:Type} (l:List α) (i:Nat):List α:=l.take i++l.drop (i+1)
theorem delAt_len {α:Type} (l:List α) (i:Nat) (hi:i<l.length):(delAt l i).length=l.length - 1:=by simp [delAt];omega
theorem splice_take {α:Type} (L cs:List α) (o:Nat) (ho:o≤L.length):(splice L o cs).take o=L.take o:=by
 unfold splice
 rw [List.take_append,List.length_take,Nat.min_eq_left ho,Nat.sub_self,List.take_zero,List.append_nil,List.take_take,Nat.min_self]
theorem splice_mid {α:Type} (X W Y:List α) (k:Nat) (hk:X.length=k):(splice (X++W) k Y).take (k+Y.length)=X++Y:=by
 subst hk
 unfold splice
 rw [List.take_left,show X.length+Y.length=(X++Y).length by simp,← List.append_assoc,List.take_left]
set_option maxRecDepth 100000 in
set_option maxHeartbeats 1000000 in
theorem delete_set {w:World} {B i:Nat} {v:Value} {l:List Int} (hi:i<l.length) (hown:OwnE w B 3 eI 1 v l) :
  Calls Try.prog 89 #[v,.int .i64 i,.int .i64 ((i:Int)+1)] w (RetB w B 3 eI 1 (delAt l i)):=by
 rcases hown with ⟨rfl,_⟩ | hown
 ·simp at hi
 obtain ⟨hlen0,⟨rfl,h0⟩ | ⟨g,cap,cur,rfl,hBg,hg,hnc,hcm,hcs,htk⟩⟩:=hown
 ·omega
 obtain ⟨n,hn⟩:∃ n,n=l.length:=⟨_,rfl⟩
 rw [← hn] at hi hnc htk hlen0 ⊢
 have hl:l=l.take i++l[i] :: l.drop (i+1):=by rw [← List.drop_eq_getElem_cons (by omega),List.take_append_drop]
 have hX1:((l.take i).flatMap eI).length=i:=by rw [flat_len eI_ok.len,List.length_take,← hn];omega
 have hX2:((l.drop (i+1)).flatMap eI).length=(n - (i+1)) * 1:=by rw [flat_len eI_ok.len,List.length_drop,← hn]
 have hE:(eI l[i]).length=1:=eI_ok.len _
 have hsplit:l.flatMap eI=(l.take i).flatMap eI++(eI l[i]++(l.drop (i+1)).flatMap eI):=by
  conv=>lhs;rw [hl]
  simp only [List.flatMap_append,List.flatMap_cons]
 obtain ⟨X,eX⟩:∃ X,(l.take i).flatMap eI=X:=⟨_,rfl⟩
 obtain ⟨Y,eY⟩:∃ Y,(l.drop (i+1)).flatMap eI=Y:=⟨_,rfl⟩
 obtain ⟨E,eE⟩:∃ E,eI l[i]=E:=⟨_,rfl⟩
 obtain ⟨S,eS⟩:∃ S,cur.toList.drop (n * 1)=S:=⟨_,rfl⟩
 rw [eX] at hX1
 rw [eY] at hX2
 rw [eE] at hE
 rw [eX,eY,eE] at hsplit
 have hS:S.length=(cap - n) * 1:=by rw [← eS,List.length_drop,Array.length_toList,hcs];omega
 have hcur:cur=(X++(E++(Y++S))).toArray:=by
  have h1:cur.toList=X++(E++(Y++S)):=by rw [← List.append_assoc E,← List.append_assoc X,← hsplit,← htk,← eS,List.take_append_drop]
  rw [← h1]
 subst hcur
 clear hlen0 hcs htk eS hsplit hl
 have hl0:(X++(E++(Y++S))).length=cap * 1:=by simp only [List.length_append,hX1,hX2,hE,hS];omega
 have h1Y:∀ v∈Y,v.oneCell' = true:=fun v hv=>by rw [← eY] at hv;obtain ⟨y,_,h⟩:=List.mem_flatMap.1 hv;exact eI_ok.one y v h
 have hg0:w.drew.heap[g]? = some (.cells (X++(E++(Y++S))).toArray 3 (0,0)):=hg
 have hsrcY:∀ j v,Y[j]? = some v→w.drew.cell? ((⟨g,i+1,none⟩:Addr).add j)=some v:=fun j v hv=>by
  have ea:(⟨g,i+1,none⟩:Addr).add j=⟨g,i+1+j,none⟩:=by unfold Addr.add;split <;> simp_all
  rw [ea,cell_of_row w.drew g (i+1+j) _ _ (0,0) hg0]
  rw [List.getElem?_toArray,List.getElem?_append_right (by rw [hX1];omega),hX1,show i+1+j - i=1+j by omega,List.getElem?_append_right (by rw [hE];omega),hE,show 1+j - 1=j by omega,List.getElem?_append_left (List.getElem?_eq_some_iff.1 hv).1]
  exact hv
 have hnY:Y.length=(n - (i+1)) * 1:=hX2
 have hroom:i+(n - (i+1))≤cap:=by omega
 have hfY:0+i * 1+Y.length≤(X++(E++(Y++S))).length:=by rw [hl0,hX2];omega
 have hl1:(splice (X++(E++(Y++S))) (i) Y).length=(X++(E++(Y++S))).length:=length_splice _ _ _ (by rw [hl0,hX2];omega)
 have hg1:=setRow_heap w.drew g _ (splice (X++(E++(Y++S))) (i) Y).toArray 3 (0,0) hg0
 have hfz:n - 1+1 * 1≤(splice (X++(E++(Y++S))) (i) Y).length:=by rw [hl1,hl0];omega
 have htake:(splice (X++(E++(Y++S))) (i) Y).take ((n - 1) * 1)=(delAt l i).flatMap eI:=by
  have:=splice_mid X (E++(Y++S)) Y (i) hX1
  rw [show (n - 1) * 1=i+Y.length by rw [hX2];omega,this]
  simp only [delAt,List.flatMap_append,eX,eY]
 have hdl:(delAt l i).length=n - 1:=by rw [delAt_len l i (by omega),hn]
 have hret:∀ cs:List Value,cs.length=1 * 1→OwnE ((w.drew.setRow g (splice (X++(E++(Y++S))) (i) Y).toArray).setRow g (splice (splice (X++(E++(Y++S))) (i) Y) (n - 1) cs).toArray) B 3 eI 1 (.slice (some ⟨g,0,none⟩) (n - 1) cap) (delAt l i):=by
  intro cs hc
  refine Or.inr ⟨flat_len eI_ok.len _,Or.inr ⟨g,cap,_,by rw [hdl],hBg,setRow_heap _ g _ _ 3 (0,0) hg1,by rw [hdl];omega,hcm,?_,?_⟩⟩
  ·rw [List.size_toArray,length_splice _ _ _ (by rw [hc];exact hfz),hl1,hl0]
  ·rw [hdl,← htake,List.toList_toArray]
   rw [show (n - 1) * 1=n - 1 by omega]
   exact splice_take _ _ _ (by rw [hl1,hl0];omega)
 have hbel:∀ cs:List Value,Below B w ((w.drew.setRow g (splice (X++(E++(Y++S))) (i) Y).toArray).setRow g (splice (splice (X++(E++(Y++S))) (i) Y) (n - 1) cs).toArray) :=
  fun cs=>below_setRow' (below_setRow' (Below.refl _ _).drew hBg _) hBg _
 have hne:((i:Int) == (i:Int)+1)=false:=by rw [beq_eq_false_iff_ne];omega
 have hi1:(i:Int)+1≤(n:Int):=by omega
 have hi0:(i:Int)≤(i:Int)+1:=by omega
 have hi2:(0:Int)≤(i:Int)+1:=by omega
 have hi3:((i:Int)+1).toNat=i+1:=by omega
 have hi4:(i:Int)≤(cap:Int):=by omega
 have hi5:(n:Int)≤(cap:Int):=by omega
 have hnb:cap≤9223372036854775807:=by unfold maxLen at hcm;omega
 have ei:i+(n - (i+1))=n - 1:=by omega
 have hk0:¬ n=i:=by omega
 have hk1:¬ cap=0:=by omega
 have hk2:¬ cap=n - 1:=by omega
 have hk3:n - (n - 1)=1:=by omega
 have hk4:((n - 1:Nat):Int)≤(n:Int):=by omega
 have HRM:=Lib.hid hroom
 have HG0:=Lib.hid hg0
 have HG1:=Lib.hid hg1
 have HNY:=Lib.hid hnY
 have HSY:=Lib.hid hsrcY
 have HFY:=Lib.hid hfY
 have H1Y:=Lib.hid h1Y
 have HFZ:=Lib.hid hfz
 have HRET:=Lib.hid hret
 have HBEL:=Lib.hid hbel
 have EI:=Lib.hid ei
 clear hg hg0 hg1 hnY hsrcY hfY h1Y hfz hret hbel hl0 hl1 htake hdl hX1 hX2 hE hS eX eY eE hn hBg hroom ei
 by_cases hcp:cap=i+1
 ·have HSY0:Hid (∀ j v,Y[j]? = some v→w.drew.cell? ((⟨g,0,none⟩:Addr).add j)=some v):=fun j v hv=>by
   have h:=(List.getElem?_eq_some_iff.1 hv).1
   have:=HNY.out
   omega
  clear HSY;have HSY:=HSY0;clear HSY0
  subst hcp
  have hn1:n=i+1:=by omega
  subst hn1
  have HNY0:Hid (Y.length=0 * 1):=HNY.out.trans (by omega)
  have HRM0:Hid (i+0≤i+1):=by show _≤_;omega
  go_enter Try.func89,Try.ntmps89
  go_upto_region 5 with (fail)
  go_region_law (refine step_append_rowS (off:=0) (n:=i) (cap:=i+1) (ad:=⟨g,0,none⟩) (m:=0) (c:=0) rfl (.tmp 22) (.tmp 25) 93 rfl zI Try.underlying93 (by simp [Act.eval,Act.put]) (by simp [Act.eval,Act.put]) HG0.out Y HNY0.out HRM0.out HSY.out HFY.out H1Y.out ?_;intro W3 e3;subst e3)
  rw [EI.out] at *
  generalize w.drew.setRow g (splice (X++(E++(Y++S))) (i) Y).toArray=W2 at *
  go_wp2_with (refine wpList_clear_rowS rfl (.tmp 31) 93 rfl zI Try.underlying93 rfl HG1.out (by simp) HFZ.out ?_;intro W3 cs hcs e3;subst e3;have HCS:=Lib.hid hcs;clear hcs)
  go_ret
  exact ⟨_,rfl,HRET.out cs HCS.out,HBEL.out cs⟩
 ·skip
  go_enter Try.func89,Try.ntmps89
  go_upto_region 5 with (fail)
  go_region_law (refine step_append_rowS (off:=0) (n:=i) (cap:=cap) (ad:=⟨g,i+1,none⟩) (m:=n - (i+1)) (c:=cap - (i+1)) rfl (.tmp 22) (.tmp 25) 93 rfl zI Try.underlying93 (by simp [Act.eval,Act.put]) (by simp [Act.eval,Act.put]) HG0.out Y HNY.out HRM.out HSY.out HFY.out H1Y.out ?_;intro W3 e3;subst e3)
  rw [EI.out] at *
  generalize w.drew.setRow g (splice (X++(E++(Y++S))) (i) Y).toArray=W2 at *
  go_wp2_with (refine wpList_clear_rowS rfl (.tmp 31) 93 rfl zI Try.underlying93 rfl HG1.out (by simp) HFZ.out ?_;intro W3 cs hcs e3;subst e3;have HCS:=Lib.hid hcs;clear hcs)
  go_ret
  exact ⟨_,rfl,HRET.out cs HCS.out,HBEL.out cs⟩
set_option maxRecDepth 100000 in
set_option maxHeartbeats 1000000 in
theorem delete_table {w:World} {B i:Nat} {v:Value} {l:List (Int×Int)} (hi:i<l.length) (hown:OwnE w B 76 eP 2 v l) :
  Calls Try.prog 103 #[v,.int .i64 i,.int .i64 ((i:Int)+1)] w (RetB w B 76 eP 2 (delAt l i)):=by
 rcases hown with ⟨rfl,_⟩ | hown
 ·simp at hi
 obtain ⟨hlen0,⟨rfl,h0⟩ | ⟨g,cap,cur,rfl,hBg,hg,hnc,hcm,hcs,htk⟩⟩:=hown
 ·omega
 obtain ⟨n,hn⟩:∃ n,n=l.length:=⟨_,rfl⟩
 rw [← hn] at hi hnc htk hlen0 ⊢
 have hl:l=l.take i++l[i] :: l.drop (i+1):=by rw [← List.drop_eq_getElem_cons (by omega),List.take_append_drop]
 have hX1:((l.take i).flatMap eP).length=i * 2:=by rw [flat_len eP_ok.len,List.length_take,← hn];omega
 have hX2:((l.drop (i+1)).flatMap eP).length=(n - (i+1)) * 2:=by rw [flat_len eP_ok.len,List.length_drop,← hn]
 have hE:(eP l[i]).length=2:=eP_ok.len _
 have hsplit:l.flatMap eP=(l.take i).flatMap eP++(eP l[i]++(l.drop (i+1)).flatMap eP):=by
  conv=>lhs;rw [hl]
  simp only [List.flatMap_append,List.flatMap_cons]
 obtain ⟨X,eX⟩:∃ X,(l.take i).flatMap eP=X:=⟨_,rfl⟩
 obtain ⟨Y,eY⟩:∃ Y,(l.drop (i+1)).flatMap eP=Y:=⟨_,rfl⟩
 obtain ⟨E,eE⟩:∃ E,eP l[i]=E:=⟨_,rfl⟩
 obtain ⟨S,eS⟩:∃ S,cur.toList.drop (n * 2)=S:=⟨_,rfl⟩
 rw [eX] at hX1
 rw [eY] at hX2
 rw [eE] at hE
 rw [eX,eY,eE] at hsplit
 have hS:S.length=(cap - n) * 2:=by rw [← eS,List.length_drop,Array.length_toList,hcs];omega
 have hcur:cur=(X++(E++(Y++S))).toArray:=by
  have h1:cur.toList=X++(E++(Y++S)):=by rw [← List.append_assoc E,← List.append_assoc X,← hsplit,← htk,← eS,List.take_append_drop]
  rw [← h1]
 subst hcur
 clear hlen0 hcs htk eS hsplit hl
 have hl0:(X++(E++(Y++S))).length=cap * 2:=by simp only [List.length_append,hX1,hX2,hE,hS];omega
 have h1Y:∀ v∈Y,v.oneCell' = true:=fun v hv=>by rw [← eY] at hv;obtain ⟨y,_,h⟩:=List.mem_flatMap.1 hv;exact eP_ok.one y v h
 have hg0:w.drew.heap[g]? = some (.cells (X++(E++(Y++S))).toArray 76 (0,0)):=hg
 have hsrcY:∀ j v,Y[j]? = some v→w.drew.cell? ((⟨g,(i+1) * 2,none⟩:Addr).add j)=some v:=fun j v hv=>by
  have ea:(⟨g,(i+1) * 2,none⟩:Addr).add j=⟨g,(i+1) * 2+j,none⟩:=by unfold Addr.add;split <;> simp_all
  rw [ea,cell_of_row w.drew g ((i+1) * 2+j) _ _ (0,0) hg0]
  rw [List.getElem?_toArray,List.getElem?_append_right (by rw [hX1];omega),hX1,show (i+1) * 2+j - i * 2=2+j by omega,List.getElem?_append_right (by rw [hE];omega),hE,show 2+j - 2=j by omega,List.getElem?_append_left (List.getElem?_eq_some_iff.1 hv).1]
  exact hv
 have hnY:Y.length=(n - (i+1)) * 2:=hX2
 have hroom:i+(n - (i+1))≤cap:=by omega
 have hfY:0+i * 2+Y.length≤(X++(E++(Y++S))).length:=by rw [hl0,hX2];omega
 have hl1:(splice (X++(E++(Y++S))) (i * 2) Y).length=(X++(E++(Y++S))).length:=length_splice _ _ _ (by rw [hl0,hX2];omega)
 have hg1:=setRow_heap w.drew g _ (splice (X++(E++(Y++S))) (i * 2) Y).toArray 76 (0,0) hg0
 have hfz:(n - 1) * 2+1 * 2≤(splice (X++(E++(Y++S))) (i * 2) Y).length:=by rw [hl1,hl0];omega
 have htake:(splice (X++(E++(Y++S))) (i * 2) Y).take ((n - 1) * 2)=(delAt l i).flatMap eP:=by
  have:=splice_mid X (E++(Y++S)) Y (i * 2) hX1
  rw [show (n - 1) * 2=i * 2+Y.length by rw [hX2];omega,this]
  simp only [delAt,List.flatMap_append,eX,eY]
 have hdl:(delAt l i).length=n - 1:=by rw [delAt_len l i (by omega),hn]
 have hret:∀ cs:List Value,cs.length=1 * 2→OwnE ((w.drew.setRow g (splice (X++(E++(Y++S))) (i * 2) Y).toArray).setRow g (splice (splice (X++(E++(Y++S))) (i * 2) Y) ((n - 1) * 2) cs).toArray) B 76 eP 2 (.slice (some ⟨g,0,none⟩) (n - 1) cap) (delAt l i):=by
  intro cs hc
  refine Or.inr ⟨flat_len eP_ok.len _,Or.inr ⟨g,cap,_,by rw [hdl],hBg,setRow_heap _ g _ _ 76 (0,0) hg1,by rw [hdl];omega,hcm,?_,?_⟩⟩
  ·rw [List.size_toArray,length_splice _ _ _ (by rw [hc];exact hfz),hl1,hl0]
  ·rw [hdl,← htake,List.toList_toArray]
   rw [show (n - 1) * 2=(n - 1) * 2 by omega]
   exact splice_take _ _ _ (by rw [hl1,hl0];omega)
 have hbel:∀ cs:List Value,Below B w ((w.drew.setRow g (splice (X++(E++(Y++S))) (i * 2) Y).toArray).setRow g (splice (splice (X++(E++(Y++S))) (i * 2) Y) ((n - 1) * 2) cs).toArray) :=
  fun cs=>below_setRow' (below_setRow' (Below.refl _ _).drew hBg _) hBg _
 have hne:((i:Int) == (i:Int)+1)=false:=by rw [beq_eq_false_iff_ne];omega
 have hi1:(i:Int)+1≤(n:Int):=by omega
 have hi0:(i:Int)≤(i:Int)+1:=by omega
 have hi2:(0:Int)≤(i:Int)+1:=by omega
 have hi3:((i:Int)+1).toNat=i+1:=by omega
 have hi4:(i:Int)≤(cap:Int):=by omega
 have hi5:(n:Int)≤(cap:Int):=by omega
 have hnb:cap≤9223372036854775807:=by unfold maxLen at hcm;omega
 have ei:i+(n - (i+1))=n - 1:=by omega
 have hk0:¬ n=i:=by omega
 have hk1:¬ cap=0:=by omega
 have hk2:¬ cap=n - 1:=by omega
 have hk3:n - (n - 1)=1:=by omega
 have hk4:((n - 1:Nat):Int)≤(n:Int):=by omega
 have HRM:=Lib.hid hroom
 have HG0:=Lib.hid hg0
 have HG1:=Lib.hid hg1
 have HNY:=Lib.hid hnY
 have HSY:=Lib.hid hsrcY
 have HFY:=Lib.hid hfY
 have H1Y:=Lib.hid h1Y
 have HFZ:=Lib.hid hfz
 have HRET:=Lib.hid hret
 have HBEL:=Lib.hid hbel
 have EI:=Lib.hid ei
 clear hg hg0 hg1 hnY hsrcY hfY h1Y hfz hret hbel hl0 hl1 htake hdl hX1 hX2 hE hS eX eY eE hn hBg hroom ei
 by_cases hcp:cap=i+1
 ·have HSY0:Hid (∀ j v,Y[j]? = some v→w.drew.cell? ((⟨g,0,none⟩:Addr).add j)=some v):=fun j v hv=>by
   have h:=(List.getElem?_eq_some_iff.1 hv).1
   have:=HNY.out
   omega
  clear HSY;have HSY:=HSY0;clear HSY0
  subst hcp
  have hn1:n=i+1:=by omega
  subst hn1
  have HNY0:Hid (Y.length=0 * 2):=HNY.out.trans (by omega)
  have HRM0:Hid (i+0≤i+1):=by show _≤_;omega
  go_enter Try.func103,Try.ntmps103
  go_upto_region 5 with (fail)
  go_region_law (refine step_append_rowS (off:=0) (n:=i) (cap:=i+1) (ad:=⟨g,0,none⟩) (m:=0) (c:=0) rfl (.tmp 22) (.tmp 25) 94 rfl zP Try.underlying94 (by simp [Act.eval,Act.put]) (by simp [Act.eval,Act.put]) HG0.out Y HNY0.out HRM0.out HSY.out HFY.out H1Y.out ?_;intro W3 e3;subst e3)
  rw [EI.out] at *
  generalize w.drew.setRow g (splice (X++(E++(Y++S))) (i * 2) Y).toArray=W2 at *
  go_wp2_with (refine wpList_clear_rowS rfl (.tmp 31) 94 rfl zP Try.underlying94 rfl HG1.out (by simp) HFZ.out ?_;intro W3 cs hcs e3;subst e3;have HCS:=Lib.hid hcs;clear hcs)
  go_ret
  exact ⟨_,rfl,HRET.out cs HCS.out,HBEL.out cs⟩
 ·skip
  go_enter Try.func103,Try.ntmps103
  go_upto_region 5 with (fail)
  go_region_law (refine step_append_rowS (off:=0) (n:=i) (cap:=cap) (ad:=⟨g,(i+1) * 2,none⟩) (m:=n - (i+1)) (c:=cap - (i+1)) rfl (.tmp 22) (.tmp 25) 94 rfl zP Try.underlying94 (by simp [Act.eval,Act.put]) (by simp [Act.eval,Act.put]) HG0.out Y HNY.out HRM.out HSY.out HFY.out H1Y.out ?_;intro W3 e3;subst e3)
  rw [EI.out] at *
  generalize w.drew.setRow g (splice (X++(E++(Y++S))) (i * 2) Y).toArray=W2 at *
  go_wp2_with (refine wpList_clear_rowS rfl (.tmp 31) 94 rfl zP Try.underlying94 rfl HG1.out (by simp) HFZ.out ?_;intro W3 cs hcs e3;subst e3;have HCS:=Lib.hid hcs;clear hcs)
  go_ret
  exact ⟨_,rfl,HRET.out cs HCS.out,HBEL.out cs⟩
end Go.Proofs.Ytgljbdcamagdbaa
namespace Go.Proofs.Ytgljbdcamagdbaa
open Go.RowKit
structure Pos (l:List Int) (k:Int) (i:Nat):Prop where
 le:i≤l.length
 lo:∀ j x,l[j]? = some x→j<i→x<k
 hi:∀ j x,l[j]? = some x→i≤j→k≤x
theorem inc_lt {l:List Int} (h:incB l=true):∀ (a b:Nat) (x y:Int),a<b→l[a]? = some x→l[b]? = some y→x<y:=by
 intro a b
 induction b with
 | zero=>intro x y hab;omega
 | succ b ih =>
  intro x y hab hx hy
  have hl:b<l.length:=by have:=(List.getElem?_eq_some_iff.1 hy).1;omega
  have hz:l[b]? = some l[b]:=List.getElem?_eq_getElem hl
  have h1:=(incB_iff l).1 h b _ _ hz hy
  by_cases e:a=b
  ·subst e;rw [hz] at hx;cases hx;exact h1
  ·have:=ih x _ (by omega) hx hz;omega
theorem cmpIsNaN (x:Int) (w:World):Calls Try.prog 94 #[.int .i64 x] w fun e w'=>e = .returned (.bool false)∧w' = w:=by
 go_enter Try.func94,Try.ntmps94
 go_wp2
 go_ret
 exact ⟨by simp,rfl⟩
theorem slicesIsNaN (x:Int) (w:World):Calls Try.prog 91 #[.int .i64 x] w fun e w'=>e = .returned (.bool false)∧w' = w:=by
 go_enter Try.func91,Try.ntmps91
 go_wp2
 go_ret
 exact ⟨by simp,rfl⟩
theorem cmpLess (x y:Int) (w:World):Calls Try.prog 90 #[.int .i64 x,.int .i64 y] w fun e w'=>e = .returned (.bool (decide (x<y)))∧w' = w:=by
 go_enter Try.func90,Try.ntmps90
 go_wp2_with (go_at_call 94;refine (cmpIsNaN _ _).mono ?_;rintro e w' ⟨rfl,rfl⟩)
 go_ret
 exact ⟨rfl,rfl⟩
def RetS (W:World) (l:List Int) (k:Int) (r:Ending) (w' : World):Prop:=∃ i:Nat,r = .returned (.tuple #[.int .i64 i,.bool (decide (l[i]? = some k))])∧Pos l k i∧Below W.heap.size W w'
set_option maxRecDepth 100000 in
set_option maxHeartbeats 4000000 in
theorem search_set {v:Value} {l:List Int} {k:Int} {w:World} (h:Arr w eI 1 v l) (hinc:incB l=true) (hl:l.length<4611686018427387904) :
  Calls Try.prog 85 #[v,.int .i64 k] w (RetS w l k):=by
 obtain ⟨ba,cap,rfl,hlc,hcm,g⟩:=h.at1
 have S:=Lib.hid (inc_lt hinc)
 have G:=Lib.hid g
 clear g hinc h
 obtain ⟨n,hn⟩:∃ n,n=l.length:=⟨_,rfl⟩
 rw [← hn] at hl hlc ⊢
 have HN:=Lib.hid hn;clear hn
 go_enter Try.func85,Try.ntmps85
 go_wp2
 go_loopg [7,8] n (fun g s7 s8 wr=>∃ lo hi:Nat,s7 = .int .i64 lo∧s8 = .int .i64 hi∧lo≤hi∧hi≤n∧hi - lo≤g∧Hid (Below w.heap.size w wr)∧Hid ((∀ j x,l[j]? = some x→j<lo→x<k)∧(∀ j x,l[j]? = some x→hi≤j→k≤x)))
 case atStart=>exact ⟨0,n,rfl,rfl,Nat.zero_le _,Nat.le_refl _,by omega,Below.refl _ _,(⟨fun j x _ hj=>by omega,fun j x hx hj=>by have:=(List.getElem?_eq_some_iff.1 hx).1;have:=HN.out;omega⟩:_∧_)⟩
 case round =>
  obtain ⟨lo,hi,rfl,rfl,hlh,hin,hg,hb,I⟩:=hrel
  by_cases hlt:lo<hi
  ·obtain ⟨y,hy⟩:∃ y,l[(lo+hi) / 2]? = some y:=⟨_,List.getElem?_eq_getElem (by rw [← HN.out];omega)⟩
   obtain ⟨b1,o1,rfl,hb1,c1⟩:=G.out _ y hy
   have d1:=(hb.out.cell (by exact hb1)).trans c1
   clear c1 hb1
   have Y:=Lib.hid hy;clear hy
   by_cases hyx:y<k
   ·go_wp2_with (first | (go_at_call 90;refine (cmpLess _ _ _).mono ?_;rintro e w' ⟨rfl,rfl⟩) | (go_at_call 91;refine (slicesIsNaN _ _).mono ?_;rintro e w' ⟨rfl,rfl⟩))
    go_roundg (hi - ((lo+hi) / 2+1))
    case measure=>omega
    case rel =>
     refine ⟨(lo+hi) / 2+1,hi,by rw [show ((lo:Int)+(hi:Int)) / 2+1=(((lo+hi) / 2+1:Nat):Int) by omega],rfl,by omega,hin,Nat.le_refl _,?_,(⟨fun j x hx hj=>?_,I.out.2⟩:_∧_)⟩
     ·exact hb
     ·by_cases e:j=(lo+hi) / 2
      ·subst e;rw [Y.out] at hx;cases hx;exact hyx
      ·have:=S.out j ((lo+hi) / 2) x y (by omega) hx Y.out;omega
   ·go_wp2_with (first | (go_at_call 90;refine (cmpLess _ _ _).mono ?_;rintro e w' ⟨rfl,rfl⟩) | (go_at_call 91;refine (slicesIsNaN _ _).mono ?_;rintro e w' ⟨rfl,rfl⟩))
    go_roundg ((lo+hi) / 2 - lo)
    case measure=>omega
    case rel =>
     refine ⟨lo,(lo+hi) / 2,rfl,by rw [show ((lo:Int)+(hi:Int)) / 2=(((lo+hi) / 2:Nat):Int) by omega],by omega,by omega,Nat.le_refl _,?_,(⟨I.out.1,fun j x hx hj=>?_⟩:_∧_)⟩
     ·exact hb
     ·by_cases e:j=(lo+hi) / 2
      ·subst e;rw [Y.out] at hx;cases hx;omega
      ·have:=S.out ((lo+hi) / 2) j y x (by omega) Y.out hx;omega
  ·obtain rfl:hi=lo:=by omega
   have P0:Hid (Pos l k hi):=(⟨by rw [← HN.out];exact hin,I.out.1,I.out.2⟩:Pos l k hi)
   clear I S
   by_cases hn:hi<n
   ·obtain ⟨y,hy⟩:∃ y,l[hi]? = some y:=⟨_,List.getElem?_eq_getElem (by rw [← HN.out];exact hn)⟩
    obtain ⟨b1,o1,rfl,hb1,c1⟩:=G.out _ y hy
    have d1:=(hb.out.cell (by exact hb1)).trans c1
    clear c1 hb1
    have Y:=Lib.hid hy;clear hy
    by_cases hyx:y=k
    ·go_wp2_with (first | (go_at_call 90;refine (cmpLess _ _ _).mono ?_;rintro e w' ⟨rfl,rfl⟩) | (go_at_call 91;refine (slicesIsNaN _ _).mono ?_;rintro e w' ⟨rfl,rfl⟩))
     go_ret2
     exact ⟨hi,by rw [Y.out,decide_eq_true (congrArg some hyx)];first | rfl | simp [*],P0.out,by first | exact hb.out | exact hb.out.drew | exact below_drewN hb.out _⟩
    ·go_wp2_with (first | (go_at_call 90;refine (cmpLess _ _ _).mono ?_;rintro e w' ⟨rfl,rfl⟩) | (go_at_call 91;refine (slicesIsNaN _ _).mono ?_;rintro e w' ⟨rfl,rfl⟩))
     go_ret2
     exact ⟨hi,by rw [Y.out,decide_eq_false (fun h=>hyx (Option.some.inj h))];first | rfl | simp [*],P0.out,by first | exact hb.out | exact hb.out.drew | exact below_drewN hb.out _⟩
   ·have hnone:l[hi]? = none:=List.getElem?_eq_none (by rw [← HN.out];omega)
    have Y:=Lib.hid hnone;clear hnone
    go_wp2_with (first | (go_at_call 90;refine (cmpLess _ _ _).mono ?_;rintro e w' ⟨rfl,rfl⟩) | (go_at_call 91;refine (slicesIsNaN _ _).mono ?_;rintro e w' ⟨rfl,rfl⟩))
    go_ret2
    exact ⟨hi,by rw [Y.out];first | rfl | simp [*],P0.out,by first | exact hb.out | exact hb.out.drew | exact below_drewN hb.out _⟩
def cmpP (p:Int×Int) (k:Int):Int:=if p.1<k then -1 else if p.1>k then 1 else 0
theorem find1 (p:Int×Int) (k:Int) (w:World):Calls Try.prog 105 #[.agg #[.int .i64 p.1,.int .i64 p.2],.int .i64 k] w fun e w'=>e = .returned (.int .i64 (cmpP p k))∧Below w.heap.size w w':=by
 obtain ⟨a,b⟩:=p
 have E:Hid ((a<k→cmpP (a,b) k = -1)∧(¬ a<k→a>k→cmpP (a,b) k=1)∧(¬ a<k→¬ a>k→cmpP (a,b) k=0)) :=
  (⟨fun h=>by simp [cmpP,h],fun h h2=>by simp only [cmpP];rw [if_neg h,if_pos h2],fun h h2=>by simp only [cmpP];rw [if_neg h,if_neg h2]⟩:_∧_∧_)
 by_cases h1:a<k
 ·go_enter Try.func105,Try.ntmps105
  go_wp2
  go_ret
  exact ⟨by rw [E.out.1 h1];rfl,below_box _ _⟩
 ·by_cases h2:a>k
  ·go_enter Try.func105,Try.ntmps105
   go_wp2
   go_ret
   exact ⟨by rw [E.out.2.1 (by omega) (by omega)];rfl,below_box _ _⟩
  ·go_enter Try.func105,Try.ntmps105
   go_wp2
   go_ret
   exact ⟨by rw [E.out.2.2 (by omega) (by omega)];rfl,below_box _ _⟩
def keys (l:List (Int×Int)):List Int:=l.map (·.1)
theorem keys_at {l:List (Int×Int)} {j:Nat} {p:Int×Int} (h:l[j]? = some p):(keys l)[j]? = some p.1:=by simp [keys,h]
set_option maxRecDepth 100000 in
set_option maxHeartbeats 4000000 in
theorem search_table {v:Value} {l:List (Int×Int)} {k:Int} {w:World} (h:Arr w eP 2 v l) (hinc:incB (keys l)=true) (hl:l.length<4611686018427387904) :
  Calls Try.prog 104 #[v,.int .i64 k,.func (.func 105) #[] #[]] w (RetS w (keys l) k):=by
 obtain ⟨ba,cap,rfl,hlc,hcm,g⟩:=h.at2
 have S:=Lib.hid (inc_lt hinc)
 have G:=Lib.hid g
 clear g hinc h
 obtain ⟨n,hn⟩:∃ n,n=l.length:=⟨_,rfl⟩
 rw [← hn] at hl hlc ⊢
 have HK:Hid ((keys l).length=n):=by show _=_;rw [hn];simp [keys]
 have HN:=Lib.hid hn;clear hn
 go_enter Try.func104,Try.ntmps104
 go_wp2
 go_loopg [9,10] n (fun g s9 s10 wr=>∃ lo hi:Nat,s9 = .int .i64 lo∧s10 = .int .i64 hi∧lo≤hi∧hi≤n∧hi - lo≤g∧Hid (Below w.heap.size w wr)∧Hid ((∀ j x,(keys l)[j]? = some x→j<lo→x<k)∧(∀ j x,(keys l)[j]? = some x→hi≤j→k≤x)))
 case atStart=>exact ⟨0,n,rfl,rfl,Nat.zero_le _,Nat.le_refl _,by omega,Below.refl _ _,(⟨fun j x _ hj=>by omega,fun j x hx hj=>by have:=(List.getElem?_eq_some_iff.1 hx).1;have:=HK.out;omega⟩:_∧_)⟩
 case round =>
  obtain ⟨lo,hi,rfl,rfl,hlh,hin,hg,hb,I⟩:=hrel
  by_cases hlt:lo<hi
  ·obtain ⟨y,hy⟩:∃ y,l[(lo+hi) / 2]? = some y:=⟨_,List.getElem?_eq_getElem (by rw [← HN.out];omega)⟩
   obtain ⟨b1,o1,rfl,hb1,c1,c2⟩:=G.out _ y hy
   have d1:=(hb.out.cell (by exact hb1)).trans c1
   have d2:=(hb.out.cell (by exact hb1)).trans c2
   clear c1 c2 hb1
   have Y:=Lib.hid (keys_at hy);clear hy
   by_cases hyx:y.1<k
   ·have hc:cmpP y k = -1:=by simp [cmpP,hyx]
    have C:Hid (∀ wx,Calls Try.prog 105 #[.agg #[.int .i64 y.1,.int .i64 y.2],.int .i64 k] wx fun e w'=>e = .returned (.int .i64 (-1))∧Below wx.heap.size wx w'):=fun wx=>by rw [← hc];exact find1 y k wx
    clear hc
    go_wp2_with (go_at_call 105;(with_reducible refine (C.out _).mono ?_);rintro e w' ⟨rfl,hb2⟩;have hb3:=Lib.hid (hb.out.trans (hb2.mono hb.out.size));clear hb hb2)
    go_roundg (hi - ((lo+hi) / 2+1))
    case measure=>omega
    case rel =>
     refine ⟨(lo+hi) / 2+1,hi,by rw [show ((lo:Int)+(hi:Int)) / 2+1=(((lo+hi) / 2+1:Nat):Int) by omega],rfl,by omega,hin,Nat.le_refl _,?_,(⟨fun j x hx hj=>?_,I.out.2⟩:_∧_)⟩
     ·exact hb3
     ·by_cases e:j=(lo+hi) / 2
      ·subst e;rw [Y.out] at hx;cases hx;exact hyx
      ·have:=S.out j ((lo+hi) / 2) x y.1 (by omega) hx Y.out;omega
   ·obtain ⟨c,hc,hc0⟩:∃ c,cmpP y k=c∧¬ c<0:=⟨_,rfl,by simp only [cmpP,hyx,if_false];split <;> omega⟩
    have C:Hid (∀ wx,Calls Try.prog 105 #[.agg #[.int .i64 y.1,.int .i64 y.2],.int .i64 k] wx fun e w'=>e = .returned (.int .i64 c)∧Below wx.heap.size wx w'):=fun wx=>by rw [← hc];exact find1 y k wx
    clear hc
    go_wp2_with (go_at_call 105;(with_reducible refine (C.out _).mono ?_);rintro e w' ⟨rfl,hb2⟩;have hb3:=Lib.hid (hb.out.trans (hb2.mono hb.out.size));clear hb hb2)
    go_roundg ((lo+hi) / 2 - lo)
    case measure=>omega
    case rel =>
     refine ⟨lo,(lo+hi) / 2,rfl,by rw [show ((lo:Int)+(hi:Int)) / 2=(((lo+hi) / 2:Nat):Int) by omega],by omega,by omega,Nat.le_refl _,?_,(⟨I.out.1,fun j x hx hj=>?_⟩:_∧_)⟩
     ·exact hb3
     ·by_cases e:j=(lo+hi) / 2
      ·subst e;rw [Y.out] at hx;cases hx;omega
      ·have:=S.out ((lo+hi) / 2) j y.1 x (by omega) Y.out hx;omega
  ·obtain rfl:hi=lo:=by omega
   have P0:Hid (Pos (keys l) k hi):=(⟨by rw [HK.out];exact hin,I.out.1,I.out.2⟩:Pos (keys l) k hi)
   clear I S
   by_cases hn:hi<n
   ·obtain ⟨y,hy⟩:∃ y,l[hi]? = some y:=⟨_,List.getElem?_eq_getElem (by rw [← HN.out];exact hn)⟩
    obtain ⟨b1,o1,rfl,hb1,c1,c2⟩:=G.out _ y hy
    have d1:=(hb.out.cell (by exact hb1)).trans c1
    have d2:=(hb.out.cell (by exact hb1)).trans c2
    clear c1 c2 hb1
    have Y:=Lib.hid (keys_at hy);clear hy
    obtain ⟨c,hc⟩:∃ c,cmpP y k=c:=⟨_,rfl⟩
    have hck:Hid ((c == 0)=decide (some y.1=some k)):=by
     show _=_
     rw [← hc,Bool.eq_iff_iff,beq_iff_eq,decide_eq_true_iff,Option.some.injEq]
     simp only [cmpP]
     split
     ·constructor <;> intro <;> omega
     ·split <;> constructor <;> intro <;> omega
    have C:Hid (∀ wx,Calls Try.prog 105 #[.agg #[.int .i64 y.1,.int .i64 y.2],.int .i64 k] wx fun e w'=>e = .returned (.int .i64 c)∧Below wx.heap.size wx w'):=fun wx=>by rw [← hc];exact find1 y k wx
    clear hc
    go_wp2_with (go_at_call 105;(with_reducible refine (C.out _).mono ?_);rintro e w' ⟨rfl,hb2⟩;have hb3:=Lib.hid (hb.out.trans (hb2.mono hb.out.size));clear hb hb2)
    go_ret2
    exact ⟨hi,by rw [Y.out,← hck.out];rfl,P0.out,hb3.out⟩
   ·have hnone:(keys l)[hi]? = none:=List.getElem?_eq_none (by rw [HK.out];omega)
    have Y:=Lib.hid hnone;clear hnone
    go_wp2
    go_ret2
    exact ⟨hi,by rw [Y.out];first | rfl | simp [*],P0.out,by first | exact hb.out | exact hb.out.drew | exact below_drewN hb.out _⟩
theorem tableFind {v:Value} {l:List (Int×Int)} {k:Int} {w:World} (h:Arr w eP 2 v l) (hinc:incB (keys l)=true) (hl:l.length<4611686018427387904) :
  Calls Try.prog 100 #[v,.int .i64 k] w (RetS w (keys l) k):=by
 obtain ⟨ba,cap,hv,_⟩:=h.at2
 have C:=Lib.hid (search_table (k:=k) h hinc hl)
 clear h hinc hl
 subst hv
 go_enter Try.func100,Try.ntmps100
 go_wp2_with (go_at_call 104;refine C.out.mono ?_;rintro e w' ⟨i,rfl,hp,hb⟩;have HP:=Lib.hid hp;clear hp;have HB:=Lib.hid hb;clear hb)
 go_ret2
 exact ⟨i,rfl,HP.out,HB.out⟩
end Go.Proofs.Ytgljbdcamagdbaa
namespace Go.Proofs.Ytgljbdcamagdbaa
open Go.RowKit
set_option maxHeartbeats 400000 in
theorem put_cell {w:World} {g:Nat} {a b c d e v:Value} {ba:Option Addr} {n cp:Nat} (h:w.heap[g]? = some (.cells #[a,b,c,d,e] 29)) (hv:v = .slice ba n cp) :
  Calls Try.prog 73 #[v,.pointer (some ⟨g,0,none⟩)] w fun r w'=>r = .returned (.tuple #[])∧w.setRow g #[v,b,c,d,e]=w':=by
 subst hv
 obtain ⟨⟨z0,z1,z2,z3,z4⟩,⟨f0,f1,f2,f3,f4⟩⟩:=blk5 h
 have hr:w.setCell ⟨g,0,none⟩ (.slice ba n cp)=w.setRow g #[.slice ba n cp,b,c,d,e]:=setCell_eq_setRow w g 0 _ _ (0,0) _ h
 have HR:=Lib.hid hr;clear hr h
 go_enter Try.func73,Try.ntmps73
 go_wp2
 go_end0
 exact ⟨rfl,HR.out.symm⟩
set_option maxHeartbeats 400000 in
theorem put_stack {w:World} {g:Nat} {a b c d e v:Value} {ba:Option Addr} {n cp:Nat} (h:w.heap[g]? = some (.cells #[a,b,c,d,e] 29)) (hv:v = .slice ba n cp) :
  Calls Try.prog 77 #[v,.pointer (some ⟨g,0,none⟩)] w fun r w'=>r = .returned (.tuple #[])∧w.setRow g #[a,v,c,d,e]=w':=by
 subst hv
 obtain ⟨⟨z0,z1,z2,z3,z4⟩,⟨f0,f1,f2,f3,f4⟩⟩:=blk5 h
 have hr:w.setCell ⟨g,1,none⟩ (.slice ba n cp)=w.setRow g #[a,.slice ba n cp,c,d,e]:=setCell_eq_setRow w g 1 _ _ (0,0) _ h
 have HR:=Lib.hid hr;clear hr h
 go_enter Try.func77,Try.ntmps77
 go_wp2
 go_end0
 exact ⟨rfl,HR.out.symm⟩
set_option maxHeartbeats 400000 in
theorem put_queue {w:World} {g:Nat} {a b c d e v:Value} {ba:Option Addr} {n cp:Nat} (h:w.heap[g]? = some (.cells #[a,b,c,d,e] 29)) (hv:v = .slice ba n cp) :
  Calls Try.prog 80 #[v,.pointer (some ⟨g,0,none⟩)] w fun r w'=>r = .returned (.tuple #[])∧w.setRow g #[a,b,v,d,e]=w':=by
 subst hv
 obtain ⟨⟨z0,z1,z2,z3,z4⟩,⟨f0,f1,f2,f3,f4⟩⟩:=blk5 h
 have hr:w.setCell ⟨g,2,none⟩ (.slice ba n cp)=w.setRow g #[a,b,.slice ba n cp,d,e]:=setCell_eq_setRow w g 2 _ _ (0,0) _ h
 have HR:=Lib.hid hr;clear hr h
 go_enter Try.func80,Try.ntmps80
 go_wp2
 go_end0
 exact ⟨rfl,HR.out.symm⟩
set_option maxHeartbeats 400000 in
theorem put_set {w:World} {g:Nat} {a b c d e v:Value} {ba:Option Addr} {n cp:Nat} (h:w.heap[g]? = some (.cells #[a,b,c,d,e] 29)) (hv:v = .slice ba n cp) :
  Calls Try.prog 84 #[v,.pointer (some ⟨g,0,none⟩)] w fun r w'=>r = .returned (.tuple #[])∧w.setRow g #[a,b,c,v,e]=w':=by
 subst hv
 obtain ⟨⟨z0,z1,z2,z3,z4⟩,⟨f0,f1,f2,f3,f4⟩⟩:=blk5 h
 have hr:w.setCell ⟨g,3,none⟩ (.slice ba n cp)=w.setRow g #[a,b,c,.slice ba n cp,e]:=setCell_eq_setRow w g 3 _ _ (0,0) _ h
 have HR:=Lib.hid hr;clear hr h
 go_enter Try.func84,Try.ntmps84
 go_wp2
 go_end0
 exact ⟨rfl,HR.out.symm⟩
set_option maxHeartbeats 400000 in
theorem put_table {w:World} {g:Nat} {a b c d e v:Value} {ba:Option Addr} {n cp:Nat} (h:w.heap[g]? = some (.cells #[a,b,c,d,e] 29)) (hv:v = .slice ba n cp) :
  Calls Try.prog 99 #[v,.pointer (some ⟨g,0,none⟩)] w fun r w'=>r = .returned (.tuple #[])∧w.setRow g #[a,b,c,d,v]=w':=by
 subst hv
 obtain ⟨⟨z0,z1,z2,z3,z4⟩,⟨f0,f1,f2,f3,f4⟩⟩:=blk5 h
 have hr:w.setCell ⟨g,4,none⟩ (.slice ba n cp)=w.setRow g #[a,b,c,d,.slice ba n cp]:=setCell_eq_setRow w g 4 _ _ (0,0) _ h
 have HR:=Lib.hid hr;clear hr h
 go_enter Try.func99,Try.ntmps99
 go_wp2
 go_end0
 exact ⟨rfl,HR.out.symm⟩
theorem meth_cell_put (ba:Option Addr) (n cp:Nat) (w:World):(method 238 90 (.slice ba n cp) "reclaim/model.put").run Try.prog w = .ok (73,.slice ba n cp) w:=by kernel_rfl
theorem meth_cell_do (ba:Option Addr) (n cp:Nat) (w:World):(method 238 90 (.slice ba n cp) "reclaim/model.do").run Try.prog w = .ok (72,.slice ba n cp) w:=by kernel_rfl
theorem meth_stack_put (ba:Option Addr) (n cp:Nat) (w:World):(method 238 91 (.slice ba n cp) "reclaim/model.put").run Try.prog w = .ok (77,.slice ba n cp) w:=by kernel_rfl
theorem meth_stack_do (ba:Option Addr) (n cp:Nat) (w:World):(method 238 91 (.slice ba n cp) "reclaim/model.do").run Try.prog w = .ok (76,.slice ba n cp) w:=by kernel_rfl
theorem meth_queue_put (ba:Option Addr) (n cp:Nat) (w:World):(method 238 92 (.slice ba n cp) "reclaim/model.put").run Try.prog w = .ok (80,.slice ba n cp) w:=by kernel_rfl
theorem meth_queue_do (ba:Option Addr) (n cp:Nat) (w:World):(method 238 92 (.slice ba n cp) "reclaim/model.do").run Try.prog w = .ok (79,.slice ba n cp) w:=by kernel_rfl
theorem meth_set_put (ba:Option Addr) (n cp:Nat) (w:World):(method 238 93 (.slice ba n cp) "reclaim/model.put").run Try.prog w = .ok (84,.slice ba n cp) w:=by kernel_rfl
theorem meth_set_do (ba:Option Addr) (n cp:Nat) (w:World):(method 238 93 (.slice ba n cp) "reclaim/model.do").run Try.prog w = .ok (82,.slice ba n cp) w:=by kernel_rfl
theorem meth_table_put (ba:Option Addr) (n cp:Nat) (w:World):(method 238 94 (.slice ba n cp) "reclaim/model.put").run Try.prog w = .ok (99,.slice ba n cp) w:=by kernel_rfl
theorem meth_table_do (ba:Option Addr) (n cp:Nat) (w:World):(method 238 94 (.slice ba n cp) "reclaim/model.do").run Try.prog w = .ok (97,.slice ba n cp) w:=by kernel_rfl
def ofV (n:Int) (a b c d e:Value):Value :=
 if n=1 then .iface 90 a else if n=2 then .iface 91 b else if n=3 then .iface 92 c else if n=4 then .iface 93 d else .iface 94 e
set_option maxHeartbeats 400000 in
theorem of_any (a b c d e:Value) (n:Int) (w:World) :
  Calls Try.prog 41 #[.agg #[a,b,c,d,e],.int .i64 n] w fun r w'=>r = .returned (ofV n a b c d e)∧Below w.heap.size w w':=by
 have X:Hid (∀ j u,#[a,b,c,d,e][j]? = some u→(w.alloc (.cells #[a,b,c,d,e] 29)).cell? ⟨w.heap.size,j,none⟩=some u):=fun j u h=>box_cell w _ _ j u h
 have hb0:Below w.heap.size w (w.alloc (.cells #[a,b,c,d,e] 29)):=below_box _ _
 have hl:w.heap.size<(w.alloc (.cells #[a,b,c,d,e] 29)).heap.size:=by simp
 go_enter Try.func41,Try.ntmps41
 go_wp2_with fail
 generalize w.alloc (.cells #[a,b,c,d,e] 29)=W1 at *
 obtain ⟨x0,x1,x2,x3,x4⟩:=box5 X.out (Below.refl _ _) hl
 clear X
 go_wp2
 all_goals go_ret
 all_goals refine ⟨?_,hb0⟩
 all_goals simp_all [ofV]
end Go.Proofs.Ytgljbdcamagdbaa
