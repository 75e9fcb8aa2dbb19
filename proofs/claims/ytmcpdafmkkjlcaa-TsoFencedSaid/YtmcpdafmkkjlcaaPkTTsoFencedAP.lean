/- TsoFencedSaid: what its proof is made of. No condition. -/
import Derived.Test.YtmcpdafmkkjlcaaPkTTsoFencedAO
set_option linter.unusedSimpArgs false
set_option linter.unusedVariables false
namespace Go.Proofs.Ytmcpdafmkkjlcaa.Z
open Go Go.RowKit
def prE (p:Value×Value):List Value:=[p.1,p.2]
def pr0:Value×Value:=(nest0,nest0)
def FnsR (w:World) (v:Value) (l:List Fn):Prop :=
 ∃ ws:List (Value×Value),Arr w prE 2 v ws∧ws.length=l.length∧∀ k,k<l.length→Arr w eI 1 (ws.getD k pr0).1 (l.getD k fn0).words∧Arr w R4.enc 4 (ws.getD k pr0).2 (l.getD k fn0).regs
def fsF (i n:Nat) (low:Nat:=0):ArrF:=⟨n,2,fun k=>[.xv (i,k,0),.xv (i+1,k,0)],low⟩
theorem fsF_len (i n low:Nat):(fsF i n low).len=n:=rfl
theorem fsF_size (i n low:Nat):(fsF i n low).size=2:=rfl
theorem fsF_at (i n low k:Nat):(fsF i n low).at_ k=[.xv (i,k,0),.xv (i+1,k,0)]:=rfl
def fsA (i:Nat) (l:List Fn):List (Nat×Fm ArrF):=[(i,.one (fsF (i+1) l.length)),(i+1,.fam l.length fun k=>arrOf eI 1 (l.getD k fn0).words 0),(i+2,.fam l.length fun k=>arrOf R4.enc 4 (l.getD k fn0).regs r40)]
theorem arrLe_fs {q:Nat→Prop} {τ:Nat→Nat} {i n lw:Nat} (hp:q i) (hp1:q (i+1)) (hτ:τ i=i) (hτ1:τ (i+1)=i+1):ArrLe q (idσ τ) (fsF i n lw) (fsF i n lw) :=
 ⟨rfl,rfl,fun e _=>⟨by simp [fsF,SC.renL,SC.ren,idσ,hτ,hτ1],by simp [fsF,SC.okL,SC.okN,hp,hp1]⟩,Nat.le_refl _⟩
theorem rd_fns {w:World} {vals:List (Nat→Value)} {r:List (Nat×Fm ArrF)} {l:List Fn} {v:Value} {ws:List (Value×Value)} (j:Nat) (h:Arr w prE 2 v ws) (hl:ws.length=l.length) (hk:∀ k,k<l.length→Arr w eI 1 (ws.getD k pr0).1 (l.getD k fn0).words∧Arr w R4.enc 4 (ws.getD k pr0).2 (l.getD k fn0).regs)
  (hj:j+2<vals.length) (hv:(vals.getD j fun _=>nest0) 0=v) (hv1:∀ k,(vals.getD (j+1) fun _=>nest0) k=(ws.getD k pr0).1) (hv2:∀ k,(vals.getD (j+2) fun _=>nest0) k=(ws.getD k pr0).2) (hr:Reads w vals r):Reads w vals (fsA j l++r):=by
 intro E hE x A hA
 simp only [fsA,List.cons_append,List.nil_append] at hA
 rcases atN_one hA with ⟨rfl,rfl⟩ | hA
 ·obtain ⟨ba,cap,h1,h2,h3,h4⟩:=h
  refine ⟨ba,cap,by rw [hE j 0 0 (by omega),hv,h1,hl];rfl,by rw [← hl] at *;exact h2,h3,?_⟩
  rcases h4 with h4 | ⟨b,off,g1,g2⟩
  ·left;rw [h4] at hl;exact hl.symm
  ·right
   refine ⟨b,off,g1,Nat.zero_le _,fun k hk'=>⟨rfl,fun q u hu=>?_⟩⟩
   have hk' : k<l.length:=hk'
   have e1:(SC.xv (j+1,k,0)).den E=(ws.getD k pr0).1:=by simp only [SC.den];rw [hE (j+1) k 0 (by omega),hv1]
   have e2:(SC.xv (j+2,k,0)).den E=(ws.getD k pr0).2:=by simp only [SC.den];rw [hE (j+2) k 0 (by omega),hv2]
   have hwk:ws[k]? = some (ws.getD k pr0):=by rw [List.getD_eq_getElem?_getD,List.getElem?_eq_getElem (by omega)];rfl
   match q,hu with
   | 0,hu =>
    simp only [fsF,List.getElem?_cons_zero,Option.some.injEq] at hu
    subst hu
    rw [e1]
    exact ⟨g2 k _ hwk 0 _ rfl,arr_one (hk k hk').1⟩
   | 1,hu =>
    simp only [fsF,List.getElem?_cons_succ,List.getElem?_cons_zero,Option.some.injEq] at hu
    subst hu
    rw [e2]
    exact ⟨g2 k _ hwk 1 _ rfl,arr_one (hk k hk').2⟩
   | q+2,hu=>simp [fsF] at hu
 rcases atN_fam hA with ⟨k,hkn,rfl,rfl⟩ | hA
 ·exact arrAt_of eI_ok (by rw [hE (j+1) k 0 (by omega),hv1];exact (hk k hkn).1)
 rcases atN_fam hA with ⟨k,hkn,rfl,rfl⟩ | hA
 ·exact arrAt_of r4_ok (by rw [hE (j+2) k 0 (by omega),hv2];exact (hk k hkn).2)
 ·exact hr E hE x A hA
theorem prE_ones {w:World} {l:List Fn} {ws:List (Value×Value)} (hl:ws.length=l.length) (hk:∀ k,k<l.length→Arr w eI 1 (ws.getD k pr0).1 (l.getD k fn0).words∧Arr w R4.enc 4 (ws.getD k pr0).2 (l.getD k fn0).regs) (k:Nat):(ws.getD k pr0).1.oneCell' = true∧(ws.getD k pr0).2.oneCell' = true:=by
 by_cases h:k<l.length
 ·exact ⟨arr_one (hk k h).1,arr_one (hk k h).2⟩
 ·rw [List.getD_eq_getElem?_getD,List.getElem?_eq_none (by omega)]
  exact ⟨rfl,rfl⟩
theorem prE_one {w:World} {v:Value} {ws:List (Value×Value)} (h:Arr w prE 2 v ws):v.oneCell' = true:=by
 obtain ⟨ba,cap,rfl,_⟩:=h;rfl
theorem enterFns2 {P:Program} {A:List Nat} {f nt:Nat} {fn:Func} {x:Code} {c:IR} {w:World} {rs:List RS} {R:Ending→World→Prop} {v v' : Value} {a b:List Fn} (h:FnsR w v a) (h' : FnsR w v' b)
  (hf:P.funcs[f]? = some fn) (hb:fn.body=some x) (hc:compC (mkTab P A) x=some c.strip) (hrs:compR (mkTab P A).T fn.results.toList=some rs) (hn:fn.ntmps=nt) (hnt:2≤nt)
  (hex:exec (mkC P A w rs R) 1000 [.code c] ⟨nt,enumT 0 [.c (.xv (0,0,0)),.c (.xv (3,0,0))],[],fsA 0 a++(fsA 3 b++[]),[],6⟩):Calls P f #[v,v'] w R:=by
 obtain ⟨ws,h1,h2,h3⟩:=h
 obtain ⟨ws',h1',h2',h3'⟩:=h'
 refine enterL [fun _=>v,fun k=>(ws.getD k pr0).1,fun k=>(ws.getD k pr0).2,fun _=>v',fun k=>(ws'.getD k pr0).1,fun k=>(ws'.getD k pr0).2]
  ⟨fun _=>prE_one h1,fun k=>(prE_ones h2 h3 k).1,fun k=>(prE_ones h2 h3 k).2,fun _=>prE_one h1',fun k=>(prE_ones h2' h3' k).1,fun k=>(prE_ones h2' h3' k).2,trivial⟩
  (rd_fns 0 h1 h2 h3 (by simp) rfl (fun _=>rfl) (fun _=>rfl) (rd_fns 3 h1' h2' h3' (by simp) rfl (fun _=>rfl) (fun _=>rfl) rd_nil))
  [.c (.xv (0,0,0)),.c (.xv (3,0,0))] _ hf hb hc hrs hn (fun E' hE'=>?_) hnt hex
 have e:=fun i hi=>hE' i 0 0 hi
 simp only [List.map_cons,List.map_nil,SV.den,SC.den,e 0 (by simp),e 3 (by simp)]
 rfl
theorem fns_len {w:World} {v:Value} {l:List Fn} (h:FnsR w v l):l.length≤9223372036854775807:=by
 obtain ⟨ws,⟨ba,cap,_,h2,h3,_⟩,hl,_⟩:=h
 simp only [maxLen] at h3
 omega
theorem fn_fs {C:Ctx} {E:Env} {S:St} {a:Act} {w:World} (hs:Sat C.B C.W C.w0 E S a w) {l:List Fn} (i k:Nat) (hk:k<l.length) (h1:look S.arrs i=some (.fam l.length fun k=>arrOf eI 1 (l.getD k fn0).words 0)) (h2:look S.arrs (i+1)=some (.fam l.length fun k=>arrOf R4.enc 4 (l.getD k fn0).regs r40)) :
  FnR w ((SV.agg [.xv (i,k,0),.xv (i+1,k,0)]).den E) (l.getD k fn0) :=
 ⟨_,_,by simp [SV.den,SC.den],arr_of (d:=0) ((holds_of hs).1 (i,k,0) _ (by simp only [atN,h1,Fm.get,hk,and_self,if_true];rfl)),arr_of (d:=r40) ((holds_of hs).1 (i+1,k,0) _ (by simp only [atN,h2,Fm.get,hk,and_self,if_true];rfl))⟩
theorem fns_own {C:Ctx} {E:Env} {S:St} {a:Act} {w:World} (hs:Sat C.B C.W C.w0 E S a w) {l:List Fn} (b:Nat) (h0:look S.own b=some (.one (.ar l.length 2 (foC b l) 67))) (h1:look S.own (b+1)=some (.fam l.length (foW l))) (h2:look S.own (b+2)=some (.fam l.length (foR l))):FnsR w ((SC.sl (b,0,0) 2 0 l.length none).den E) l:=by
 have hm:∀ k,k<l.length→((List.range l.length).map fun k=>((SC.sl (b+1,k,0) 1 0 (l.getD k fn0).words.length none).den E,(SC.sl (b+2,k,0) 4 0 (l.getD k fn0).regs.length none).den E)).getD k pr0=((SC.sl (b+1,k,0) 1 0 (l.getD k fn0).words.length none).den E,(SC.sl (b+2,k,0) 4 0 (l.getD k fn0).regs.length none).den E):=fun k hk=>by
  rw [List.getD_eq_getElem?_getD,List.getElem?_map,List.getElem?_range hk];rfl
 refine ⟨(List.range l.length).map fun k=>((SC.sl (b+1,k,0) 1 0 (l.getD k fn0).words.length none).den E,(SC.sl (b+2,k,0) 4 0 (l.getD k fn0).regs.length none).den E),?_,by simp,fun k hk=>?_⟩
 ·obtain ⟨H,hH,_⟩:=hs.mem
  rcases ar_heap hH (show atN S.own (b,0,0)=some (.ar l.length 2 (foC b l) 67) by simp [atN,h0,Fm.get]) with ⟨g1,g2,g3,_⟩ | ⟨g1,g2,g3,cells,g4,g5,g6,g7⟩
  ·have h0:l=[]:=List.eq_nil_of_length_eq_zero g3
   subst h0
   exact ⟨if E.ν (b,0,0)=true then none else some ⟨E.ρ (b,0,0),0,none⟩,0,by simp [SC.den,g2],Nat.le_refl _,by simp [maxLen],Or.inl rfl⟩
  ·refine ⟨some ⟨E.ρ (b,0,0),0,none⟩,E.κ (b,0,0),by simp [SC.den,g1],by simpa using g2.1,g3,Or.inr ⟨_,_,rfl,fun e y hy q u hu=>?_⟩⟩
   rw [cell_of_row w _ _ _ _ (0,0) g5,Nat.zero_add]
   have he:e<l.length:=by
    have:=(List.getElem?_eq_some_iff.1 hy).1
    simpa using this
   have hy2:y=((SC.sl (b+1,e,0) 1 0 (l.getD e fn0).words.length none).den E,(SC.sl (b+2,e,0) 4 0 (l.getD e fn0).regs.length none).den E):=by
    rw [List.getElem?_map,List.getElem?_range he] at hy
    exact (Option.some.inj hy).symm
   subst hy2
   match q,hu with
   | 0,hu =>
    simp only [prE,List.getElem?_cons_zero,Option.some.injEq] at hu
    subst hu
    exact ((g7 e he).2 0 _ rfl).1
   | 1,hu =>
    simp only [prE,List.getElem?_cons_succ,List.getElem?_cons_zero,Option.some.injEq] at hu
    subst hu
    exact ((g7 e he).2 1 _ rfl).1
   | q+2,hu=>simp [prE] at hu
 ·rw [hm k hk]
  exact ⟨arr_ownX (d:=0) hs (b+1,k,0) _ _ _ (by simp only [atN,h1,Fm.get,hk,and_self,if_true];rfl) rfl (Nat.le_refl _) (fun _ _=>rfl),arr_ownX (d:=r40) hs (b+2,k,0) _ _ _ (by simp only [atN,h2,Fm.get,hk,and_self,if_true];rfl) rfl (Nat.le_refl _) (fun _ _=>rfl)⟩
def ir60:IR:=(.seq (.ops [⟨(some 2),(.box 67 (.t 0)),none⟩,⟨(some 3),(.box 67 (.t 1)),none⟩,⟨(some 4),(.mv (.k (.c (.v (.bool false))))),none⟩]) (.kill [0,1,4,5,6,7,8,9,10,11] (.seq (.seq (.ops [⟨(some 6),(.fa 0 (.t 2)),none⟩,⟨(some 7),(.ld false 1 (.t 6)),none⟩,⟨(some 8),(.fa 0 (.t 3)),none⟩,⟨(some 9),(.ld false 1 (.t 8)),none⟩,⟨(some 10),(.call 41 [(.t 7),(.t 9)]),none⟩,⟨(some 11),(.un .not (.t 10)),none⟩,⟨(some 12),(.mv (.t 11)),none⟩,⟨(some 13),(.fa 1 (.t 2)),(some (12,false))⟩,⟨(some 14),(.ld false 1 (.t 13)),(some (12,false))⟩,⟨(some 15),(.len (.t 14)),(some (12,false))⟩,⟨(some 16),(.fa 1 (.t 3)),(some (12,false))⟩,⟨(some 17),(.ld false 1 (.t 16)),(some (12,false))⟩,⟨(some 18),(.len (.t 17)),(some (12,false))⟩,⟨(some 19),(.bin .neq (.t 15) (.t 18)),(some (12,false))⟩,⟨(some 20),(.pick (.t 12) (.k (.c (.v (.bool true)))) (.t 19)),none⟩]) (.kill [6,7,8,9,10,11,12,13,14,15,16,17,18,19] (.cond (.t 20) (.seq (.ops [⟨(some 4),(.mv (.k (.c (.v (.bool false))))),none⟩]) (.kill [2,3,20] .ret)) .skip))) (.kill [4,20] (.seq (.seq (.ops [⟨(some 5),(.mv (.k (.c (.v (.int .i64 0))))),none⟩]) (.blk 0 (.loop (.seq (.seq (.ops [⟨(some 21),(.mv (.t 5)),none⟩,⟨(some 22),(.fa 1 (.t 2)),none⟩,⟨(some 23),(.ld false 1 (.t 22)),none⟩,⟨(some 24),(.len (.t 23)),none⟩,⟨(some 25),(.bin .lss (.t 21) (.t 24)),none⟩]) (.kill [4,21,22,23,24,26,27,28,29,30,31,32,33,34,35,36,37,38] (.cond (.t 25) .skip (.exit 0)))) (.kill [25] (.seq (.blk 1 (.seq (.draw [(⟨(some 28),(.fa 1 (.t 2)),none⟩,([],[30,33,34,35,36,37])),(⟨(some 29),(.ld false 1 (.t 28)),none⟩,([],[30,33,34,35,36,37])),(⟨(some 30),(.mv (.t 5)),none⟩,([0,1],[28,29,33,34,35,36,37])),(⟨(some 31),(.ia 4 (.t 29) (.t 30)),none⟩,([],[33,34,35,36,37])),(⟨(some 32),(.ld true 4 (.t 31)),none⟩,([],[33,34,35,36,37])),(⟨(some 33),(.fa 1 (.t 3)),none⟩,([0,1,2,3,4],[28,29,30,31,32,35])),(⟨(some 34),(.ld false 1 (.t 33)),none⟩,([0,1,2,3,4],[28,29,30,31,32,35])),(⟨(some 35),(.mv (.t 5)),none⟩,([0,1,2,3,4,5,6],[28,29,30,31,32,33,34])),(⟨(some 36),(.ia 4 (.t 34) (.t 35)),none⟩,([0,1,2,3,4],[28,29,30,31,32])),(⟨(some 37),(.ld true 4 (.t 36)),none⟩,([0,1,2,3,4],[28,29,30,31,32])),(⟨(some 38),(.eqa true [true,true,true,true] (.t 32) (.t 37)),none⟩,([],[]))]) (.kill [28,29,30,31,32,33,34,35,36,37] (.cond (.t 38) (.seq (.ops [⟨(some 4),(.mv (.k (.c (.v (.bool false))))),none⟩]) (.kill [2,3,5,38] .ret)) .skip)))) (.kill [4,28,29,30,31,32,33,34,35,36,37,38] (.ops [⟨(some 26),(.mv (.t 5)),none⟩,⟨(some 27),(.bin .add (.t 26) (.k (.c (.v (.int .i64 1))))),none⟩,⟨(some 5),(.mv (.t 27)),none⟩])))))))) (.kill [2,3,4,5,21,22,23,24,25,26,27,28,29,30,31,32,33,34,35,36,37,38] (.seq (.ops [⟨(some 4),(.mv (.k (.c (.v (.bool true))))),none⟩]) .ret)))))))
def rs60:List RS:=[(.t 4)]
def nt60:Nat:=39
def ir28:IR:=(.seq (.ops [⟨(some 4),(.mv (.k (.c (.v (.bool false))))),none⟩]) (.kill [2,3,4,5,6,7,8,9,10,11] (.seq (.seq (.ops [⟨(some 6),(.mv (.t 0)),none⟩,⟨(some 7),(.len (.t 6)),none⟩,⟨(some 8),(.mv (.t 1)),none⟩,⟨(some 9),(.len (.t 8)),none⟩,⟨(some 10),(.bin .neq (.t 7) (.t 9)),none⟩]) (.kill [6,7,8,9] (.cond (.t 10) (.seq (.ops [⟨(some 4),(.mv (.k (.c (.v (.bool false))))),none⟩]) (.kill [0,1,10] .ret)) .skip))) (.kill [4,10] (.seq (.seq (.ops [⟨(some 5),(.mv (.k (.c (.v (.int .i64 0))))),none⟩]) (.blk 0 (.loop (.seq (.seq (.ops [⟨(some 11),(.mv (.t 5)),none⟩,⟨(some 12),(.mv (.t 0)),none⟩,⟨(some 13),(.len (.t 12)),none⟩,⟨(some 14),(.bin .lss (.t 11) (.t 13)),none⟩]) (.kill [4,11,12,13,15,16,17,18,19,20,21,22,23,24,25,26] (.cond (.t 14) .skip (.exit 0)))) (.kill [14] (.seq (.blk 1 (.seq (.draw [(⟨(some 17),(.mv (.t 0)),none⟩,([],[18,21,22,23,24])),(⟨(some 18),(.mv (.t 5)),none⟩,([0],[17,21,22,23,24])),(⟨(some 19),(.ia 2 (.t 17) (.t 18)),none⟩,([],[21,22,23,24])),(⟨(some 20),(.ld true 2 (.t 19)),none⟩,([],[21,22,23,24])),(⟨(some 21),(.mv (.t 1)),none⟩,([0,1,2,3],[17,18,19,20,22])),(⟨(some 22),(.mv (.t 5)),none⟩,([0,1,2,3,4],[17,18,19,20,21])),(⟨(some 23),(.ia 2 (.t 21) (.t 22)),none⟩,([0,1,2,3],[17,18,19,20])),(⟨(some 24),(.ld true 2 (.t 23)),none⟩,([0,1,2,3],[17,18,19,20])),(⟨(some 25),(.call 60 [(.t 20),(.t 24)]),none⟩,([],[])),(⟨(some 26),(.un .not (.t 25)),none⟩,([],[]))]) (.kill [17,18,19,20,21,22,23,24,25] (.cond (.t 26) (.seq (.ops [⟨(some 4),(.mv (.k (.c (.v (.bool false))))),none⟩]) (.kill [0,1,5,26] .ret)) .skip)))) (.kill [4,17,18,19,20,21,22,23,24,25,26] (.ops [⟨(some 15),(.mv (.t 5)),none⟩,⟨(some 16),(.bin .add (.t 15) (.k (.c (.v (.int .i64 1))))),none⟩,⟨(some 5),(.mv (.t 16)),none⟩])))))))) (.kill [0,1,4,5,11,12,13,14,15,16,17,18,19,20,21,22,23,24,25,26] (.seq (.ops [⟨(some 4),(.mv (.k (.c (.v (.bool true))))),none⟩]) .ret)))))))
def rs28:List RS:=[(.t 4)]
def nt28:Nat:=27
theorem take_eqS {α:Type} {xs ys:List α} {d:α} {i:Nat} (h1:i<xs.length) (h2:i<ys.length) (h:xs.take i=ys.take i) (e:xs.getD i d=ys.getD i d):xs.take (i+1)=ys.take (i+1):=by
 rw [List.take_succ_eq_append_getElem h1,List.take_succ_eq_append_getElem h2,h]
 simp only [List.getD_eq_getElem?_getD,List.getElem?_eq_getElem h1,List.getElem?_eq_getElem h2,Option.getD_some] at e
 rw [e]
theorem ne_at {α:Type} {xs ys:List α} {d:α} {i:Nat} (e:xs.getD i d≠ys.getD i d):xs≠ys:=fun q=>e (by rw [q])
set_option maxRecDepth 100000 in
set_option maxHeartbeats 400000 in
theorem sintsD_calls (w : World) (v v' : Value) (xs ys:List Int) (h:Arr w eI 1 v xs) (h' : Arr w eI 1 v' ys):Calls Try.prog 41 #[v,v'] w (RetV w (.bool (decide (xs=ys)))):=by
  refine enter2 (A:=[]) (c:=ir41) (rs:=rs41) (nt:=nt41) 0 eI_ok h 0 eI_ok h' [.c (.xv (0,0,0)),.c (.xv (1,0,0))] _ Try.func41 rfl (by kernel_rfl) (by kernel_rfl) rfl (fun E' h0 h1=>by simp [SV.den,SC.den,h0,h1]) (of_decide_eq_true rfl) ?_
  have hml:=Z.Arr.lenM h
  simp only [maxLen] at hml
  simp (maxSteps:=2000000) only [ir41,nt41,rs41,go_sem,↓reduceIte,Nat.reduceLT,Nat.reduceLeDiff,Nat.reduceAdd,Nat.reduceSub,Nat.reduceMul,Nat.reduceEqDiff,reduceCtorEq,Int.reduceToNat,Int.reduceEq,Int.reduceBEq,Int.reduceBNe,Int.reduceLT,Int.reduceLE,Int.reduceNeg,Int.reduceAdd,Int.reduceSub,Int.reduceMul,Int.reduceGE,Int.reduceGT,endO]
  refine both (fun hne=>?_) (fun heq=>?_)
  · have hne:xs≠ys:=fun q=>by subst q;simp at hne
    exact retV fun E=>by simp [SV.den,SC.den,hne]
  have hle : xs.length = ys.length := by have q:(xs.length:Int)=ys.length:=by simpa using heq
                                         omega
  refine loopI (ι:={ i:Nat // i≤xs.length∧xs.take i=ys.take i }) (fun i=>⟨26,[(0,.c (.xv (0,0,0))),(1,.c (.xv (1,0,0))),(5,.c (.v (.int .i64 (i.1:Nat))))],[],[(0,.one (arrOf eI 1 xs 0)),(1,.one (arrOf eI 1 ys 0))],[],2⟩)
    (fun i=>xs.length - i.1) ⟨0,by omega,by simp⟩ (le_ren id rfl rfl (by simp [TmpsLe,look,SV.ren,SC.ren,SC.renL,ren1L,ren1,idσ,SV.okN,SC.okN,SC.okL,ok1L]) trivial (by simp [ArrsLe,ArrLeO,atN,look,Fm.get,idσ,arrLe_of,arrLe_0]) rfl) ?_
  rintro ⟨i,hi,htk⟩
  simp (maxSteps:=2000000) only [go_sem,↓reduceIte,Nat.reduceLT,Nat.reduceLeDiff,Nat.reduceAdd,Nat.reduceSub,Nat.reduceMul,Nat.reduceEqDiff,reduceCtorEq,Int.reduceToNat,Int.reduceEq,Int.reduceBEq,Int.reduceBNe,Int.reduceLT,Int.reduceLE,Int.reduceNeg,Int.reduceAdd,Int.reduceSub,Int.reduceMul,Int.reduceGE,Int.reduceGT,endO]
  refine both (fun hlt=>?_) (fun hge=>?_)
  · rw [decide_eq_true_eq] at hlt
    have hlt:i<xs.length:=by omega
    have hlt2:i<ys.length:=by omega
    refine draw_vc (by kernel_rfl) (mkTab_ok _ _) (of_decide_eq_true rfl) (of_decide_eq_true rfl) ?_
    repeat (first | simp (maxSteps:=2000000) only [go_sem,↓reduceIte,Nat.reduceLT,Nat.reduceLeDiff,Nat.reduceAdd,Nat.reduceSub,Nat.reduceMul,Nat.reduceEqDiff,reduceCtorEq,Int.reduceToNat,Int.reduceEq,Int.reduceBEq,Int.reduceBNe,Int.reduceLT,Int.reduceLE,Int.reduceNeg,Int.reduceAdd,Int.reduceSub,Int.reduceMul,Int.reduceGE,Int.reduceGT,endO,eI] | rw [dr_cons])
    refine And.intro hlt (And.intro hlt (And.intro hlt2 (And.intro hlt2 (both (fun hne=>?_) (fun heq=>?_)))))
    · have hne:xs≠ys:=ne_at (d:=0) (i:=i) (by simpa using hne)
      exact retV fun E=>by simp [SV.den,SC.den,hne]
    · rw [wr_succ (by omega)]
      exact backI ⟨i+1,by omega,take_eqS (d:=0) hlt hlt2 htk (by simpa using heq)⟩ (by simp only;omega) (le_ren id rfl rfl (by simp [TmpsLe,look,SV.ren,SC.ren,SC.renL,ren1L,ren1,idσ,SV.okN,SC.okN,SC.okL,ok1L]) trivial (by simp [ArrsLe,ArrLeO,atN,look,Fm.get,idσ,arrLe_of,arrLe_0]) rfl)
  · rw [decide_eq_false_iff_not] at hge
    have hin:i=xs.length:=by omega
    subst hin
    have he:xs=ys:=by rw [List.take_length,hle,List.take_length] at htk;exact htk
    exact retV fun E=>by simp [SV.den,SC.den,he]
end Go.Proofs.Ytmcpdafmkkjlcaa.Z
namespace Go.Proofs.Ytmcpdafmkkjlcaa.Z
open Go Go.RowKit
theorem fn_eq_iff {a b:Fn}:a=b↔a.words=b.words∧a.regs=b.regs:=by
 cases a;cases b;simp
instance:DecidableEq Fn:=fun a b=>decidable_of_iff _ fn_eq_iff.symm
theorem r4_eq_iff {a b:R4}:a=b↔a.a=b.a∧a.b=b.b∧a.c=b.c∧a.d=b.d:=by
 cases a;cases b;simp
set_option maxRecDepth 100000 in
set_option maxHeartbeats 1000000 in
theorem sfinalD_calls (w:World) (v v' : Value) (a b:Fn) (h:FnR w v a) (h' : FnR w v' b):Calls Try.prog 60 #[v,v'] w (RetV w (.bool (decide (a=b)))):=by
 have hm1:a.regs.length≤9223372036854775807:=by obtain ⟨_,_,_,_,h2⟩:=h;have:=Z.Arr.lenM h2;simp only [maxLen] at this;exact this
 refine enterFn2 (A:=[]) (c:=ir60) (rs:=rs60) (nt:=nt60) h h' Try.func60 rfl (by kernel_rfl) (by kernel_rfl) rfl (of_decide_eq_true rfl) ?_
 simp (maxSteps:=2000000) only [ir60,nt60,rs60,go_sem,↓reduceIte,Nat.reduceLT,Nat.reduceLeDiff,Nat.reduceAdd,Nat.reduceSub,Nat.reduceMul,Nat.reduceEqDiff,reduceCtorEq,Int.reduceToNat,Int.reduceEq,Int.reduceBEq,Int.reduceBNe,Int.reduceLT,Int.reduceLE,Int.reduceNeg,Int.reduceAdd,Int.reduceSub,Int.reduceMul,Int.reduceGE,Int.reduceGT,endO]
 refine callV (.c (.v (.bool (decide (a.words=b.words))))) _ (fun E=>rfl) (fun E a' w' hs=>sintsD_calls w' _ _ a.words b.words (arr_at (d:=0) hs 0 rfl) (arr_at (d:=0) hs 2 rfl)) ?_
 by_cases hw:a.words=b.words
 ·have dw:decide (a.words=b.words)=true:=decide_eq_true hw
  rw [dw]
  simp (maxSteps:=2000000) only [go_sem,↓reduceIte,Nat.reduceLT,Nat.reduceLeDiff,Nat.reduceAdd,Nat.reduceSub,Nat.reduceMul,Nat.reduceEqDiff,reduceCtorEq,Int.reduceToNat,Int.reduceEq,Int.reduceBEq,Int.reduceBNe,Int.reduceLT,Int.reduceLE,Int.reduceNeg,Int.reduceAdd,Int.reduceSub,Int.reduceMul,Int.reduceGE,Int.reduceGT,endO]
  refine both (fun hne=>?_) (fun heq=>?_)
  ·have hne:a≠b:=fun q=>by subst q;simp at hne
   exact retV fun E=>by simp [SV.den,SC.den,hne]
  have hle:a.regs.length=b.regs.length:=by
   have q:(a.regs.length:Int)=b.regs.length:=by simpa using heq
   omega
  refine loopI (ι:={ i:Nat // i≤a.regs.length∧a.regs.take i=b.regs.take i }) (fun i=>⟨39,[(2,.c (.ptr (4,0,0) 0)),(3,.c (.ptr (5,0,0) 0)),(5,.c (.v (.int .i64 (i.1:Nat))))],[(4,.one (.bk [.xv (0,0,0),.xv (1,0,0)] 67)),(5,.one (.bk [.xv (2,0,0),.xv (3,0,0)] 67))],[(0,.one (arrOf eI 1 a.words 0)),(1,.one (arrOf R4.enc 4 a.regs r40)),(2,.one (arrOf eI 1 b.words 0)),(3,.one (arrOf R4.enc 4 b.regs r40))],[],6⟩)
   (fun i=>a.regs.length - i.1) ⟨0,by omega,by simp⟩ (le_ren id rfl rfl (by simp [TmpsLe,look,SV.ren,SC.ren,SC.renL,ren1L,ren1,idσ,SV.okN,SC.okN,SC.okL,ok1L]) (by simp [OwnLe,BlkLeO,BlkLe,atN,look,Fm.get,idσ,SC.renL,SC.ren,SC.okL,SC.okN,renL_v,okL_v]) (by simp [ArrsLe,ArrLeO,atN,look,Fm.get,idσ,arrLe_of,arrLe_0]) rfl) ?_
  rintro ⟨i,hi,htk⟩
  simp (maxSteps:=2000000) only [go_sem,↓reduceIte,Nat.reduceLT,Nat.reduceLeDiff,Nat.reduceAdd,Nat.reduceSub,Nat.reduceMul,Nat.reduceEqDiff,reduceCtorEq,Int.reduceToNat,Int.reduceEq,Int.reduceBEq,Int.reduceBNe,Int.reduceLT,Int.reduceLE,Int.reduceNeg,Int.reduceAdd,Int.reduceSub,Int.reduceMul,Int.reduceGE,Int.reduceGT,endO]
  refine both (fun hlt=>?_) (fun hge=>?_)
  ·rw [decide_eq_true_eq] at hlt
   have hlt:i<a.regs.length:=by omega
   have hlt2:i<b.regs.length:=by omega
   refine draw_vc (by kernel_rfl) (mkTab_ok _ _) (of_decide_eq_true rfl) (of_decide_eq_true rfl) ?_
   repeat (first | simp (maxSteps:=2000000) only [go_sem,↓reduceIte,Nat.reduceLT,Nat.reduceLeDiff,Nat.reduceAdd,Nat.reduceSub,Nat.reduceMul,Nat.reduceEqDiff,reduceCtorEq,Int.reduceToNat,Int.reduceEq,Int.reduceBEq,Int.reduceBNe,Int.reduceLT,Int.reduceLE,Int.reduceNeg,Int.reduceAdd,Int.reduceSub,Int.reduceMul,Int.reduceGE,Int.reduceGT,endO,R4.enc] | rw [dr_cons])
   refine And.intro hlt (And.intro hlt (And.intro hlt2 (And.intro hlt2 (both (fun hne=>?_) (fun heq=>?_)))))
   ·have hne:a≠b:=fun q=>by subst q;simp at hne
    exact retV fun E=>by simp [SV.den,SC.den,hne]
   ·rw [wr_succ (by omega)]
    refine backI ⟨i+1,by omega,take_eqS (d:=r40) hlt hlt2 htk (r4_eq_iff.2 ?_)⟩ (by simp only;omega) (le_ren id rfl rfl (by simp [TmpsLe,look,SV.ren,SC.ren,SC.renL,ren1L,ren1,idσ,SV.okN,SC.okN,SC.okL,ok1L]) (by simp [OwnLe,BlkLeO,BlkLe,atN,look,Fm.get,idσ,SC.renL,SC.ren,SC.okL,SC.okN,renL_v,okL_v]) (by simp [ArrsLe,ArrLeO,atN,look,Fm.get,idσ,arrLe_of,arrLe_0]) rfl)
    simpa only [Bool.not_eq_false',Bool.and_eq_true,beq_iff_eq] using heq
  ·rw [decide_eq_false_iff_not] at hge
   have hin:i=a.regs.length:=by omega
   subst hin
   have he:a=b:=fn_eq_iff.2 ⟨hw,by rw [List.take_length,hle,List.take_length] at htk;exact htk⟩
   exact retV fun E=>by simp [SV.den,SC.den,he]
 ·have dw:decide (a.words=b.words)=false:=decide_eq_false hw
  rw [dw]
  simp (maxSteps:=2000000) only [go_sem,↓reduceIte,Nat.reduceLT,Nat.reduceLeDiff,Nat.reduceAdd,Nat.reduceSub,Nat.reduceMul,Nat.reduceEqDiff,reduceCtorEq,Int.reduceToNat,Int.reduceEq,Int.reduceBEq,Int.reduceBNe,Int.reduceLT,Int.reduceLE,Int.reduceNeg,Int.reduceAdd,Int.reduceSub,Int.reduceMul,Int.reduceGE,Int.reduceGT,endO]
  have hne:a≠b:=fun q=>hw (by rw [q])
  exact retV fun E=>by simp [SV.den,SC.den,hne]
set_option maxRecDepth 100000 in
set_option maxHeartbeats 1000000 in
theorem sfinalsD_calls (w:World) (v v' : Value) (xs ys:List Fn) (h:FnsR w v xs) (h' : FnsR w v' ys):Calls Try.prog 28 #[v,v'] w (RetV w (.bool (decide (xs=ys)))):=by
 have hml:=fns_len h
 refine enterFns2 (A:=[]) (c:=ir28) (rs:=rs28) (nt:=nt28) h h' Try.func28 rfl (by kernel_rfl) (by kernel_rfl) rfl (of_decide_eq_true rfl) ?_
 simp (maxSteps:=2000000) only [ir28,nt28,rs28,go_sem,↓reduceIte,Nat.reduceLT,Nat.reduceLeDiff,Nat.reduceAdd,Nat.reduceSub,Nat.reduceMul,Nat.reduceEqDiff,reduceCtorEq,Int.reduceToNat,Int.reduceEq,Int.reduceBEq,Int.reduceBNe,Int.reduceLT,Int.reduceLE,Int.reduceNeg,Int.reduceAdd,Int.reduceSub,Int.reduceMul,Int.reduceGE,Int.reduceGT,endO,fsA,fsF_len,fsF_size,fsF_at,List.cons_append,List.nil_append]
 refine both (fun hne=>?_) (fun heq=>?_)
 ·have hne:xs≠ys:=fun q=>by subst q;simp at hne
  exact retV fun E=>by simp [SV.den,SC.den,hne]
 have hle:xs.length=ys.length:=by
  have q:(xs.length:Int)=ys.length:=by simpa using heq
  omega
 refine loopI (ι:={ i:Nat // i≤xs.length∧xs.take i=ys.take i }) (fun i=>⟨27,[(0,.c (.xv (0,0,0))),(1,.c (.xv (3,0,0))),(5,.c (.v (.int .i64 (i.1:Nat))))],[],fsA 0 xs++fsA 3 ys,[],6⟩)
  (fun i=>xs.length - i.1) ⟨0,by omega,by simp⟩ (le_ren id rfl rfl (by simp [TmpsLe,look,SV.ren,SC.ren,SC.renL,ren1L,ren1,idσ,SV.okN,SC.okN,SC.okL,ok1L]) trivial (by simp +contextual [fsA,ArrsLe,ArrLeO,atN,look,Fm.get,idσ,arrLe_of,arrLe_0,arrLe_fs]) rfl) ?_
 rintro ⟨i,hi,htk⟩
 simp (maxSteps:=2000000) only [go_sem,↓reduceIte,Nat.reduceLT,Nat.reduceLeDiff,Nat.reduceAdd,Nat.reduceSub,Nat.reduceMul,Nat.reduceEqDiff,reduceCtorEq,Int.reduceToNat,Int.reduceEq,Int.reduceBEq,Int.reduceBNe,Int.reduceLT,Int.reduceLE,Int.reduceNeg,Int.reduceAdd,Int.reduceSub,Int.reduceMul,Int.reduceGE,Int.reduceGT,endO,fsA,fsF_len,fsF_size,fsF_at,List.cons_append,List.nil_append]
 refine both (fun hlt=>?_) (fun hge=>?_)
 ·rw [decide_eq_true_eq] at hlt
  have hlt:i<xs.length:=by omega
  have hlt2:i<ys.length:=by omega
  refine draw_vc (by kernel_rfl) (mkTab_ok _ _) (of_decide_eq_true rfl) (of_decide_eq_true rfl) ?_
  repeat (first | simp (maxSteps:=2000000) only [go_sem,↓reduceIte,Nat.reduceLT,Nat.reduceLeDiff,Nat.reduceAdd,Nat.reduceSub,Nat.reduceMul,Nat.reduceEqDiff,reduceCtorEq,Int.reduceToNat,Int.reduceEq,Int.reduceBEq,Int.reduceBNe,Int.reduceLT,Int.reduceLE,Int.reduceNeg,Int.reduceAdd,Int.reduceSub,Int.reduceMul,Int.reduceGE,Int.reduceGT,endO,fsF_len,fsF_size,fsF_at] | rw [dr_cons])
  refine And.intro hlt (And.intro hlt (And.intro hlt2 (And.intro hlt2 ?_)))
  refine dcallV (.c (.v (.bool (decide (xs.getD i fn0=ys.getD i fn0))))) _ (fun E=>rfl) (fun E a' w' hs=>sfinalD_calls w' _ _ _ _ (fn_fs hs 1 i hlt rfl rfl) (fn_fs hs 4 i hlt2 rfl rfl)) ?_
  by_cases he:xs.getD i fn0=ys.getD i fn0
  ·have de:decide (xs.getD i fn0=ys.getD i fn0)=true:=decide_eq_true he
   rw [de]
   repeat (first | simp (maxSteps:=2000000) only [go_sem,↓reduceIte,Nat.reduceLT,Nat.reduceLeDiff,Nat.reduceAdd,Nat.reduceSub,Nat.reduceMul,Nat.reduceEqDiff,reduceCtorEq,Int.reduceToNat,Int.reduceEq,Int.reduceBEq,Int.reduceBNe,Int.reduceLT,Int.reduceLE,Int.reduceNeg,Int.reduceAdd,Int.reduceSub,Int.reduceMul,Int.reduceGE,Int.reduceGT,endO] | rw [dr_cons])
   rw [wr_succ (by omega)]
   exact backI ⟨i+1,by omega,take_eqS (d:=fn0) hlt hlt2 htk he⟩ (by simp only;omega) (le_ren id rfl rfl (by simp [TmpsLe,look,SV.ren,SC.ren,SC.renL,ren1L,ren1,idσ,SV.okN,SC.okN,SC.okL,ok1L]) trivial (by simp +contextual [fsA,ArrsLe,ArrLeO,atN,look,Fm.get,idσ,arrLe_of,arrLe_0,arrLe_fs]) rfl)
  ·have de:decide (xs.getD i fn0=ys.getD i fn0)=false:=decide_eq_false he
   rw [de]
   repeat (first | simp (maxSteps:=2000000) only [go_sem,↓reduceIte,Nat.reduceLT,Nat.reduceLeDiff,Nat.reduceAdd,Nat.reduceSub,Nat.reduceMul,Nat.reduceEqDiff,reduceCtorEq,Int.reduceToNat,Int.reduceEq,Int.reduceBEq,Int.reduceBNe,Int.reduceLT,Int.reduceLE,Int.reduceNeg,Int.reduceAdd,Int.reduceSub,Int.reduceMul,Int.reduceGE,Int.reduceGT,endO] | rw [dr_cons])
   have hne:xs≠ys:=ne_at (d:=fn0) (i:=i) he
   exact retV fun E=>by simp [SV.den,SC.den,hne]
 ·rw [decide_eq_false_iff_not] at hge
  have hin:i=xs.length:=by omega
  subst hin
  have he:xs=ys:=by rw [List.take_length,hle,List.take_length] at htk;exact htk
  exact retV fun E=>by simp [SV.den,SC.den,he]
def nilF (e:Int):SV:=.tup [(false,[.v (.slice none 0 0)]),(false,[.v (.int .i64 e)])]
theorem nilF_den (e:Int) (E:Env):(nilF e).den E = .tuple #[.slice none 0 0,.int .i64 e]:=by simp [nilF,SV.den,SC.den,den1]
theorem lt_ownG {C:Ctx} {E:Env} {S:St} {a:Act} {w:World} (hs:Sat C.B C.W C.w0 E S a w) {L:Lt} (b:Nat) (h5:look S.own b=some (.one (.ar L.words.length 1 (ats eI L.words 0) 3))) (h6:look S.own (b+1)=some (.one (.ar L.thr.length 1 (thC (b+2) L) 80))) (h7:look S.own (b+2)=some (.fam L.thr.length (thO L))):LtR w ((SV.agg (twS b L)).den E) L :=
 ⟨(SC.sl (b,0,0) 1 0 L.words.length none).den E,(SC.sl (b+1,0,0) 1 0 L.thr.length none).den E,by simp [SV.den,twS],own_at (d:=0) hs b _ h5 rfl,nest_own (d:=in0) hs (b+1,0,0) (b+2) _ rfl (thC (b+2) L) (by simp [atN,h6,Fm.get];rfl) (fun _ _=>rfl) (fun k hk=>by simp [atN,h7,Fm.get,hk,thO];rfl)⟩
end Go.Proofs.Ytmcpdafmkkjlcaa.Z
namespace Go.Proofs.Ytmcpdafmkkjlcaa.Z
open Go Go.RowKit
def fe1 (code:List Ins) (j:Nat):List Ins:=if (code.getD j in0).kind=2 then [code.getD j in0,fenI] else [adjI (code.getD j in0) (code.drop (j+1))]
def feP (code:List Ins):Nat→List Ins
 | 0=>[]
 | j+1=>feP code j++fe1 code j
theorem feP_fen {code:List Ins}:∀ j,j≤code.length→feP code j++fenT (code.drop j)=fenT code
 | 0,_=>by simp [feP]
 | j+1,h=>by
  have ih:=feP_fen (code:=code) j (by omega)
  have hd:code.drop j=code.getD j in0 :: code.drop (j+1):=by rw [List.drop_eq_getElem_cons (by omega),List.getD_eq_getElem?_getD,List.getElem?_eq_getElem (by omega)];rfl
  rw [hd] at ih
  rw [← ih]
  simp only [feP,fe1,fenT,List.append_assoc]
  by_cases h2:(code.getD j in0).kind=2
  ·rw [if_pos h2,if_pos h2];rfl
  ·rw [if_neg h2,if_neg h2];rfl
theorem feP_all (code:List Ins):feP code code.length=fenT code:=by
 have:=feP_fen (code:=code) code.length (Nat.le_refl _)
 rw [List.drop_length] at this
 simpa [fenT] using this
theorem feP_len {code:List Ins}:∀ j,(feP code j).length≤2 * j
 | 0=>by simp [feP]
 | j+1=>by
  have:=feP_len (code:=code) j
  simp only [feP,List.length_append,fe1]
  split <;> simp <;> omega
theorem stN_app:∀ l m:List Ins,stN (l++m)=stN l+stN m
 | [],m=>by simp [stN]
 | c :: l,m=>by simp only [List.cons_append,stN,stN_app l m];omega
theorem stN_take {r:List Ins} {m:Nat} (h:m<r.length):stN (r.take (m+1))=stN (r.take m)+if (r.getD m in0).kind=2 then 1 else 0:=by
 rw [List.take_succ_eq_append_getElem h,stN_app,List.getD_eq_getElem?_getD,List.getElem?_eq_getElem h]
 simp [stN]
theorem stN_le:∀ r:List Ins,stN r≤r.length
 | []=>Nat.le_refl _
 | c :: r=>by have:=stN_le r;simp only [stN,List.length_cons];split <;> omega
def m10 (x:Int):Int:=if x≤10 then x else 10
theorem drop_getD {code:List Ins} {j m:Nat}:(code.drop (j+1)).getD m in0=code.getD (j+1+m) in0:=by
 rw [List.getD_eq_getElem?_getD,List.getElem?_drop,List.getD_eq_getElem?_getD]
def insC (c:Ins) (n:Int):List SC:=[.v (.int .i64 c.kind),.v (.int .i64 c.reg),.v (.int .i64 c.addr),.v (.int .i64 c.val),.v (.int .i64 c.frm),.v (.int .i64 c.old),.v (.int .i64 n)]
def feB (L:Lt) (n:Nat) (F:Lt):Own:=[(3,.one (.bk [.xv (0,0,0),.xv (1,0,0)] 25)),(4,.one (.bk [.v (.slice none 0 0),.v (.slice none 0 0)] 25)),(5,.one (.bk [.sl (6,0,0) 1 0 L.words.length none,.sl (7,0,0) 1 0 n none] 25)),(6,.one (.ar L.words.length 1 (ats eI L.words 0) 3)),(7,.one (.ar n 1 (thC 8 F) 80)),(8,.fam n (thO F))]
def feTm (i:Nat):List (Nat×SV):=[(1,.c (.ptr (3,0,0) 0)),(2,.c (.ptr (4,0,0) 0)),(4,.c (.ptr (5,0,0) 0)),(5,.c (.v (.int .i64 i)))]
def feI (code:List Ins) (j:Nat):Own:=[(9,.one (.ar (feP code j).length 7 (ats Ins.enc (feP code j) in0) 83))]
theorem feB_same {q:Nat→Prop} {τ:Nat→Nat} {own:Own} {L F:Lt} {n:Nat} (hq:∀ i,i<9→q i) (hτ:∀ i,i<9→τ i=i) (h3:look own 3=some (.one (.bk [.xv (0,0,0),.xv (1,0,0)] 25))) (h4:look own 4=some (.one (.bk [.v (.slice none 0 0),.v (.slice none 0 0)] 25))) (h5:look own 5=some (.one (.bk [.sl (6,0,0) 1 0 L.words.length none,.sl (7,0,0) 1 0 n none] 25))) (h6:look own 6=some (.one (.ar L.words.length 1 (ats eI L.words 0) 3))) (h7:look own 7=some (.one (.ar n 1 (thC 8 F) 80))) (h8:look own 8=some (.fam n (thO F))):OwnLe q (idσ τ) own (feB L n F):=by
 have t0:=hτ 0 (by decide);have t1:=hτ 1 (by decide);have t3:=hτ 3 (by decide);have t4:=hτ 4 (by decide);have t5:=hτ 5 (by decide);have t6:=hτ 6 (by decide);have t7:=hτ 7 (by decide);have t8:=hτ 8 (by decide)
 have q0:=hq 0 (by decide);have q1:=hq 1 (by decide);have q6:=hq 6 (by decide);have q7:=hq 7 (by decide);have q8:=hq 8 (by decide)
 refine ⟨⟨hq _ (by decide),?_⟩,⟨hq _ (by decide),?_⟩,⟨hq _ (by decide),?_⟩,⟨hq _ (by decide),?_⟩,⟨hq _ (by decide),?_⟩,⟨hq _ (by decide),fun k hk=>?_⟩,trivial⟩
 ·simp only [idσ,t3,atN,h3,Fm.get,and_self,if_true];exact ⟨by simp only [SC.renL,SC.ren,idσ,t0,t1],rfl,by simp [SC.okL,SC.okN,q0,q1]⟩
 ·simp only [idσ,t4,atN,h4,Fm.get,and_self,if_true];exact ⟨by simp only [SC.renL,SC.ren],rfl,by simp [SC.okL,SC.okN]⟩
 ·simp only [idσ,t5,atN,h5,Fm.get,and_self,if_true];exact ⟨by simp only [SC.renL,SC.ren,idσ,t6,t7],rfl,by simp [SC.okL,SC.okN,q6,q7]⟩
 ·simp only [idσ,t6,atN,h6,Fm.get,and_self,if_true];exact arLe_same
 ·simp only [idσ,t7,atN,h7,Fm.get,and_self,if_true]
  exact ⟨Nat.le_refl _,rfl,rfl,fun e _=>⟨by simp only [thC,SC.renL,SC.ren,idσ,t8],by simp [thC,SC.okL,SC.okN,q8]⟩⟩
 ·simp only [idσ,t8,atN,h8,Fm.get,hk,and_self,if_true,thO];exact arLe_same
theorem feI_le {q:Nat→Prop} {σ:Nm→Nm} {own:Own} {l:List Ins} {m a:Nat} {at_:Nat→List SC} (q9:q 9) (s9:σ (9,0,0)=(a,0,0)) (ha:look own a=some (.one (.ar m 7 at_ 83))) (hm:l.length≤m) (he:∀ e,e<l.length→at_ e=ats Ins.enc l in0 e):OwnLe q σ own [(9,.one (.ar l.length 7 (ats Ins.enc l in0) 83))]:=by
 refine ⟨⟨q9,?_⟩,trivial⟩
 rw [s9];simp only [atN,ha,Fm.get,and_self,if_true]
 exact arLe_of hm he
theorem adj_enc {c:Ins} {r:List Ins} {n:Int} (h:n=(adjI c r).cnt):insC c n=(adjI c r).enc.map .v:=by
 subst h
 have:=adj_same c r
 generalize adjI c r=d at this
 obtain ⟨_,_,_,_,_,_,_⟩:=c
 obtain ⟨_,_,_,_,_,_,_⟩:=d
 simp only [Ins.mk.injEq] at this
 obtain ⟨rfl,rfl,rfl,rfl,rfl,rfl,_⟩:=this
 rfl
theorem adj7 {c:Ins} {r:List Ins} (h:c.kind=7):(adjI c r).cnt=m10 (c.cnt+stN (r.take c.cnt.toNat)):=by
 unfold adjI m10;rw [if_pos h]
theorem adj_ne {c:Ins} {r:List Ins} (h:¬ c.kind=7):adjI c r=c:=by unfold adjI;rw [if_neg h]
theorem fe_push {l l' : List Ins} {x:Ins} {g:Nat→List SC} (hl:l' = l++[x]) (hg:g 0=x.enc.map .v):∀ e,e<l'.length→appAt l.length (ats Ins.enc l in0) g e=ats Ins.enc l' in0 e:=fun e he=>ats_push (enc:=Ins.enc) (d:=in0) hl rfl (fun _ _=>rfl) hg e he
theorem fe_push2 {l l' : List Ins} {x y:Ins} {g g' : Nat→List SC} (hl:l' = l++[x]++[y]) (hg:g 0=x.enc.map .v) (hg' : g' 0=y.enc.map .v):∀ e,e<l'.length→appAt (l.length+1) (appAt l.length (ats Ins.enc l in0) g) g' e=ats Ins.enc l' in0 e:=fun e he =>
 ats_push (enc:=Ins.enc) (d:=in0) (xs:=l++[x]) hl (by simp) (fun e he=>fe_push rfl hg e he) hg' e he
def fenB (L:Lt):Bool:=(List.range L.thr.length).all fun t=>decide ((fenT (L.thr.getD t [])).length≤10)
theorem fenB_iff {L:Lt}:fenB L=true↔∀ t,t<L.thr.length→(fenT (L.thr.getD t [])).length≤10:=by
 simp [fenB,List.all_eq_true]
def fenTp (F:Lt) (b:Nat):SV:=.tup [(true,twS b F),(false,[.v (.int .i64 0)])]
def nil2 (e:Int):Value:=.tuple #[.agg #[.slice none 0 0,.slice none 0 0],.int .i64 e]
def FenR (L:Lt) (w:World) (e:Ending) (w' : World):Prop:=if fenB L=true then RetN w 3 (fenTp (fenL L)) (fun b=>twO b (fenL L)) e w' else RetV w (nil2 3) e w'
theorem FenR_pos {L:Lt} {w:World} (h:fenB L=true):FenR L w=RetN w 3 (fenTp (fenL L)) (fun b=>twO b (fenL L)):=by
 funext e w';unfold FenR;rw [if_pos h]
theorem FenR_neg {L:Lt} {w:World} (h:¬ fenB L=true):FenR L w=RetV w (nil2 3):=by
 funext e w';unfold FenR;rw [if_neg h]
def ir31:IR:=(.seq (.ops [⟨(some 1),(.box 25 (.t 0)),none⟩,⟨(some 2),(.new 25 [(.v (.slice none 0 0)),(.v (.slice none 0 0))]),none⟩,⟨(some 3),(.mv (.k (.c (.v (.int .i64 0))))),none⟩]) (.kill [0,3,4,5,6,7,8,9,10,11] (.seq (.seq (.ops [⟨(some 11),(.ld true 2 (.t 1)),none⟩,⟨(some 12),(.call 18 [(.t 11)]),none⟩,⟨(some 13),(.un .not (.t 12)),none⟩]) (.kill [11,12] (.cond (.t 13) (.seq (.ops [⟨(some 14),(.build [(.v (.slice none 0 0)),(.v (.slice none 0 0))] []),none⟩,⟨none,(.st 2 (.t 2) (.t 14)),none⟩,⟨(some 3),(.mv (.k (.c (.v (.int .i64 190))))),none⟩]) (.kill [1,13,14] .ret)) .skip))) (.kill [3,13] (.seq (.ops [⟨(some 4),(.new 25 [(.v (.slice none 0 0)),(.v (.slice none 0 0))]),none⟩]) (.seq (.ops [⟨(some 15),(.fa 0 (.t 4)),none⟩,⟨(some 16),(.ld false 1 (.t 15)),none⟩,⟨(some 17),(.fa 0 (.t 1)),none⟩,⟨(some 18),(.ld false 1 (.t 17)),none⟩,⟨(some 19),(.app 3 1 8 [(.v (.int .i64 0))] (.t 16) (.t 18)),none⟩,⟨(some 20),(.fa 0 (.t 4)),none⟩,⟨none,(.st 1 (.t 20) (.t 19)),none⟩]) (.kill [15,16,17,18,19,20] (.seq (.seq (.ops [⟨(some 5),(.mv (.k (.c (.v (.int .i64 0))))),none⟩]) (.blk 0 (.loop (.seq (.seq (.ops [⟨(some 21),(.mv (.t 5)),none⟩,⟨(some 22),(.fa 1 (.t 1)),none⟩,⟨(some 23),(.ld false 1 (.t 22)),none⟩,⟨(some 24),(.len (.t 23)),none⟩,⟨(some 25),(.bin .lss (.t 21) (.t 24)),none⟩]) (.kill [3,6,7,8,9,10,21,22,23,24,26,27,28,29,30,31,32,33,34,35,36,37,38,39,40,41,42,43,44,45,46,47,48,49,50,51,52,53,54,55,56,57,58,59,60,61,62,63,64,65,66,67,68,69,70,71,72,73,74,75,76,77,78,79,80,81,82,83,84,85,86,87,88,89,90,91,92,93,94,95,96] (.cond (.t 25) .skip (.exit 0)))) (.kill [25] (.seq (.blk 1 (.seq (.ops [⟨(some 28),(.fa 1 (.t 1)),none⟩,⟨(some 29),(.ld false 1 (.t 28)),none⟩,⟨(some 30),(.mv (.t 5)),none⟩,⟨(some 31),(.ia 1 (.t 29) (.t 30)),none⟩,⟨(some 32),(.ld false 1 (.t 31)),none⟩,⟨(some 6),(.mv (.t 32)),none⟩]) (.kill [28,29,30,31,32] (.seq (.ops [⟨(some 7),(.mv (.k (.c (.v (.slice none 0 0))))),none⟩]) (.seq (.seq (.ops [⟨(some 8),(.mv (.k (.c (.v (.int .i64 0))))),none⟩]) (.blk 2 (.loop (.seq (.seq (.ops [⟨(some 33),(.mv (.t 8)),none⟩,⟨(some 34),(.mv (.t 6)),none⟩,⟨(some 35),(.len (.t 34)),none⟩,⟨(some 36),(.bin .lss (.t 33) (.t 35)),none⟩]) (.kill [9,10,33,34,35,37,38,39,40,41,42,43,44,45,46,47,48,49,50,51,52,53,54,55,56,57,58,59,60,61,62,63,64,65,66,67,68,69,70,71,72,73,74,75,76,77,78,79,80,81,82,83,84,85,86] (.cond (.t 36) .skip (.exit 2)))) (.kill [36] (.seq (.blk 3 (.seq (.ops [⟨(some 39),(.mv (.t 6)),none⟩,⟨(some 40),(.mv (.t 8)),none⟩,⟨(some 41),(.ia 7 (.t 39) (.t 40)),none⟩,⟨(some 42),(.ld true 7 (.t 41)),none⟩,⟨(some 9),(.new 83 [(.v (.int .i64 0)),(.v (.int .i64 0)),(.v (.int .i64 0)),(.v (.int .i64 0)),(.v (.int .i64 0)),(.v (.int .i64 0)),(.v (.int .i64 0))]),none⟩,⟨none,(.st 7 (.t 9) (.t 42)),none⟩]) (.kill [39,40,41,42] (.seq (.seq (.ops [⟨(some 43),(.fa 0 (.t 9)),none⟩,⟨(some 44),(.ld false 1 (.t 43)),none⟩,⟨(some 45),(.bin .eql (.t 44) (.k (.c (.v (.int .i64 7))))),none⟩]) (.kill [43,44] (.cond (.t 45) (.seq (.ops [⟨(some 46),(.mv (.t 8)),none⟩,⟨(some 47),(.bin .add (.t 46) (.k (.c (.v (.int .i64 1))))),none⟩,⟨(some 10),(.mv (.t 47)),none⟩]) (.kill [45,46,47] (.blk 4 (.loop (.seq (.seq (.ops [⟨(some 48),(.mv (.t 10)),none⟩,⟨(some 49),(.mv (.t 6)),none⟩,⟨(some 50),(.len (.t 49)),none⟩,⟨(some 51),(.bin .lss (.t 48) (.t 50)),none⟩,⟨(some 52),(.mv (.t 51)),none⟩,⟨(some 53),(.mv (.t 10)),(some (52,true))⟩,⟨(some 54),(.mv (.t 8)),(some (52,true))⟩,⟨(some 55),(.mv (.t 6)),(some (52,true))⟩,⟨(some 56),(.mv (.t 8)),(some (52,true))⟩,⟨(some 57),(.ia 7 (.t 55) (.t 56)),(some (52,true))⟩,⟨(some 58),(.fa 6 (.t 57)),(some (52,true))⟩,⟨(some 59),(.ld false 1 (.t 58)),(some (52,true))⟩,⟨(some 60),(.bin .add (.t 54) (.t 59)),(some (52,true))⟩,⟨(some 61),(.bin .leq (.t 53) (.t 60)),(some (52,true))⟩,⟨(some 62),(.pick (.t 52) (.t 61) (.k (.c (.v (.bool false))))),none⟩]) (.kill [48,49,50,51,52,53,54,55,56,57,58,59,60,61,63,64,65,66,67,68,69,70,71,72,73,74,75] (.cond (.t 62) .skip (.exit 4)))) (.kill [62] (.seq (.blk 5 (.seq (.ops [⟨(some 65),(.mv (.t 6)),none⟩,⟨(some 66),(.mv (.t 10)),none⟩,⟨(some 67),(.ia 7 (.t 65) (.t 66)),none⟩,⟨(some 68),(.fa 0 (.t 67)),none⟩,⟨(some 69),(.ld false 1 (.t 68)),none⟩,⟨(some 70),(.bin .eql (.t 69) (.k (.c (.v (.int .i64 2))))),none⟩]) (.kill [65,66,67,68,69] (.cond (.t 70) (.ops [⟨(some 71),(.fa 6 (.t 9)),none⟩,⟨(some 72),(.ld false 1 (.t 71)),none⟩,⟨(some 73),(.bin .add (.t 72) (.k (.c (.v (.int .i64 1))))),none⟩,⟨(some 74),(.mm false (.t 73) (.k (.c (.v (.int .i64 10))))),none⟩,⟨(some 75),(.fa 6 (.t 9)),none⟩,⟨none,(.st 1 (.t 75) (.t 74)),none⟩]) .skip)))) (.kill [65,66,67,68,69,70,71,72,73,74,75] (.ops [⟨(some 63),(.mv (.t 10)),none⟩,⟨(some 64),(.bin .add (.t 63) (.k (.c (.v (.int .i64 1))))),none⟩,⟨(some 10),(.mv (.t 64)),none⟩]))))))))) .skip))) (.kill [10,45,48,49,50,51,52,53,54,55,56,57,58,59,60,61,62,63,64,65,66,67,68,69,70,71,72,73,74,75] (.seq (.ops [⟨(some 76),(.mv (.t 7)),none⟩,⟨(some 77),(.ld true 7 (.t 9)),none⟩,⟨(some 78),(.mkSl 83 1 7 [(.v (.int .i64 0)),(.v (.int .i64 0)),(.v (.int .i64 0)),(.v (.int .i64 0)),(.v (.int .i64 0)),(.v (.int .i64 0)),(.v (.int .i64 0))] [(0,(7,(.t 77)))]),none⟩,⟨(some 79),(.app 83 7 56 [(.v (.int .i64 0)),(.v (.int .i64 0)),(.v (.int .i64 0)),(.v (.int .i64 0)),(.v (.int .i64 0)),(.v (.int .i64 0)),(.v (.int .i64 0))] (.t 76) (.t 78)),none⟩,⟨(some 7),(.mv (.t 79)),none⟩]) (.kill [76,77,78,79] (.seq (.ops [⟨(some 80),(.fa 0 (.t 9)),none⟩,⟨(some 81),(.ld false 1 (.t 80)),none⟩,⟨(some 82),(.bin .eql (.t 81) (.k (.c (.v (.int .i64 2))))),none⟩]) (.kill [9,80,81] (.cond (.t 82) (.ops [⟨(some 83),(.mv (.t 7)),none⟩,⟨(some 84),(.build [(.v (.int .i64 0)),(.v (.int .i64 0)),(.v (.int .i64 0)),(.v (.int .i64 0)),(.v (.int .i64 0)),(.v (.int .i64 0)),(.v (.int .i64 0))] [(0,(1,(.k (.c (.v (.int .i64 4))))))]),none⟩,⟨(some 85),(.mkSl 83 1 7 [(.v (.int .i64 0)),(.v (.int .i64 0)),(.v (.int .i64 0)),(.v (.int .i64 0)),(.v (.int .i64 0)),(.v (.int .i64 0)),(.v (.int .i64 0))] [(0,(7,(.t 84)))]),none⟩,⟨(some 86),(.app 83 7 56 [(.v (.int .i64 0)),(.v (.int .i64 0)),(.v (.int .i64 0)),(.v (.int .i64 0)),(.v (.int .i64 0)),(.v (.int .i64 0)),(.v (.int .i64 0))] (.t 83) (.t 85)),none⟩,⟨(some 7),(.mv (.t 86)),none⟩]) .skip)))))))))) (.kill [9,10,39,40,41,42,43,44,45,46,47,48,49,50,51,52,53,54,55,56,57,58,59,60,61,62,63,64,65,66,67,68,69,70,71,72,73,74,75,76,77,78,79,80,81,82,83,84,85,86] (.ops [⟨(some 37),(.mv (.t 8)),none⟩,⟨(some 38),(.bin .add (.t 37) (.k (.c (.v (.int .i64 1))))),none⟩,⟨(some 8),(.mv (.t 38)),none⟩])))))))) (.kill [6,8,9,10,33,34,35,36,37,38,39,40,41,42,43,44,45,46,47,48,49,50,51,52,53,54,55,56,57,58,59,60,61,62,63,64,65,66,67,68,69,70,71,72,73,74,75,76,77,78,79,80,81,82,83,84,85,86] (.seq (.seq (.ops [⟨(some 87),(.mv (.t 7)),none⟩,⟨(some 88),(.len (.t 87)),none⟩,⟨(some 89),(.bin .gtr (.t 88) (.k (.c (.v (.int .i64 10))))),none⟩]) (.kill [87,88] (.cond (.t 89) (.seq (.ops [⟨(some 90),(.build [(.v (.slice none 0 0)),(.v (.slice none 0 0))] []),none⟩,⟨none,(.st 2 (.t 2) (.t 90)),none⟩,⟨(some 3),(.mv (.k (.c (.v (.int .i64 3))))),none⟩]) (.kill [1,4,5,7,89,90] .ret)) .skip))) (.kill [3,89] (.ops [⟨(some 91),(.fa 1 (.t 4)),none⟩,⟨(some 92),(.ld false 1 (.t 91)),none⟩,⟨(some 93),(.mv (.t 7)),none⟩,⟨(some 94),(.mkSl 80 1 1 [(.v (.slice none 0 0))] [(0,(1,(.t 93)))]),none⟩,⟨(some 95),(.app 80 1 24 [(.v (.slice none 0 0))] (.t 92) (.t 94)),none⟩,⟨(some 96),(.fa 1 (.t 4)),none⟩,⟨none,(.st 1 (.t 96) (.t 95)),none⟩]))))))))) (.kill [3,6,7,8,9,10,28,29,30,31,32,33,34,35,36,37,38,39,40,41,42,43,44,45,46,47,48,49,50,51,52,53,54,55,56,57,58,59,60,61,62,63,64,65,66,67,68,69,70,71,72,73,74,75,76,77,78,79,80,81,82,83,84,85,86,87,88,89,90,91,92,93,94,95,96] (.ops [⟨(some 26),(.mv (.t 5)),none⟩,⟨(some 27),(.bin .add (.t 26) (.k (.c (.v (.int .i64 1))))),none⟩,⟨(some 5),(.mv (.t 27)),none⟩])))))))) (.kill [1,3,5,6,7,8,9,10,21,22,23,24,25,26,27,28,29,30,31,32,33,34,35,36,37,38,39,40,41,42,43,44,45,46,47,48,49,50,51,52,53,54,55,56,57,58,59,60,61,62,63,64,65,66,67,68,69,70,71,72,73,74,75,76,77,78,79,80,81,82,83,84,85,86,87,88,89,90,91,92,93,94,95,96] (.seq (.ops [⟨(some 97),(.ld true 2 (.t 4)),none⟩,⟨none,(.st 2 (.t 2) (.t 97)),none⟩,⟨(some 3),(.mv (.k (.c (.v (.int .i64 0))))),none⟩]) (.kill [4,97] .ret)))))))))))
def rs31:List RS:=[(.cell 2 true 2),(.t 3)]
def nt31:Nat:=98
set_option maxRecDepth 100000 in
set_option maxHeartbeats 2000000 in
theorem rfen_calls (w:World) (v:Value) (L:Lt) (hL:checkB L=true) (h:LtR w v L):Calls Try.prog 31 #[v] w (FenR L w):=by
 refine enterLt (A:=[]) (c:=ir31) (rs:=rs31) (nt:=nt31) h [.agg (ltS 0)] _ Try.func31 rfl (by kernel_rfl) (by kernel_rfl) rfl (fun E' h0=>by simp only [List.map_cons,List.map_nil,h0]) (of_decide_eq_true rfl) ?_
 generalize hR:FenR L w=R
 obtain ⟨z1,z2,z3,z4⟩:=sz_at hL
 simp (maxSteps:=2000000) only [ir31,nt31,rs31,go_sem,↓reduceIte,Nat.reduceLT,Nat.reduceLeDiff,Nat.reduceAdd,Nat.reduceSub,Nat.reduceMul,Nat.reduceEqDiff,reduceCtorEq,Int.reduceToNat,Int.reduceEq,Int.reduceBEq,Int.reduceBNe,Int.reduceLT,Int.reduceLE,Int.reduceNeg,Int.reduceAdd,Int.reduceSub,Int.reduceMul,Int.reduceGE,Int.reduceGT,endO,ltA,ltS]
 refine callV (.c (.v (.bool true))) _ (fun E=>rfl) (fun E a w' hs=>by
  have:=rcheck_calls w' _ L (ltL_at hs rfl rfl rfl)
  rw [hL] at this
  exact this) ?_
 simp (maxSteps:=2000000) only [go_sem,↓reduceIte,Nat.reduceLT,Nat.reduceLeDiff,Nat.reduceAdd,Nat.reduceSub,Nat.reduceMul,Nat.reduceEqDiff,reduceCtorEq,Int.reduceToNat,Int.reduceEq,Int.reduceBEq,Int.reduceBNe,Int.reduceLT,Int.reduceLE,Int.reduceNeg,Int.reduceAdd,Int.reduceSub,Int.reduceMul,Int.reduceGE,Int.reduceGT,endO]
 refine And.intro ⟨by omega,by simp only [maxLen];omega⟩ ?_
 refine loopI (ι:={ i:Nat // i≤L.thr.length∧∀ t,t<i→(fenT (L.thr.getD t [])).length≤10 }) (fun i=>⟨98,feTm i.1,feB L i.1 (fenL L),ltA 0 L,[],9⟩) (fun i=>L.thr.length - i.1) ⟨0,by omega,fun t ht=>by omega⟩ ?_ ?_
 ·refine le_tr (le_nilcell 5 1 80 25 _ [.sl (6,0,0) 1 0 L.words.length none,.sl (7,0,0) 1 0 0 none] (thC 8 (fenL L)) rfl rfl (fun E h1 h2=>by simp [SC.den,h1,h2])) ?_
  refine le_ren id rfl rfl (by simp [feTm,TmpsLe,look,SV.ren,SC.ren,idσ,SV.okN,SC.okN]) ?_ (arr_ltA (p:=(· < 9)) (fun i h=>Nat.lt_trans h (show 3<9 by decide)) (fun i h=>rfl) rfl rfl rfl) rfl
  simp [feB,OwnLe,BlkLeO,BlkLe,atN,look,setL,Fm.get,idσ,SC.renL,SC.ren,SC.okL,SC.okN,renL_v,okL_v,ren_ats,ok_ats,arrOf_ats]
 rintro ⟨i,hi,hil⟩
 simp (maxSteps:=2000000) only [go_sem,↓reduceIte,Nat.reduceLT,Nat.reduceLeDiff,Nat.reduceAdd,Nat.reduceSub,Nat.reduceMul,Nat.reduceEqDiff,reduceCtorEq,Int.reduceToNat,Int.reduceEq,Int.reduceBEq,Int.reduceBNe,Int.reduceLT,Int.reduceLE,Int.reduceNeg,Int.reduceAdd,Int.reduceSub,Int.reduceMul,Int.reduceGE,Int.reduceGT,endO,feTm,feB,ltA]
 refine both (fun hlt=>?_) (fun hge=>?_)
 ·rw [decide_eq_true_eq] at hlt
  have hlt:i<L.thr.length:=by omega
  have hcl:=(fits_at hL hlt).1
  have hfit:=(fits_at hL hlt).2
  generalize hcode:L.thr.getD i []=code at hcl hfit
  refine And.intro hlt (And.intro hlt ?_)
  refine loopI (ι:={ j:Nat // j≤code.length }) (fun j=>⟨98,feTm i++[(6,.c (.xv (2,i,0))),(7,.c (.sl (9,0,0) 7 0 (feP code j.1).length none)),(8,.c (.v (.int .i64 (j.1:Nat))))],feB L i (fenL L)++feI code j.1,ltA 0 L,[],10⟩) (fun j=>code.length - j.1) ⟨0,by omega⟩ ?_ ?_
  ·refine le_tr (le_nilown (tmps':=feTm i++[(6,.c (.xv (2,i,0))),(7,.c (.sl (9,0,0) 7 0 0 none)),(8,.c (.v (.int .i64 0)))]) 7 83 (ats Ins.enc [] in0) (by simp [TmpsNil,look,feTm]) rfl) ?_
   exact le_ren id rfl rfl (by simp [feTm,feP,TmpsLe,look,SV.ren,SC.ren,idσ,SV.okN,SC.okN]) (ownLe_app (feB_same (fun i h=>Nat.lt_trans h (show 9<10 by decide)) (fun _ _=>rfl) rfl rfl rfl rfl rfl rfl) (feI_le (q:=(· < 10)) (a:=9) (show 9<10 by decide) rfl rfl (Nat.le_refl _) (fun e he=>by simp [feP] at he))) (arr_ltA (p:=(· < 10)) (fun i h=>Nat.lt_trans h (show 3<10 by decide)) (fun i h=>rfl) rfl rfl rfl) rfl
  rintro ⟨j,hj⟩
  have hfl:=feP_len (code:=code) j
  simp (maxSteps:=2000000) only [go_sem,↓reduceIte,Nat.reduceLT,Nat.reduceLeDiff,Nat.reduceAdd,Nat.reduceSub,Nat.reduceMul,Nat.reduceEqDiff,reduceCtorEq,Int.reduceToNat,Int.reduceEq,Int.reduceBEq,Int.reduceBNe,Int.reduceLT,Int.reduceLE,Int.reduceNeg,Int.reduceAdd,Int.reduceSub,Int.reduceMul,Int.reduceGE,Int.reduceGT,endO,feTm,feB,feI,ltA,hcode,Ins.enc]
  refine And.intro hlt (both (fun hltj=>?_) (fun hgej=>?_))
  ·rw [decide_eq_true_eq] at hltj
   refine And.intro ⟨hlt,hltj⟩ (And.intro ⟨hlt,hltj⟩ ?_)
   rw [wr_succ (by omega)]
   have hfc:=hfit (code.getD j in0) (by rw [List.getD_eq_getElem?_getD,List.getElem?_eq_getElem hltj];exact List.getElem_mem hltj)
   have hP:feP code (j+1)=feP code j++fe1 code j:=rfl
   have h1:fe1 code j=if (code.getD j in0).kind=2 then [code.getD j in0,fenI] else [adjI (code.getD j in0) (code.drop (j+1))]:=rfl
   have hrl:(code.drop (j+1)).length=code.length - (j+1):=by rw [List.length_drop]
   have hrg:∀ m,(code.drop (j+1)).getD m in0=code.getD (j+1+m) in0:=fun m=>drop_getD
   generalize hc:code.getD j in0=c at hfc h1 ⊢
   generalize code.drop (j+1)=r at h1 hrl hrg
   simp only [fitsB,decide_eq_true_eq] at hfc
   refine both (fun h7=>?_) (fun h7=>?_)
   ·have h7:c.kind=7:=by simpa using h7
    have hcn:=hfc.2.2.2.2.2 h7
    have h2:¬ c.kind=2:=by omega
    rw [if_neg h2] at h1
    refine loopI (ι:={ m:Nat // j+1+m≤code.length∧(m:Int)≤c.cnt }) (fun m=>⟨98,feTm i++[(6,.c (.xv (2,i,0))),(7,.c (.sl (9,0,0) 7 0 (feP code j).length none)),(8,.c (.v (.int .i64 j))),(9,.c (.ptr (10,0,0) 0)),(10,.c (.v (.int .i64 ((j+1+m.1:Nat):Int))))],feB L i (fenL L)++(feI code j++[(10,.one (.bk (insC c (m10 (c.cnt+stN (r.take m.1)))) 83))]),ltA 0 L,[],11⟩) (fun m=>code.length - m.1) ⟨0,by omega,by omega⟩ ?_ ?_
    ·have e0:m10 (c.cnt+stN (r.take 0))=c.cnt:=by simp only [List.take_zero,stN,m10];split <;> omega
     exact le_ren id rfl rfl (by simp [feTm,TmpsLe,look,SV.ren,SC.ren,idσ,SV.okN,SC.okN]) (ownLe_app (feB_same (fun i h=>Nat.lt_trans h (show 9<11 by decide)) (fun _ _=>rfl) rfl rfl rfl rfl rfl rfl) (ownLe_app (feI_le (q:=(· < 11)) (a:=9) (show 9<11 by decide) rfl rfl (Nat.le_refl _) (fun e he=>rfl)) (by rw [e0];simp [OwnLe,BlkLeO,BlkLe,atN,look,Fm.get,idσ,insC,SC.renL,SC.ren,SC.okL,SC.okN]))) (arr_ltA (p:=(· < 11)) (fun i h=>Nat.lt_trans h (show 3<11 by decide)) (fun i h=>rfl) rfl rfl rfl) rfl
    have k2:(c.kind == 2)=false:=by simp [h2]
    rintro ⟨m,hm,hmc⟩
    have hlen:(feP code (j+1)).length=(feP code j).length+1:=by rw [hP,h1,List.length_append];rfl
    have hml:=stN_le (r.take m)
    rw [List.length_take] at hml
    have hm10:m10 (c.cnt+stN (r.take m))≤10∧0≤m10 (c.cnt+stN (r.take m)):=by unfold m10;split <;> omega
    by_cases hlm:j+1+m<code.length
    ·have dl:decide (j+1+m<code.length)=true:=decide_eq_true hlm
     have hst:=stN_take (r:=r) (m:=m) (by omega)
     rw [hrg] at hst
     simp (maxSteps:=2000000) only [go_sem,↓reduceIte,Nat.reduceLT,Nat.reduceLeDiff,Nat.reduceAdd,Nat.reduceSub,Nat.reduceMul,Nat.reduceEqDiff,reduceCtorEq,Int.reduceToNat,Int.reduceEq,Int.reduceBEq,Int.reduceBNe,Int.reduceLT,Int.reduceLE,Int.reduceNeg,Int.reduceAdd,Int.reduceSub,Int.reduceMul,Int.reduceGE,Int.reduceGT,endO,feTm,feB,feI,ltA,hcode,Ins.enc,insC,dl,hc,k2,List.cons_append,List.nil_append]
     rw [wr_succ (n:=j+1+m) (by omega),wr_succ (n:=j) (by omega)]
     refine And.intro hlt (And.intro ⟨hlt,hltj⟩ (And.intro ⟨hlt,hltj⟩ (And.intro ⟨hlt,hltj⟩ (both (fun hle=>?_) (fun hgt=>?_)))))
     ·have hle:(m:Int)+1≤c.cnt:=by
       have:=of_decide_eq_true hle
       rw [wr64 (by omega) (by omega)] at this
       omega
      refine And.intro ⟨hlt,hlm⟩ (And.intro ⟨hlt,hlm⟩ (And.intro ⟨hlt,hlm⟩ (both (fun hk=>?_) (fun hk=>?_))))
      ·rw [if_pos (by simpa using hk)] at hst
       have e1:(if 10<IntKind.i64.wrap (m10 (c.cnt+(stN (r.take m):Nat))+1) then 10 else IntKind.i64.wrap (m10 (c.cnt+(stN (r.take m):Nat))+1))=m10 (c.cnt+(stN (r.take (m+1)):Nat)):=by
        rw [wr64 (by omega) (by omega),hst]
        unfold m10
        split <;> split <;> split <;> omega
       refine backI ⟨m+1,by omega,by omega⟩ (by simp only;omega) (le_ren id rfl rfl (by simp [feTm,TmpsLe,look,SV.ren,SC.ren,idσ,SV.okN,SC.okN];omega) (ownLe_app (feB_same (fun i h=>Nat.lt_trans h (show 9<11 by decide)) (fun _ _=>rfl) rfl rfl rfl rfl rfl rfl) (ownLe_app (feI_le (q:=(· < 11)) (a:=9) (show 9<11 by decide) rfl rfl (Nat.le_refl _) (fun e he=>rfl)) ?_)) (arr_ltA (p:=(· < 11)) (fun i h=>Nat.lt_trans h (show 3<11 by decide)) (fun i h=>rfl) rfl rfl rfl) rfl)
       rw [e1]
       simp [OwnLe,BlkLeO,BlkLe,atN,look,Fm.get,idσ,insC,SC.renL,SC.ren,SC.okL,SC.okN]
      ·rw [if_neg (by simpa using hk),Nat.add_zero] at hst
       refine backI ⟨m+1,by omega,by omega⟩ (by simp only;omega) (le_ren id rfl rfl (by simp [feTm,TmpsLe,look,SV.ren,SC.ren,idσ,SV.okN,SC.okN];omega) (ownLe_app (feB_same (fun i h=>Nat.lt_trans h (show 9<11 by decide)) (fun _ _=>rfl) rfl rfl rfl rfl rfl rfl) (ownLe_app (feI_le (q:=(· < 11)) (a:=9) (show 9<11 by decide) rfl rfl (Nat.le_refl _) (fun e he=>rfl)) ?_)) (arr_ltA (p:=(· < 11)) (fun i h=>Nat.lt_trans h (show 3<11 by decide)) (fun i h=>rfl) rfl rfl rfl) rfl)
       simp only
       rw [hst]
       simp [OwnLe,BlkLeO,BlkLe,atN,look,Fm.get,idσ,insC,SC.renL,SC.ren,SC.okL,SC.okN]
     ·have hgt:(m:Int)=c.cnt:=by
       have:=of_decide_eq_false hgt
       rw [wr64 (by omega) (by omega)] at this
       omega
      have hE:m10 (c.cnt+stN (r.take m))=(adjI c r).cnt:=by rw [adj7 h7,show c.cnt.toNat=m by omega]
      refine And.intro (by decide) (And.intro ⟨Nat.le_refl _,by omega,by simp only [maxLen];omega⟩ ?_)
      exact backI ⟨j+1,hltj⟩ (by simp only;omega) (le_ren (fun i=>if i=9 then 12 else i) rfl rfl (by simp [feTm,TmpsLe,look,SV.ren,SC.ren,idσ,SV.okN,SC.okN,hlen]) (ownLe_app (feB_same (fun i h=>Nat.lt_trans h (show 9<10 by decide)) (fun i h=>by rw [if_neg (by omega)]) rfl rfl rfl rfl rfl rfl) (feI_le (q:=(· < 10)) (a:=12) (show 9<10 by decide) rfl rfl (by rw [hlen];exact Nat.le_refl _) (fe_push (x:=adjI c r) (by rw [hP,h1]) (adj_enc hE)))) (arr_ltA (p:=(· < 10)) (fun i h=>Nat.lt_trans h (show 3<10 by decide)) (fun i h=>by rw [if_neg (by omega)]) rfl rfl rfl) rfl)
    ·have dl:decide (j+1+m<code.length)=false:=decide_eq_false hlm
     simp (maxSteps:=2000000) only [go_sem,↓reduceIte,Nat.reduceLT,Nat.reduceLeDiff,Nat.reduceAdd,Nat.reduceSub,Nat.reduceMul,Nat.reduceEqDiff,reduceCtorEq,Int.reduceToNat,Int.reduceEq,Int.reduceBEq,Int.reduceBNe,Int.reduceLT,Int.reduceLE,Int.reduceNeg,Int.reduceAdd,Int.reduceSub,Int.reduceMul,Int.reduceGE,Int.reduceGT,endO,feTm,feB,feI,ltA,hcode,Ins.enc,insC,dl,hc,k2,List.cons_append,List.nil_append]
     rw [wr_succ (n:=j) (by omega)]
     have hE:m10 (c.cnt+stN (r.take m))=(adjI c r).cnt:=by
      rw [adj7 h7,List.take_of_length_le (by omega),List.take_of_length_le (by omega)]
     repeat (with_reducible refine And.intro (by first | decide | exact ⟨Nat.le_refl _,by omega,by simp only [maxLen];omega⟩ | exact ⟨hlt,hltj⟩ | exact hlt) ?_)
     exact backI ⟨j+1,hltj⟩ (by simp only;omega) (le_ren (fun i=>if i=9 then 12 else i) rfl rfl (by simp [feTm,TmpsLe,look,SV.ren,SC.ren,idσ,SV.okN,SC.okN,hlen]) (ownLe_app (feB_same (fun i h=>Nat.lt_trans h (show 9<10 by decide)) (fun i h=>by rw [if_neg (by omega)]) rfl rfl rfl rfl rfl rfl) (feI_le (q:=(· < 10)) (a:=12) (show 9<10 by decide) rfl rfl (by rw [hlen];exact Nat.le_refl _) (fe_push (x:=adjI c r) (by rw [hP,h1]) (adj_enc hE)))) (arr_ltA (p:=(· < 10)) (fun i h=>Nat.lt_trans h (show 3<10 by decide)) (fun i h=>by rw [if_neg (by omega)]) rfl rfl rfl) rfl)
   ·have h7:¬ c.kind=7:=by simpa using h7
    refine And.intro (by decide) (And.intro ⟨Nat.le_refl _,by omega,by simp only [maxLen];omega⟩ (both (fun h2=>?_) (fun h2=>?_)))
    ·rw [if_pos (by simpa using h2)] at h1
     have hlen:(feP code (j+1)).length=(feP code j).length+1+1:=by rw [hP,h1,List.length_append];rfl
     refine And.intro (by decide) (And.intro ⟨Nat.le_refl _,by omega,by simp only [maxLen];omega⟩ ?_)
     exact backI ⟨j+1,hltj⟩ (by simp only;omega) (le_ren (fun i=>if i=9 then 14 else i) rfl rfl (by simp [feTm,TmpsLe,look,SV.ren,SC.ren,idσ,SV.okN,SC.okN,hlen]) (ownLe_app (feB_same (fun i h=>Nat.lt_trans h (show 9<10 by decide)) (fun i h=>by rw [if_neg (by omega)]) rfl rfl rfl rfl rfl rfl) (feI_le (q:=(· < 10)) (a:=14) (show 9<10 by decide) rfl rfl (by rw [hlen];exact Nat.le_refl _) (fe_push2 (x:=c) (y:=fenI) (by rw [hP,h1,List.append_assoc];rfl) rfl rfl))) (arr_ltA (p:=(· < 10)) (fun i h=>Nat.lt_trans h (show 3<10 by decide)) (fun i h=>by rw [if_neg (by omega)]) rfl rfl rfl) rfl)
    ·rw [if_neg (by simpa using h2),adj_ne h7] at h1
     have hlen:(feP code (j+1)).length=(feP code j).length+1:=by rw [hP,h1,List.length_append];rfl
     exact backI ⟨j+1,hltj⟩ (by simp only;omega) (le_ren (fun i=>if i=9 then 12 else i) rfl rfl (by simp [feTm,TmpsLe,look,SV.ren,SC.ren,idσ,SV.okN,SC.okN,hlen]) (ownLe_app (feB_same (fun i h=>Nat.lt_trans h (show 9<10 by decide)) (fun i h=>by rw [if_neg (by omega)]) rfl rfl rfl rfl rfl rfl) (feI_le (q:=(· < 10)) (a:=12) (show 9<10 by decide) rfl rfl (by rw [hlen];exact Nat.le_refl _) (fe_push (x:=c) (by rw [hP,h1]) rfl))) (arr_ltA (p:=(· < 10)) (fun i h=>Nat.lt_trans h (show 3<10 by decide)) (fun i h=>by rw [if_neg (by omega)]) rfl rfl rfl) rfl)
  ·rw [decide_eq_false_iff_not] at hgej
   have hjl:j=code.length:=by omega
   subst hjl
   have hfp:feP code code.length=fenT code:=feP_all code
   rw [hfp]
   have hthr:(fenL L).thr.getD i []=fenT code:=by rw [fenL_thr,hcode]
   refine both (fun hlong=>?_) (fun hshort=>?_)
   ·have hlong:10<(fenT code).length:=by
     have:=of_decide_eq_true hlong
     omega
    have hB:¬ fenB L=true:=fun hb=>by
     have:=fenB_iff.1 hb i hlt
     rw [hcode] at this
     omega
    rw [← hR,FenR_neg hB]
    exact retV fun E=>rfl
   ·have hshort:(fenT code).length≤10:=by
     have:=of_decide_eq_false hshort
     omega
    refine And.intro (by decide) (And.intro ⟨Nat.le_refl _,by omega,by simp only [maxLen];omega⟩ ?_)
    rw [wr_succ (by omega)]
    refine backI ⟨i+1,by omega,fun t ht=>?_⟩ (by simp only;omega) (le_nm (cpσ 7 8 i 11 9) ⟨rfl,rfl,by simp [feTm,TmpsLe,look,SV.ren,SC.ren,cpσ,SV.okN,SC.okN],?_,?_,?_⟩)
    ·by_cases h:t=i
     ·subst h;rw [hcode];exact hshort
     ·exact hil t (by omega)
    ·refine ⟨⟨of_decide_eq_true rfl,by simp [BlkLeO,BlkLe,atN,look,Fm.get,cpσ,SC.renL,SC.ren,SC.okL,SC.okN]⟩,⟨of_decide_eq_true rfl,by simp [BlkLeO,BlkLe,atN,look,Fm.get,cpσ,SC.renL,SC.ren,SC.okL,SC.okN]⟩,⟨of_decide_eq_true rfl,by simp [BlkLeO,BlkLe,atN,look,Fm.get,cpσ,SC.renL,SC.ren,SC.okL,SC.okN]⟩,⟨of_decide_eq_true rfl,arLe_same⟩,⟨of_decide_eq_true rfl,?_⟩,⟨of_decide_eq_true rfl,fun k hk=>?_⟩,trivial⟩
     ·refine ⟨Nat.le_refl _,rfl,rfl,fun e he=>⟨?_,by simp [thC,SC.okL,SC.okN]⟩⟩
      by_cases h:e=i
      ·subst h;simp only [thC,hthr];simp [appAt,SC.renL,SC.ren,cpσ,take',drop',segs]
      ·have:e<i:=by have he' : e<i+1:=he;omega
       simp [appAt,this,thC,SC.renL,SC.ren,cpσ,h]
     ·by_cases h:k=i
      ·subst h
       simp only [cpσ,atN,look,Nat.reduceEqDiff,reduceIte,Fm.get,and_self,thO,hthr]
       exact arLe_same
      ·have:k<i:=by have hk' : k<i+1:=hk;omega
       simp only [cpσ,atN,look,Nat.reduceEqDiff,reduceIte,Fm.get,h,this,and_self,thO]
       exact arLe_same
    ·refine ⟨⟨of_decide_eq_true rfl,arrLe_of⟩,⟨of_decide_eq_true rfl,⟨rfl,rfl,fun e _=>⟨by simp [nestF,SC.renL,SC.ren,cpσ],by simp [nestF,SC.okL,SC.okN]⟩,Nat.le_refl _⟩⟩,⟨of_decide_eq_true rfl,fun k hk=>?_⟩,trivial⟩
     simp only [cpσ,atN,look,Nat.reduceEqDiff,reduceIte,Fm.get,hk,and_self]
     exact arrLe_of
    ·exact cpσ_inj (fun k hk=>by simp [feB,keysL] at hk;omega) rfl (by decide) (by decide) (by decide) (by decide)
 ·rw [decide_eq_false_iff_not] at hge
  have hin:i=L.thr.length:=by omega
  subst hin
  have hB:fenB L=true:=fenB_iff.2 hil
  have hlf:(fenL L).thr.length=L.thr.length:=by simp [fenL]
  have hlw:(fenL L).words=L.words:=rfl
  rw [← hR,FenR_pos hB]
  refine retN (fun j=>j+6) (fun b=>⟨?_,?_⟩) (fun b=>?_) (fun b=>?_)
  ·simp [fenTp,twS,SV.ren,ren1L,ren1,SC.renL,SC.ren,fromσ,hlf,hlw]
  ·simp [fenTp,twS,SV.okN,ok1L,SC.okL,SC.okN,NewIds]
  ·unfold twO
   rw [hlf,hlw]
   refine ⟨⟨⟨by omega,by omega⟩,?_⟩,⟨⟨by omega,by omega⟩,?_⟩,⟨⟨by omega,by omega⟩,fun k hk=>?_⟩,trivial⟩
   ·simp only [fromσ,Nat.sub_self,Nat.zero_add,atN,look,Nat.reduceEqDiff,reduceIte,Fm.get,and_self];exact arLe_same
   ·simp only [fromσ,Nat.add_sub_cancel_left,Nat.reduceAdd,atN,look,Nat.reduceEqDiff,reduceIte,Fm.get,and_self]
    exact ⟨Nat.le_refl _,rfl,rfl,fun e he=>⟨by simp [thC,SC.renL,SC.ren,fromσ],by simp [thC,SC.okL,SC.okN,NewIds]⟩⟩
   ·simp only [fromσ,Nat.add_sub_cancel_left,Nat.reduceAdd,atN,look,Nat.reduceEqDiff,reduceIte,Fm.get,hk,and_self,thO];exact arLe_same
  ·exact injN_from fun x hx y hy e=>by
    simp [twO,keysL] at hx hy
    omega
end Go.Proofs.Ytmcpdafmkkjlcaa.Z
namespace Go.Proofs.Ytmcpdafmkkjlcaa.Z
open Go Go.RowKit
def geTm (L:Lt) (i:Nat):List (Nat×SV):=[(2,.c (.ptr (4,0,0) 0)),(5,.c (.ptr (5,0,0) 0)),(24,.c (.xv (1,0,0))),(25,.c (.v (.int .i64 (L.thr.length:Nat)))),(26,.c (.v (.int .i64 i)))]
def ir30:IR:=(.seq (.ops [⟨(some 1),(.box 25 (.t 0)),none⟩,⟨(some 2),(.new 25 [(.v (.slice none 0 0)),(.v (.slice none 0 0))]),none⟩,⟨(some 3),(.mv (.k (.c (.v (.int .i64 0))))),none⟩]) (.kill [0,3,4,5,6,7,8,9,10,11] (.seq (.seq (.ops [⟨(some 13),(.ld true 2 (.t 1)),none⟩,⟨(some 14),(.call 17 [(.t 13)]),none⟩,⟨(some 4),(.mv (.t 14)),none⟩]) (.kill [13,14] (.seq (.ops [⟨(some 15),(.mv (.t 4)),none⟩,⟨(some 16),(.bin .neq (.t 15) (.k (.c (.v (.int .i64 0))))),none⟩]) (.kill [15] (.cond (.t 16) (.seq (.ops [⟨(some 17),(.build [(.v (.slice none 0 0)),(.v (.slice none 0 0))] []),none⟩,⟨(some 18),(.mv (.t 4)),none⟩,⟨none,(.st 2 (.t 2) (.t 17)),none⟩,⟨(some 3),(.mv (.t 18)),none⟩]) (.kill [1,4,16,17,18] .ret)) .skip))))) (.kill [3,4,16] (.seq (.ops [⟨(some 19),(.fa 0 (.t 1)),none⟩,⟨(some 20),(.ld false 1 (.t 19)),none⟩,⟨(some 21),(.call 44 [(.t 20)]),none⟩,⟨(some 22),(.build [(.v (.slice none 0 0)),(.v (.slice none 0 0))] [(0,(1,(.t 21)))]),none⟩,⟨(some 5),(.new 25 [(.v (.slice none 0 0)),(.v (.slice none 0 0))]),none⟩,⟨none,(.st 2 (.t 5) (.t 22)),none⟩]) (.kill [19,20,21,22] (.seq (.seq (.ops [⟨(some 23),(.fa 1 (.t 1)),none⟩,⟨(some 24),(.ld false 1 (.t 23)),none⟩,⟨(some 25),(.len (.t 24)),none⟩,⟨(some 26),(.mv (.k (.c (.v (.int .i64 0))))),none⟩]) (.kill [1,23] (.blk 0 (.loop (.seq (.ops [⟨(some 27),(.bin .lss (.t 26) (.t 25)),none⟩]) (.kill [3,7,8,9,10,12,28,29,30,31,32,33,34,35,36,37,38,39,40,41,42,43,44,45,46,47,48,49,50,51,52,53,54,55,56,57,58,59,60,61,62,63,64,65,66,67,68,69,70,71,72,73,74,75,76,77,78,79,80,81,82,83,84,85,86,87,88,89,90,91] (.seq (.cond (.t 27) .skip (.exit 0)) (.kill [27] (.seq (.blk 1 (.seq (.ops [⟨(some 28),(.ia 1 (.t 24) (.t 26)),none⟩,⟨(some 29),(.ld false 1 (.t 28)),none⟩,⟨(some 7),(.mv (.t 29)),none⟩]) (.kill [28,29] (.seq (.ops [⟨(some 8),(.mv (.k (.c (.v (.slice none 0 0))))),none⟩]) (.seq (.seq (.ops [⟨(some 30),(.mv (.t 7)),none⟩,⟨(some 31),(.len (.t 30)),none⟩,⟨(some 32),(.mv (.k (.c (.v (.int .i64 0))))),none⟩]) (.blk 2 (.loop (.seq (.ops [⟨(some 33),(.bin .lss (.t 32) (.t 31)),none⟩]) (.kill [9,10,12,34,35,36,37,38,39,40,41,42,43,44,45,46,47,48,49,50,51,52,53,54,55,56,57,58,59,60,61,62,63,64,65,66,67,68,69,70,71,72,73,74,75,76,77,78,79,80] (.seq (.cond (.t 33) .skip (.exit 2)) (.kill [33] (.seq (.blk 3 (.seq (.ops [⟨(some 34),(.mv (.t 32)),none⟩,⟨(some 35),(.ia 7 (.t 30) (.t 32)),none⟩,⟨(some 36),(.ld true 7 (.t 35)),none⟩,⟨(some 10),(.new 83 [(.v (.int .i64 0)),(.v (.int .i64 0)),(.v (.int .i64 0)),(.v (.int .i64 0)),(.v (.int .i64 0)),(.v (.int .i64 0)),(.v (.int .i64 0))]),none⟩,⟨(some 9),(.mv (.t 34)),none⟩,⟨none,(.st 7 (.t 10) (.t 36)),none⟩]) (.kill [34,35,36] (.seq (.seq (.ops [⟨(some 37),(.fa 0 (.t 10)),none⟩,⟨(some 38),(.ld false 1 (.t 37)),none⟩,⟨(some 39),(.bin .eql (.t 38) (.k (.c (.v (.int .i64 7))))),none⟩]) (.kill [37,38] (.cond (.t 39) (.seq (.seq (.ops [⟨(some 40),(.mv (.t 7)),none⟩,⟨(some 41),(.mv (.t 9)),none⟩,⟨(some 42),(.bin .add (.t 41) (.k (.c (.v (.int .i64 1))))),none⟩,⟨(some 43),(.mv (.t 9)),none⟩,⟨(some 44),(.bin .add (.t 43) (.k (.c (.v (.int .i64 1))))),none⟩,⟨(some 45),(.fa 6 (.t 10)),none⟩,⟨(some 46),(.ld false 1 (.t 45)),none⟩,⟨(some 47),(.bin .add (.t 44) (.t 46)),none⟩,⟨(some 48),(.mv (.t 7)),none⟩,⟨(some 49),(.len (.t 48)),none⟩,⟨(some 50),(.mm false (.t 47) (.t 49)),none⟩,⟨(some 51),(.slc 7 (.t 40) (some (.t 42)) (some (.t 50)) none),none⟩,⟨(some 52),(.len (.t 51)),none⟩,⟨(some 53),(.mv (.k (.c (.v (.int .i64 0))))),none⟩]) (.kill [9,39,40,41,42,43,44,45,46,47,48,49,50] (.blk 4 (.loop (.seq (.ops [⟨(some 54),(.bin .lss (.t 53) (.t 52)),none⟩]) (.kill [12,55,56,57,58,59,60,61,62,63,64] (.seq (.cond (.t 54) .skip (.exit 4)) (.kill [54] (.seq (.blk 5 (.seq (.ops [⟨(some 55),(.ia 7 (.t 51) (.t 53)),none⟩,⟨(some 56),(.ld true 7 (.t 55)),none⟩,⟨(some 12),(.new 83 [(.v (.int .i64 0)),(.v (.int .i64 0)),(.v (.int .i64 0)),(.v (.int .i64 0)),(.v (.int .i64 0)),(.v (.int .i64 0)),(.v (.int .i64 0))]),none⟩,⟨none,(.st 7 (.t 12) (.t 56)),none⟩]) (.kill [55,56] (.seq (.ops [⟨(some 57),(.fa 0 (.t 12)),none⟩,⟨(some 58),(.ld false 1 (.t 57)),none⟩,⟨(some 59),(.bin .eql (.t 58) (.k (.c (.v (.int .i64 2))))),none⟩]) (.kill [12,57,58] (.cond (.t 59) (.ops [⟨(some 60),(.fa 6 (.t 10)),none⟩,⟨(some 61),(.ld false 1 (.t 60)),none⟩,⟨(some 62),(.bin .add (.t 61) (.k (.c (.v (.int .i64 1))))),none⟩,⟨(some 63),(.fa 6 (.t 10)),none⟩,⟨none,(.st 1 (.t 63) (.t 62)),none⟩]) .skip)))))) (.kill [12,55,56,57,58,59,60,61,62,63] (.ops [⟨(some 64),(.bin .add (.t 53) (.k (.c (.v (.int .i64 1))))),none⟩,⟨(some 53),(.mv (.t 64)),none⟩]))))))))))) (.kill [12,51,52,53,54,55,56,57,58,59,60,61,62,63,64] (.ops [⟨(some 65),(.fa 6 (.t 10)),none⟩,⟨(some 66),(.ld false 1 (.t 65)),none⟩,⟨(some 67),(.mm false (.t 66) (.k (.c (.v (.int .i64 10))))),none⟩,⟨(some 68),(.fa 6 (.t 10)),none⟩,⟨none,(.st 1 (.t 68) (.t 67)),none⟩]))) .skip))) (.kill [9,39,65,66,67,68] (.seq (.ops [⟨(some 69),(.mv (.t 8)),none⟩,⟨(some 70),(.ld true 7 (.t 10)),none⟩,⟨(some 71),(.mkSl 83 1 7 [(.v (.int .i64 0)),(.v (.int .i64 0)),(.v (.int .i64 0)),(.v (.int .i64 0)),(.v (.int .i64 0)),(.v (.int .i64 0)),(.v (.int .i64 0))] [(0,(7,(.t 70)))]),none⟩,⟨(some 72),(.app 83 7 56 [(.v (.int .i64 0)),(.v (.int .i64 0)),(.v (.int .i64 0)),(.v (.int .i64 0)),(.v (.int .i64 0)),(.v (.int .i64 0)),(.v (.int .i64 0))] (.t 69) (.t 71)),none⟩,⟨(some 8),(.mv (.t 72)),none⟩]) (.kill [69,70,71,72] (.seq (.ops [⟨(some 73),(.fa 0 (.t 10)),none⟩,⟨(some 74),(.ld false 1 (.t 73)),none⟩,⟨(some 75),(.bin .eql (.t 74) (.k (.c (.v (.int .i64 2))))),none⟩]) (.kill [10,73,74] (.cond (.t 75) (.ops [⟨(some 76),(.mv (.t 8)),none⟩,⟨(some 77),(.build [(.v (.int .i64 0)),(.v (.int .i64 0)),(.v (.int .i64 0)),(.v (.int .i64 0)),(.v (.int .i64 0)),(.v (.int .i64 0)),(.v (.int .i64 0))] [(0,(1,(.k (.c (.v (.int .i64 4))))))]),none⟩,⟨(some 78),(.mkSl 83 1 7 [(.v (.int .i64 0)),(.v (.int .i64 0)),(.v (.int .i64 0)),(.v (.int .i64 0)),(.v (.int .i64 0)),(.v (.int .i64 0)),(.v (.int .i64 0))] [(0,(7,(.t 77)))]),none⟩,⟨(some 79),(.app 83 7 56 [(.v (.int .i64 0)),(.v (.int .i64 0)),(.v (.int .i64 0)),(.v (.int .i64 0)),(.v (.int .i64 0)),(.v (.int .i64 0)),(.v (.int .i64 0))] (.t 76) (.t 78)),none⟩,⟨(some 8),(.mv (.t 79)),none⟩]) .skip)))))))))) (.kill [9,10,12,34,35,36,37,38,39,40,41,42,43,44,45,46,47,48,49,50,51,52,53,54,55,56,57,58,59,60,61,62,63,64,65,66,67,68,69,70,71,72,73,74,75,76,77,78,79] (.ops [⟨(some 80),(.bin .add (.t 32) (.k (.c (.v (.int .i64 1))))),none⟩,⟨(some 32),(.mv (.t 80)),none⟩])))))))))) (.kill [7,9,10,12,30,31,32,33,34,35,36,37,38,39,40,41,42,43,44,45,46,47,48,49,50,51,52,53,54,55,56,57,58,59,60,61,62,63,64,65,66,67,68,69,70,71,72,73,74,75,76,77,78,79,80] (.seq (.seq (.ops [⟨(some 81),(.mv (.t 8)),none⟩,⟨(some 82),(.len (.t 81)),none⟩,⟨(some 83),(.bin .gtr (.t 82) (.k (.c (.v (.int .i64 10))))),none⟩]) (.kill [81,82] (.cond (.t 83) (.seq (.ops [⟨(some 84),(.build [(.v (.slice none 0 0)),(.v (.slice none 0 0))] []),none⟩,⟨none,(.st 2 (.t 2) (.t 84)),none⟩,⟨(some 3),(.mv (.k (.c (.v (.int .i64 3))))),none⟩]) (.kill [5,8,24,25,26,83,84] .ret)) .skip))) (.kill [3,83] (.ops [⟨(some 85),(.fa 1 (.t 5)),none⟩,⟨(some 86),(.ld false 1 (.t 85)),none⟩,⟨(some 87),(.mv (.t 8)),none⟩,⟨(some 88),(.mkSl 80 1 1 [(.v (.slice none 0 0))] [(0,(1,(.t 87)))]),none⟩,⟨(some 89),(.app 80 1 24 [(.v (.slice none 0 0))] (.t 86) (.t 88)),none⟩,⟨(some 90),(.fa 1 (.t 5)),none⟩,⟨none,(.st 1 (.t 90) (.t 89)),none⟩]))))))))) (.kill [3,7,8,9,10,12,28,29,30,31,32,33,34,35,36,37,38,39,40,41,42,43,44,45,46,47,48,49,50,51,52,53,54,55,56,57,58,59,60,61,62,63,64,65,66,67,68,69,70,71,72,73,74,75,76,77,78,79,80,81,82,83,84,85,86,87,88,89,90] (.ops [⟨(some 91),(.bin .add (.t 26) (.k (.c (.v (.int .i64 1))))),none⟩,⟨(some 26),(.mv (.t 91)),none⟩]))))))))))) (.kill [3,7,8,9,10,12,24,25,26,27,28,29,30,31,32,33,34,35,36,37,38,39,40,41,42,43,44,45,46,47,48,49,50,51,52,53,54,55,56,57,58,59,60,61,62,63,64,65,66,67,68,69,70,71,72,73,74,75,76,77,78,79,80,81,82,83,84,85,86,87,88,89,90,91] (.seq (.ops [⟨(some 92),(.ld true 2 (.t 5)),none⟩,⟨none,(.st 2 (.t 2) (.t 92)),none⟩,⟨(some 3),(.mv (.k (.c (.v (.int .i64 0))))),none⟩]) (.kill [5,92] .ret))))))))))
def rs30:List RS:=[(.cell 2 true 2),(.t 3)]
def nt30:Nat:=93
set_option maxRecDepth 100000 in
set_option maxHeartbeats 2000000 in
theorem ifen_calls (w:World) (v:Value) (L:Lt) (hL:checkB L=true) (hok:LtOk L) (h:LtR w v L):Calls Try.prog 30 #[v] w (FenR L w):=by
 refine enterLt (A:=[]) (c:=ir30) (rs:=rs30) (nt:=nt30) h [.agg (ltS 0)] _ Try.func30 rfl (by kernel_rfl) (by kernel_rfl) rfl (fun E' h0=>by simp only [List.map_cons,List.map_nil,h0]) (of_decide_eq_true rfl) ?_
 generalize hR:FenR L w=R
 obtain ⟨z1,z2,z3,z4⟩:=sz_at hL
 simp (maxSteps:=2000000) only [ir30,nt30,rs30,go_sem,↓reduceIte,Nat.reduceLT,Nat.reduceLeDiff,Nat.reduceAdd,Nat.reduceSub,Nat.reduceMul,Nat.reduceEqDiff,reduceCtorEq,Int.reduceToNat,Int.reduceEq,Int.reduceBEq,Int.reduceBNe,Int.reduceLT,Int.reduceLE,Int.reduceNeg,Int.reduceAdd,Int.reduceSub,Int.reduceMul,Int.reduceGE,Int.reduceGT,endO,ltA,ltS]
 refine callV (.c (.v (.int .i64 0))) _ (fun E=>rfl) (fun E a w' hs=>by
  have:=check_calls w' _ L hok (ltL_at hs rfl rfl rfl)
  rw [hL] at this
  exact this) ?_
 simp (maxSteps:=2000000) only [go_sem,↓reduceIte,Nat.reduceLT,Nat.reduceLeDiff,Nat.reduceAdd,Nat.reduceSub,Nat.reduceMul,Nat.reduceEqDiff,reduceCtorEq,Int.reduceToNat,Int.reduceEq,Int.reduceBEq,Int.reduceBNe,Int.reduceLT,Int.reduceLE,Int.reduceNeg,Int.reduceAdd,Int.reduceSub,Int.reduceMul,Int.reduceGE,Int.reduceGT,endO]
 refine callN 1 (lsT 1 L.words.length) (lsO 3 1 eI L.words 0) (fun E a w' hs=>(clone_ints (arr_at (d:=0) hs 0 rfl) (by omega)).mono fun e w2 he=>retN_of (d:=0) eI_ok he) ?_
 simp (maxSteps:=2000000) only [go_sem,↓reduceIte,Nat.reduceLT,Nat.reduceLeDiff,Nat.reduceAdd,Nat.reduceSub,Nat.reduceMul,Nat.reduceEqDiff,reduceCtorEq,Int.reduceToNat,Int.reduceEq,Int.reduceBEq,Int.reduceBNe,Int.reduceLT,Int.reduceLE,Int.reduceNeg,Int.reduceAdd,Int.reduceSub,Int.reduceMul,Int.reduceGE,Int.reduceGT,endO,lsT,lsO]
 refine loopI (ι:={ i:Nat // i≤L.thr.length∧∀ t,t<i→(fenT (L.thr.getD t [])).length≤10 }) (fun i=>⟨93,geTm L i.1,feB L i.1 (fenL L),ltA 0 L,[],9⟩) (fun i=>L.thr.length - i.1) ⟨0,by omega,fun t ht=>by omega⟩ ?_ ?_
 ·refine le_tr (le_nilcell 6 1 80 25 _ [.sl (5,0,0) 1 0 L.words.length none,.sl (7,0,0) 1 0 0 none] (thC 8 (fenL L)) rfl rfl (fun E h1 h2=>by simp [SC.den,h1,h2])) ?_
  refine le_ren (fun i=>if i=5 then 6 else if i=6 then 5 else i) rfl rfl (by simp [geTm,TmpsLe,look,SV.ren,SC.ren,idσ,SV.okN,SC.okN]) ?_ (arr_ltA (p:=(· < 9)) (fun i h=>Nat.lt_trans h (show 3<9 by decide)) (fun i h=>by rw [if_neg (by omega),if_neg (by omega)]) rfl rfl rfl) rfl
  simp [feB,OwnLe,BlkLeO,BlkLe,atN,look,setL,Fm.get,idσ,SC.renL,SC.ren,SC.okL,SC.okN,renL_v,okL_v,ren_ats,ok_ats,arrOf_ats]
 rintro ⟨i,hi,hil⟩
 simp (maxSteps:=2000000) only [go_sem,↓reduceIte,Nat.reduceLT,Nat.reduceLeDiff,Nat.reduceAdd,Nat.reduceSub,Nat.reduceMul,Nat.reduceEqDiff,reduceCtorEq,Int.reduceToNat,Int.reduceEq,Int.reduceBEq,Int.reduceBNe,Int.reduceLT,Int.reduceLE,Int.reduceNeg,Int.reduceAdd,Int.reduceSub,Int.reduceMul,Int.reduceGE,Int.reduceGT,endO,geTm,feB,ltA]
 refine both (fun hlt=>?_) (fun hge=>?_)
 ·rw [decide_eq_true_eq] at hlt
  have hlt:i<L.thr.length:=by omega
  have hcl:=(fits_at hL hlt).1
  have hfit:=(fits_at hL hlt).2
  generalize hcode:L.thr.getD i []=code at hcl hfit
  refine And.intro hlt (And.intro hlt (And.intro hlt ?_))
  refine loopI (ι:={ j:Nat // j≤code.length }) (fun j=>⟨93,geTm L i++[(7,.c (.xv (2,i,0))),(8,.c (.sl (9,0,0) 7 0 (feP code j.1).length none)),(30,.c (.xv (2,i,0))),(31,.c (.v (.int .i64 code.length))),(32,.c (.v (.int .i64 (j.1:Nat))))],feB L i (fenL L)++feI code j.1,ltA 0 L,[],10⟩) (fun j=>code.length - j.1) ⟨0,by omega⟩ ?_ ?_
  ·refine le_tr (le_nilown (tmps':=geTm L i++[(7,.c (.xv (2,i,0))),(8,.c (.sl (9,0,0) 7 0 0 none)),(30,.c (.xv (2,i,0))),(31,.c (.v (.int .i64 code.length))),(32,.c (.v (.int .i64 0)))]) 7 83 (ats Ins.enc [] in0) (by simp [TmpsNil,look,geTm]) rfl) ?_
   exact le_ren id rfl rfl (by simp [geTm,feP,TmpsLe,look,SV.ren,SC.ren,idσ,SV.okN,SC.okN]) (ownLe_app (feB_same (fun i h=>Nat.lt_trans h (show 9<10 by decide)) (fun _ _=>rfl) rfl rfl rfl rfl rfl rfl) (feI_le (q:=(· < 10)) (a:=9) (show 9<10 by decide) rfl rfl (Nat.le_refl _) (fun e he=>by simp [feP] at he))) (arr_ltA (p:=(· < 10)) (fun i h=>Nat.lt_trans h (show 3<10 by decide)) (fun i h=>rfl) rfl rfl rfl) rfl
  rintro ⟨j,hj⟩
  have hfl:=feP_len (code:=code) j
  simp (maxSteps:=2000000) only [go_sem,↓reduceIte,Nat.reduceLT,Nat.reduceLeDiff,Nat.reduceAdd,Nat.reduceSub,Nat.reduceMul,Nat.reduceEqDiff,reduceCtorEq,Int.reduceToNat,Int.reduceEq,Int.reduceBEq,Int.reduceBNe,Int.reduceLT,Int.reduceLE,Int.reduceNeg,Int.reduceAdd,Int.reduceSub,Int.reduceMul,Int.reduceGE,Int.reduceGT,endO,geTm,feB,feI,ltA,hcode,Ins.enc]
  refine both (fun hltj=>?_) (fun hgej=>?_)
  ·rw [decide_eq_true_eq] at hltj
   have hltj:j<code.length:=by omega
   refine And.intro ⟨hlt,hltj⟩ (And.intro ⟨hlt,hltj⟩ ?_)
   rw [wr_succ (n:=j) (by omega)]
   have hfc:=hfit (code.getD j in0) (by rw [List.getD_eq_getElem?_getD,List.getElem?_eq_getElem hltj];exact List.getElem_mem hltj)
   have hP:feP code (j+1)=feP code j++fe1 code j:=rfl
   have h1:fe1 code j=if (code.getD j in0).kind=2 then [code.getD j in0,fenI] else [adjI (code.getD j in0) (code.drop (j+1))]:=rfl
   have hrl:(code.drop (j+1)).length=code.length - (j+1):=by rw [List.length_drop]
   have hrg:∀ m,(code.drop (j+1)).getD m in0=code.getD (j+1+m) in0:=fun m=>drop_getD
   generalize hc:code.getD j in0=c at hfc h1 ⊢
   generalize code.drop (j+1)=r at h1 hrl hrg
   simp only [fitsB,decide_eq_true_eq] at hfc
   refine both (fun h7=>?_) (fun h7=>?_)
   ·have h7:c.kind=7:=by simpa using h7
    have hcn:=hfc.2.2.2.2.2 h7
    have h2:¬ c.kind=2:=by omega
    have k2:(c.kind == 2)=false:=by simp [h2]
    have k7:(c.kind == 7)=true:=by simp [h7]
    rw [if_neg h2] at h1
    have hlen:(feP code (j+1)).length=(feP code j).length+1:=by rw [hP,h1,List.length_append];rfl
    obtain ⟨n,hn⟩:∃ n,n=min c.cnt.toNat r.length:=⟨_,rfl⟩
    have e1:(if (code.length:Int)<IntKind.i64.wrap (((j+1:Nat):Int)+c.cnt) then (code.length:Int) else IntKind.i64.wrap (((j+1:Nat):Int)+c.cnt))=((j+1+n:Nat):Int):=by
     rw [wr64 (by omega) (by omega)]
     split <;> omega
    have hE:m10 (c.cnt+stN (r.take n))=(adjI c r).cnt:=by
     rw [adj7 h7]
     rcases Nat.le_total c.cnt.toNat r.length with h | h
     ·rw [show n=c.cnt.toNat by omega]
     ·rw [List.take_of_length_le (by omega),List.take_of_length_le h]
    have hm10:∀ x:Int,(if (10:Int)<x then (10:Int) else x)=m10 x:=fun x=>by unfold m10;split <;> split <;> omega
    rw [e1]
    simp only [Int.toNat_natCast,show j+1+n - (j+1)=n by omega]
    refine And.intro hlt (And.intro (fun hend=>And.intro hlt ?_) (fun hne=>And.intro ⟨hlt,by omega,by omega,by omega,by omega⟩ (And.intro hlt ?_)))
    ·obtain rfl:n=0:=by omega
     refine loopI (ι:=Unit) (fun _=>⟨93,geTm L i++[(7,.c (.xv (2,i,0))),(8,.c (.sl (9,0,0) 7 0 (feP code j).length none)),(30,.c (.xv (2,i,0))),(31,.c (.v (.int .i64 code.length))),(32,.c (.v (.int .i64 j))),(10,.c (.ptr (10,0,0) 0)),(52,.c (.v (.int .i64 0))),(53,.c (.v (.int .i64 0)))],feB L i (fenL L)++(feI code j++[(10,.one (.bk (insC c c.cnt) 83))]),ltA 0 L,[],11⟩) (fun _=>0) () (le_ren id rfl rfl (by simp [geTm,TmpsLe,look,SV.ren,SC.ren,idσ,SV.okN,SC.okN]) (ownLe_app (feB_same (fun i h=>Nat.lt_trans h (show 9<11 by decide)) (fun _ _=>rfl) rfl rfl rfl rfl rfl rfl) (ownLe_app (feI_le (q:=(· < 11)) (a:=9) (show 9<11 by decide) rfl rfl (Nat.le_refl _) (fun e he=>rfl)) (by simp [OwnLe,BlkLeO,BlkLe,atN,look,Fm.get,idσ,insC,SC.renL,SC.ren,SC.okL,SC.okN]))) (arr_ltA (p:=(· < 11)) (fun i h=>Nat.lt_trans h (show 3<11 by decide)) (fun i h=>rfl) rfl rfl rfl) rfl) ?_
     rintro ⟨⟩
     simp (maxSteps:=2000000) only [go_sem,↓reduceIte,Nat.reduceLT,Nat.reduceLeDiff,Nat.reduceAdd,Nat.reduceSub,Nat.reduceMul,Nat.reduceEqDiff,reduceCtorEq,Int.reduceToNat,Int.reduceEq,Int.reduceBEq,Int.reduceBNe,Int.reduceLT,Int.reduceLE,Int.reduceNeg,Int.reduceAdd,Int.reduceSub,Int.reduceMul,Int.reduceGE,Int.reduceGT,endO,geTm,feB,feI,ltA,hcode,Ins.enc,insC,hc,k2,List.cons_append,List.nil_append,Int.lt_irrefl]
     have hE2:(if (10:Int)<c.cnt then (10:Int) else c.cnt)=(adjI c r).cnt:=by
      rw [hm10,← hE];simp only [List.take_zero,stN];congr 1;omega
     rw [wr_succ (n:=j) (by omega)]
     refine And.intro (by decide) (And.intro ⟨Nat.le_refl _,by omega,by simp only [maxLen];omega⟩ ?_)
     exact backI ⟨j+1,hltj⟩ (by simp only;omega) (le_ren (fun i=>if i=9 then 12 else i) rfl rfl (by simp [geTm,TmpsLe,look,SV.ren,SC.ren,idσ,SV.okN,SC.okN,hlen]) (ownLe_app (feB_same (fun i h=>Nat.lt_trans h (show 9<10 by decide)) (fun i h=>by rw [if_neg (by omega)]) rfl rfl rfl rfl rfl rfl) (feI_le (q:=(· < 10)) (a:=12) (show 9<10 by decide) rfl rfl (by rw [hlen];exact Nat.le_refl _) (fe_push (x:=adjI c r) (by rw [hP,h1]) (adj_enc hE2)))) (arr_ltA (p:=(· < 10)) (fun i h=>Nat.lt_trans h (show 3<10 by decide)) (fun i h=>by rw [if_neg (by omega)]) rfl rfl rfl) rfl)
    ·refine loopI (ι:={ m:Nat // m≤n }) (fun m=>⟨93,geTm L i++[(7,.c (.xv (2,i,0))),(8,.c (.sl (9,0,0) 7 0 (feP code j).length none)),(30,.c (.xv (2,i,0))),(31,.c (.v (.int .i64 code.length))),(32,.c (.v (.int .i64 j))),(10,.c (.ptr (10,0,0) 0)),(51,.c (.xs (2,i,0) 7 (j+1) n none)),(52,.c (.v (.int .i64 (n:Nat)))),(53,.c (.v (.int .i64 (m.1:Nat))))],feB L i (fenL L)++(feI code j++[(10,.one (.bk (insC c (c.cnt+stN (r.take m.1))) 83))]),ltA 0 L,[],11⟩) (fun m=>n - m.1) ⟨0,by omega⟩ ?_ ?_
     ·have e0:c.cnt+stN (r.take 0)=c.cnt:=by simp only [List.take_zero,stN];omega
      exact le_ren id rfl rfl (by simp [geTm,TmpsLe,look,SV.ren,SC.ren,idσ,SV.okN,SC.okN]) (ownLe_app (feB_same (fun i h=>Nat.lt_trans h (show 9<11 by decide)) (fun _ _=>rfl) rfl rfl rfl rfl rfl rfl) (ownLe_app (feI_le (q:=(· < 11)) (a:=9) (show 9<11 by decide) rfl rfl (Nat.le_refl _) (fun e he=>rfl)) (by rw [e0];simp [OwnLe,BlkLeO,BlkLe,atN,look,Fm.get,idσ,insC,SC.renL,SC.ren,SC.okL,SC.okN]))) (arr_ltA (p:=(· < 11)) (fun i h=>Nat.lt_trans h (show 3<11 by decide)) (fun i h=>rfl) rfl rfl rfl) rfl
     rintro ⟨m,hm⟩
     have hml:=stN_le (r.take m)
     rw [List.length_take] at hml
     simp (maxSteps:=2000000) only [go_sem,↓reduceIte,Nat.reduceLT,Nat.reduceLeDiff,Nat.reduceAdd,Nat.reduceSub,Nat.reduceMul,Nat.reduceEqDiff,reduceCtorEq,Int.reduceToNat,Int.reduceEq,Int.reduceBEq,Int.reduceBNe,Int.reduceLT,Int.reduceLE,Int.reduceNeg,Int.reduceAdd,Int.reduceSub,Int.reduceMul,Int.reduceGE,Int.reduceGT,endO,geTm,feB,feI,ltA,hcode,Ins.enc,insC,hc,k2,List.cons_append,List.nil_append]
     refine both (fun hlm=>?_) (fun hgm=>?_)
     ·have hlm:m<n:=by
       have:=of_decide_eq_true hlm
       omega
      have hst:=stN_take (r:=r) (m:=m) (by omega)
      rw [hrg] at hst
      rw [wr_succ (n:=m) (by omega)]
      refine And.intro ⟨hlt,hlm,by omega⟩ (And.intro ⟨hlt,by omega⟩ (both (fun hk=>?_) (fun hk=>?_)))
      ·rw [if_pos (by simpa using hk)] at hst
       have e2:IntKind.i64.wrap (c.cnt+(stN (r.take m):Nat)+1)=c.cnt+(stN (r.take (m+1)):Nat):=by
        rw [wr64 (by omega) (by omega),hst];omega
       rw [e2]
       exact backI ⟨m+1,hlm⟩ (by simp only;omega) (le_ren id rfl rfl (by simp [geTm,TmpsLe,look,SV.ren,SC.ren,idσ,SV.okN,SC.okN]) (ownLe_app (feB_same (fun i h=>Nat.lt_trans h (show 9<11 by decide)) (fun _ _=>rfl) rfl rfl rfl rfl rfl rfl) (ownLe_app (feI_le (q:=(· < 11)) (a:=9) (show 9<11 by decide) rfl rfl (Nat.le_refl _) (fun e he=>rfl)) (by simp [OwnLe,BlkLeO,BlkLe,atN,look,Fm.get,idσ,insC,SC.renL,SC.ren,SC.okL,SC.okN]))) (arr_ltA (p:=(· < 11)) (fun i h=>Nat.lt_trans h (show 3<11 by decide)) (fun i h=>rfl) rfl rfl rfl) rfl)
      ·rw [if_neg (by simpa using hk)] at hst
       have hst2:stN (r.take m)=stN (r.take (m+1)):=by omega
       rw [hst2]
       exact backI ⟨m+1,hlm⟩ (by simp only;omega) (le_ren id rfl rfl (by simp [geTm,TmpsLe,look,SV.ren,SC.ren,idσ,SV.okN,SC.okN]) (ownLe_app (feB_same (fun i h=>Nat.lt_trans h (show 9<11 by decide)) (fun _ _=>rfl) rfl rfl rfl rfl rfl rfl) (ownLe_app (feI_le (q:=(· < 11)) (a:=9) (show 9<11 by decide) rfl rfl (Nat.le_refl _) (fun e he=>rfl)) (by simp [OwnLe,BlkLeO,BlkLe,atN,look,Fm.get,idσ,insC,SC.renL,SC.ren,SC.okL,SC.okN]))) (arr_ltA (p:=(· < 11)) (fun i h=>Nat.lt_trans h (show 3<11 by decide)) (fun i h=>rfl) rfl rfl rfl) rfl)
     ·obtain rfl:m=n:=by
       have:=of_decide_eq_false hgm
       omega
      have hE2:(if (10:Int)<c.cnt+(stN (r.take m):Nat) then (10:Int) else c.cnt+(stN (r.take m):Nat))=(adjI c r).cnt:=by
       rw [hm10,← hE]
      rw [wr_succ (n:=j) (by omega)]
      refine And.intro (by decide) (And.intro ⟨Nat.le_refl _,by omega,by simp only [maxLen];omega⟩ ?_)
      exact backI ⟨j+1,hltj⟩ (by simp only;omega) (le_ren (fun i=>if i=9 then 12 else i) rfl rfl (by simp [geTm,TmpsLe,look,SV.ren,SC.ren,idσ,SV.okN,SC.okN,hlen]) (ownLe_app (feB_same (fun i h=>Nat.lt_trans h (show 9<10 by decide)) (fun i h=>by rw [if_neg (by omega)]) rfl rfl rfl rfl rfl rfl) (feI_le (q:=(· < 10)) (a:=12) (show 9<10 by decide) rfl rfl (by rw [hlen];exact Nat.le_refl _) (fe_push (x:=adjI c r) (by rw [hP,h1]) (adj_enc hE2)))) (arr_ltA (p:=(· < 10)) (fun i h=>Nat.lt_trans h (show 3<10 by decide)) (fun i h=>by rw [if_neg (by omega)]) rfl rfl rfl) rfl)
   ·have h7:¬ c.kind=7:=by simpa using h7
    refine And.intro (by decide) (And.intro ⟨Nat.le_refl _,by omega,by simp only [maxLen];omega⟩ (both (fun h2=>?_) (fun h2=>?_)))
    ·rw [if_pos (by simpa using h2)] at h1
     have hlen:(feP code (j+1)).length=(feP code j).length+1+1:=by rw [hP,h1,List.length_append];rfl
     refine And.intro (by decide) (And.intro ⟨Nat.le_refl _,by omega,by simp only [maxLen];omega⟩ ?_)
     exact backI ⟨j+1,hltj⟩ (by simp only;omega) (le_ren (fun i=>if i=9 then 14 else i) rfl rfl (by simp [geTm,TmpsLe,look,SV.ren,SC.ren,idσ,SV.okN,SC.okN,hlen]) (ownLe_app (feB_same (fun i h=>Nat.lt_trans h (show 9<10 by decide)) (fun i h=>by rw [if_neg (by omega)]) rfl rfl rfl rfl rfl rfl) (feI_le (q:=(· < 10)) (a:=14) (show 9<10 by decide) rfl rfl (by rw [hlen];exact Nat.le_refl _) (fe_push2 (x:=c) (y:=fenI) (by rw [hP,h1,List.append_assoc];rfl) rfl rfl))) (arr_ltA (p:=(· < 10)) (fun i h=>Nat.lt_trans h (show 3<10 by decide)) (fun i h=>by rw [if_neg (by omega)]) rfl rfl rfl) rfl)
    ·rw [if_neg (by simpa using h2),adj_ne h7] at h1
     have hlen:(feP code (j+1)).length=(feP code j).length+1:=by rw [hP,h1,List.length_append];rfl
     exact backI ⟨j+1,hltj⟩ (by simp only;omega) (le_ren (fun i=>if i=9 then 12 else i) rfl rfl (by simp [geTm,TmpsLe,look,SV.ren,SC.ren,idσ,SV.okN,SC.okN,hlen]) (ownLe_app (feB_same (fun i h=>Nat.lt_trans h (show 9<10 by decide)) (fun i h=>by rw [if_neg (by omega)]) rfl rfl rfl rfl rfl rfl) (feI_le (q:=(· < 10)) (a:=12) (show 9<10 by decide) rfl rfl (by rw [hlen];exact Nat.le_refl _) (fe_push (x:=c) (by rw [hP,h1]) rfl))) (arr_ltA (p:=(· < 10)) (fun i h=>Nat.lt_trans h (show 3<10 by decide)) (fun i h=>by rw [if_neg (by omega)]) rfl rfl rfl) rfl)
  ·rw [decide_eq_false_iff_not] at hgej
   have hjl:j=code.length:=by omega
   subst hjl
   have hfp:feP code code.length=fenT code:=feP_all code
   rw [hfp]
   have hthr:(fenL L).thr.getD i []=fenT code:=by rw [fenL_thr,hcode]
   refine both (fun hlong=>?_) (fun hshort=>?_)
   ·have hlong:10<(fenT code).length:=by
     have:=of_decide_eq_true hlong
     omega
    have hB:¬ fenB L=true:=fun hb=>by
     have:=fenB_iff.1 hb i hlt
     rw [hcode] at this
     omega
    rw [← hR,FenR_neg hB]
    exact retV fun E=>rfl
   ·have hshort:(fenT code).length≤10:=by
     have:=of_decide_eq_false hshort
     omega
    refine And.intro (by decide) (And.intro ⟨Nat.le_refl _,by omega,by simp only [maxLen];omega⟩ ?_)
    rw [wr_succ (by omega)]
    refine backI ⟨i+1,by omega,fun t ht=>?_⟩ (by simp only;omega) (le_nm (cpσ 7 8 i 11 9) ⟨rfl,rfl,by simp [geTm,TmpsLe,look,SV.ren,SC.ren,cpσ,SV.okN,SC.okN],?_,?_,?_⟩)
    ·by_cases h:t=i
     ·subst h;rw [hcode];exact hshort
     ·exact hil t (by omega)
    ·refine ⟨⟨of_decide_eq_true rfl,by simp [BlkLeO,BlkLe,atN,look,Fm.get,cpσ,SC.renL,SC.ren,SC.okL,SC.okN]⟩,⟨of_decide_eq_true rfl,by simp [BlkLeO,BlkLe,atN,look,Fm.get,cpσ,SC.renL,SC.ren,SC.okL,SC.okN]⟩,⟨of_decide_eq_true rfl,by simp [BlkLeO,BlkLe,atN,look,Fm.get,cpσ,SC.renL,SC.ren,SC.okL,SC.okN]⟩,⟨of_decide_eq_true rfl,arLe_same⟩,⟨of_decide_eq_true rfl,?_⟩,⟨of_decide_eq_true rfl,fun k hk=>?_⟩,trivial⟩
     ·refine ⟨Nat.le_refl _,rfl,rfl,fun e he=>⟨?_,by simp [thC,SC.okL,SC.okN]⟩⟩
      by_cases h:e=i
      ·subst h;simp only [thC,hthr];simp [appAt,SC.renL,SC.ren,cpσ,take',drop',segs]
      ·have:e<i:=by have he' : e<i+1:=he;omega
       simp [appAt,this,thC,SC.renL,SC.ren,cpσ,h]
     ·by_cases h:k=i
      ·subst h
       simp only [cpσ,atN,look,Nat.reduceEqDiff,reduceIte,Fm.get,and_self,thO,hthr]
       exact arLe_same
      ·have:k<i:=by have hk' : k<i+1:=hk;omega
       simp only [cpσ,atN,look,Nat.reduceEqDiff,reduceIte,Fm.get,h,this,and_self,thO]
       exact arLe_same
    ·refine ⟨⟨of_decide_eq_true rfl,arrLe_of⟩,⟨of_decide_eq_true rfl,⟨rfl,rfl,fun e _=>⟨by simp [nestF,SC.renL,SC.ren,cpσ],by simp [nestF,SC.okL,SC.okN]⟩,Nat.le_refl _⟩⟩,⟨of_decide_eq_true rfl,fun k hk=>?_⟩,trivial⟩
     simp only [cpσ,atN,look,Nat.reduceEqDiff,reduceIte,Fm.get,hk,and_self]
     exact arrLe_of
    ·exact cpσ_inj (fun k hk=>by simp [feB,keysL] at hk;omega) rfl (by decide) (by decide) (by decide) (by decide)
 ·rw [decide_eq_false_iff_not] at hge
  have hin:i=L.thr.length:=by omega
  subst hin
  have hB:fenB L=true:=fenB_iff.2 hil
  have hlf:(fenL L).thr.length=L.thr.length:=by simp [fenL]
  have hlw:(fenL L).words=L.words:=rfl
  rw [← hR,FenR_pos hB]
  refine retN (fun j=>j+6) (fun b=>⟨?_,?_⟩) (fun b=>?_) (fun b=>?_)
  ·simp [fenTp,twS,SV.ren,ren1L,ren1,SC.renL,SC.ren,fromσ,hlf,hlw]
  ·simp [fenTp,twS,SV.okN,ok1L,SC.okL,SC.okN,NewIds]
  ·unfold twO
   rw [hlf,hlw]
   refine ⟨⟨⟨by omega,by omega⟩,?_⟩,⟨⟨by omega,by omega⟩,?_⟩,⟨⟨by omega,by omega⟩,fun k hk=>?_⟩,trivial⟩
   ·simp only [fromσ,Nat.sub_self,Nat.zero_add,atN,look,Nat.reduceEqDiff,reduceIte,Fm.get,and_self];exact arLe_same
   ·simp only [fromσ,Nat.add_sub_cancel_left,Nat.reduceAdd,atN,look,Nat.reduceEqDiff,reduceIte,Fm.get,and_self]
    exact ⟨Nat.le_refl _,rfl,rfl,fun e he=>⟨by simp [thC,SC.renL,SC.ren,fromσ],by simp [thC,SC.okL,SC.okN,NewIds]⟩⟩
   ·simp only [fromσ,Nat.add_sub_cancel_left,Nat.reduceAdd,atN,look,Nat.reduceEqDiff,reduceIte,Fm.get,hk,and_self,thO];exact arLe_same
  ·exact injN_from fun x hx y hy e=>by
    simp [twO,keysL] at hx hy
    omega
end Go.Proofs.Ytmcpdafmkkjlcaa.Z
namespace Go.Proofs.Ytmcpdafmkkjlcaa.Z
open Go Go.RowKit
theorem fenT_mem:∀ {r:List Ins} {c:Ins},c∈fenT r→c=fenI∨∃ c'∈r,∃ r',c=adjI c' r'
 | [],c,h=>by simp [fenT] at h
 | d :: r,c,h=>by
  have ih:=fenT_mem (r:=r) (c:=c)
  simp only [fenT] at h
  split at h
  ·next h2 =>
   rcases List.mem_cons.1 h with rfl | h
   ·exact Or.inr ⟨c,List.mem_cons_self,r,(adj_ne (by omega)).symm⟩
   ·rcases List.mem_cons.1 h with rfl | h
    ·exact Or.inl rfl
    ·rcases ih h with h | ⟨c',hc,r',e⟩
     ·exact Or.inl h
     ·exact Or.inr ⟨c',List.mem_cons_of_mem _ hc,r',e⟩
  ·rcases List.mem_cons.1 h with rfl | h
   ·exact Or.inr ⟨d,List.mem_cons_self,r,rfl⟩
   ·rcases ih h with h | ⟨c',hc,r',e⟩
    ·exact Or.inl h
    ·exact Or.inr ⟨c',List.mem_cons_of_mem _ hc,r',e⟩
theorem fitsB_adj {c:Ins} {r:List Ins} {n:Nat} (h:fitsB c n=true):fitsB (adjI c r) n=true:=by
 unfold adjI
 split
 ·simp only [fitsB,decide_eq_true_eq] at h ⊢
  refine ⟨h.1,h.2.1,h.2.2.1,h.2.2.2.1,h.2.2.2.2.1,fun h7=>?_⟩
  have:=h.2.2.2.2.2 h7
  split <;> omega
 ·exact h
theorem fitsB_fenI {n:Nat}:fitsB fenI n=true:=by
 simp [fitsB,fenI]
theorem checkB_fen {L:Lt} (hL:checkB L=true) (hB:fenB L=true):checkB (fenL L)=true:=by
 obtain ⟨z1,z2,z3,z4⟩:=sz_at hL
 have hl:(fenL L).thr.length=L.thr.length:=by simp [fenL]
 simp only [checkB,Bool.and_eq_true,decide_eq_true_eq,List.all_eq_true]
 refine ⟨⟨by omega,by omega,z3,z4⟩,fun code hc=>?_⟩
 obtain ⟨t,ht,rfl⟩:=List.getElem_of_mem hc
 have e:(fenL L).thr[t]=fenT (L.thr.getD t []):=by rw [← fenL_thr,List.getD_eq_getElem?_getD,List.getElem?_eq_getElem ht];rfl
 rw [e]
 simp only [codeB,Bool.and_eq_true,decide_eq_true_eq,List.all_eq_true]
 refine ⟨fenB_iff.1 hB t (by omega),fun c hc=>?_⟩
 rcases fenT_mem hc with rfl | ⟨c',hc',r',rfl⟩
 ·exact fitsB_fenI
 ·exact fitsB_adj ((fits_at hL (by omega)).2 c' hc')
end Go.Proofs.Ytmcpdafmkkjlcaa.Z
