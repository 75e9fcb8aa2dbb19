/- TsoFreshSaid: what its proof is made of. No condition. -/
import Derived.Test.YtmcpdafmkkjlcaaPkTTsoFreshAJ
set_option linter.unusedSimpArgs false
set_option linter.unusedVariables false
namespace Go.Proofs.Ytmcpdafmkkjlcaa.Z
open Go Go.RowKit
theorem cr_retK {C:Ctx} {f:Nat} {vs:List SV} {S:St} (ks:List Nat) (tmpl:SV) (hok:tmpl.okN (·∈ks)) (h:∀ E a w,Sat C.B C.W C.w0 E S a w→Calls C.P f (vs.map (SV.den E)).toArray w (RetV w (tmpl.den E))):CR C f vs S ks tmpl 0 [] []:=by
 intro E a w hs
 refine (h E a w hs).mono ?_
 rintro e w' ⟨rfl,hb⟩
 exact ⟨_,rfl,E,hs.one,fun E2 _ hks _=>⟨(den_same (p:=(·∈ks)) (fun x hx=>hks x hx) hok).symm,Fits.G ⟨fun H _=>effOk_below hb,fun _ _ x A h=>by simp [atN,look] at h⟩⟩⟩
theorem enterLF {P:Program} {A:List Nat} {f nt:Nat} {fn:Func} {x:Code} {c:IR} {w:World} {rs:List RS} {R:Ending→World→Prop} (vals:List (Nat→Value)) (hone:OnesV vals) {arrs:List (Nat×Fm ArrF)} (hr:Reads w vals arrs) (sc:List SV) (args:Array Value)
  (hf:P.funcs[f]? = some fn) (hb:fn.body=some x) (hc:compC (mkTab P A) x=some c.strip) (hrs:compR (mkTab P A).T fn.results.toList=some rs) (hn:fn.ntmps=nt)
  (hargs:∀ E',AgV vals E'→(sc.map (SV.den E')).toArray=args) (hnt:sc.length≤nt)
  (hex:exec (mkC P A w rs R) 1000 [.code c] ⟨nt,enumT 0 sc,[],arrs,[fun E _=>AgV vals E],vals.length⟩):Calls P f args w R:=by
 have hag:∀ E' : Env,AgreeD (· < vals.length) (EL vals) E'→AgV vals E':=fun E' hE' i k l hi=>(hE' (i,k,l) hi).2.2.2
 refine calls_sym (c:=c) (C:=mkC P A w rs R) 1000 sc (EL vals) [] arrs [fun E _=>AgV vals E] vals.length nt args (mkTab_ok _ _) hf hb hc hrs hn rfl rfl (fun x=>onesV_at hone x.1 x.2.1) (fun E' hE'=>hargs E' (hag E' hE')) hnt
  (fun E' hE'=>inOk_arrsF (fun w' hw' x A' hA=>arrAt_keep (hr E' (hag E' hE') x A' hA) hw') fun w' φ hφ=>?_) hex
 rw [List.mem_singleton] at hφ
 subst hφ
 exact hag E' hE'
structure RegR (w:World) (v:Value) (regs:List R4) (k:Nat) (r:Int) (rb:Nat):Prop where
 ex:∃ b off sb so x0 x2 x3 cap c1 c3 c4 c5 c6 c7 c9,v = .pointer (some ⟨b,off,none⟩) ∧
  (∀ j u,([.pointer (some ⟨sb,so,none⟩),c1,.int .i64 r,c3,c4,c5,c6,c7,.int .i64 k,c9]:List Value)[j]? = some u→w.cell? ⟨b,off+j,none⟩=some u∧u.oneCell' = true) ∧
  (∀ j u,([x0,.slice (some ⟨rb,0,none⟩) regs.length cap,x2,x3]:List Value)[j]? = some u→w.cell? ⟨sb,so+j,none⟩=some u∧u.oneCell' = true) ∧
  Arr w R4.enc 4 (.slice (some ⟨rb,0,none⟩) regs.length cap) regs
def ir95:IR:=(.seq (.ops [⟨(some 2),(.mv (.k (.c (.v (.pointer none))))),none⟩]) (.kill [1,2,3,4,5,6,7,8,9,10,11] (.seq (.draw [(⟨(some 3),(.mv (.t 0)),none⟩,([],[10,11,12,13,14,15,16,17,18])),(⟨(some 4),(.nilck (.t 3)),none⟩,([],[10,11,12,13,14,15,16,17,18])),(⟨(some 5),(.fa 0 (.t 4)),none⟩,([],[10,11,12,13,14,15,16,17,18])),(⟨(some 6),(.ld false 1 (.t 5)),none⟩,([],[10,11,12,13,14,15,16,17,18])),(⟨(some 7),(.nilck (.t 6)),none⟩,([],[10,11,12,13,14,15,16,17,18])),(⟨(some 8),(.fa 1 (.t 7)),none⟩,([],[10,11,12,13,14,15,16,17,18])),(⟨(some 9),(.ld false 1 (.t 8)),none⟩,([],[10,11,12,13,14,15,16,17,18])),(⟨(some 10),(.mv (.t 0)),none⟩,([0,1,2,3,4,5,6],[3,4,5,6,7,8,9,14,15,16,17,18])),(⟨(some 11),(.nilck (.t 10)),none⟩,([0,1,2,3,4,5,6],[3,4,5,6,7,8,9,14,15,16,17,18])),(⟨(some 12),(.fa 8 (.t 11)),none⟩,([0,1,2,3,4,5,6],[3,4,5,6,7,8,9,14,15,16,17,18])),(⟨(some 13),(.ld false 1 (.t 12)),none⟩,([0,1,2,3,4,5,6],[3,4,5,6,7,8,9,14,15,16,17,18])),(⟨(some 14),(.mv (.t 0)),none⟩,([0,1,2,3,4,5,6,7,8,9,10],[3,4,5,6,7,8,9,10,11,12,13,19])),(⟨(some 15),(.nilck (.t 14)),none⟩,([0,1,2,3,4,5,6,7,8,9,10],[3,4,5,6,7,8,9,10,11,12,13,19])),(⟨(some 16),(.fa 1 (.t 15)),none⟩,([0,1,2,3,4,5,6,7,8,9,10],[3,4,5,6,7,8,9,10,11,12,13,19])),(⟨(some 17),(.fa 1 (.t 16)),none⟩,([0,1,2,3,4,5,6,7,8,9,10],[3,4,5,6,7,8,9,10,11,12,13,19])),(⟨(some 18),(.ld false 1 (.t 17)),none⟩,([0,1,2,3,4,5,6,7,8,9,10],[3,4,5,6,7,8,9,10,11,12,13,19])),(⟨(some 19),(.ia 4 (.t 9) (.t 13)),none⟩,([11,12,13,14,15],[14,15,16,17,18])),(⟨(some 20),(.iar 4 1 (.t 19) (.t 18)),none⟩,([],[])),(⟨(some 2),(.mv (.t 20)),none⟩,([],[]))]) (.kill [0,3,4,5,6,7,8,9,10,11,12,13,14,15,16,17,18,19,20] .ret))))
def rs95:List RS:=[(.t 2)]
def nt95:Nat:=21
def wkF (c1 c2 c3 c4 c5 c6 c7 c8 c9:Value):ArrF:=⟨1,10,fun _=>[.ep (1,0,0) 4 0 0,.v c1,.v c2,.v c3,.v c4,.v c5,.v c6,.v c7,.v c8,.v c9],0⟩
def wsF:ArrF:=⟨1,4,fun _=>[.xv (3,0,0),.xv (2,0,0),.xv (4,0,0),.xv (5,0,0)],0⟩
theorem wkF_len (c1 c2 c3 c4 c5 c6 c7 c8 c9:Value):(wkF c1 c2 c3 c4 c5 c6 c7 c8 c9).len=1:=rfl
theorem wkF_size (c1 c2 c3 c4 c5 c6 c7 c8 c9:Value):(wkF c1 c2 c3 c4 c5 c6 c7 c8 c9).size=10:=rfl
theorem wkF_at (c1 c2 c3 c4 c5 c6 c7 c8 c9:Value) (k:Nat):(wkF c1 c2 c3 c4 c5 c6 c7 c8 c9).at_ k=[.ep (1,0,0) 4 0 0,.v c1,.v c2,.v c3,.v c4,.v c5,.v c6,.v c7,.v c8,.v c9]:=rfl
theorem wsF_len:wsF.len=1:=rfl
theorem wsF_size:wsF.size=4:=rfl
theorem wsF_at (k:Nat):wsF.at_ k=[.xv (3,0,0),.xv (2,0,0),.xv (4,0,0),.xv (5,0,0)]:=rfl
set_option maxRecDepth 100000 in
set_option maxHeartbeats 400000 in
theorem reg_calls (w:World) (v:Value) (regs:List R4) (k:Nat) (r:Int) (rb:Nat) (hk:k<regs.length) (hr:0≤r∧r<4) (h:RegR w v regs k r rb):Calls Try.prog 95 #[v] w (RetV w (.pointer (some ⟨rb,k * 4+r.toNat,none⟩))):=by
 obtain ⟨b,off,sb,so,x0,x2,x3,cap,c1,c3,c4,c5,c6,c7,c9,rfl,hc,hd,hA⟩:=h.ex
 refine enterLF (c:=ir95) (rs:=rs95) (nt:=nt95) (A:=[]) [fun _=>.slice (some ⟨b,off,none⟩) 1 1,fun _=>.slice (some ⟨sb,so,none⟩) 1 1,fun _=>.slice (some ⟨rb,0,none⟩) regs.length cap,fun _=>x0,fun _=>x2,fun _=>x3] ⟨fun _=>rfl,fun _=>rfl,fun _=>rfl,fun _=>(hd 0 x0 rfl).2,fun _=>(hd 2 x2 rfl).2,fun _=>(hd 3 x3 rfl).2,trivial⟩
  (arrs:=[(0,.one (wkF c1 (.int .i64 r) c3 c4 c5 c6 c7 (.int .i64 k) c9)),(1,.one wsF),(2,.one (arrOf R4.enc 4 regs r40))]) ?_
  [.c (.ep (0,0,0) 10 0 0)] #[.pointer (some ⟨b,off,none⟩)] Try.func95 rfl (by kernel_rfl) (by kernel_rfl) rfl (fun E' hE'=>?_) (of_decide_eq_true rfl) ?_
 ·have hr:Reads w [fun _=>.slice (some ⟨b,off,none⟩) 1 1,fun _=>.slice (some ⟨sb,so,none⟩) 1 1,fun _=>.slice (some ⟨rb,0,none⟩) regs.length cap,fun _=>x0,fun _=>x2,fun _=>x3] [(2,.one (arrOf R4.enc 4 regs r40))] :=
   rd_one 2 r40 r4_ok hA (by simp) rfl rd_nil
  intro E hE x A hA
  have e1:=hE 1 0 0 (by simp);have e2:=hE 2 0 0 (by simp);have e3:=hE 3 0 0 (by simp);have e4:=hE 4 0 0 (by simp);have e5:=hE 5 0 0 (by simp)
  rcases atN_one hA with ⟨rfl,rfl⟩ | hA
  ·refine ⟨some ⟨b,off,none⟩,1,hE 0 0 0 (by simp),Nat.le_refl _,by simp [maxLen],Or.inr ⟨b,off,rfl,Nat.zero_le _,fun k' hk=>⟨rfl,fun j u hu=>?_⟩⟩⟩
   have hk:k' = 0:=by have:k' < 1:=hk;omega
   subst hk
   have:=hc j (u.den E) (by
    have e:([.pointer (some ⟨sb,so,none⟩),c1,.int .i64 r,c3,c4,c5,c6,c7,.int .i64 k,c9]:List Value)=((wkF c1 (.int .i64 r) c3 c4 c5 c6 c7 (.int .i64 k) c9).at_ 0).map (SC.den E):=by
     simp only [wkF,List.map_cons,List.map_nil,SC.den,e1];simp
    rw [e,List.getElem?_map,hu];rfl)
   rw [wkF_size,show off+0 * 10+j=off+j by omega]
   exact this
  rcases atN_one hA with ⟨rfl,rfl⟩ | hA
  ·refine ⟨some ⟨sb,so,none⟩,1,e1,Nat.le_refl _,by simp [maxLen],Or.inr ⟨sb,so,rfl,Nat.zero_le _,fun k' hk=>⟨rfl,fun j u hu=>?_⟩⟩⟩
   have hk:k' = 0:=by have:k' < 1:=hk;omega
   subst hk
   have:=hd j (u.den E) (by
    have e:([x0,.slice (some ⟨rb,0,none⟩) regs.length cap,x2,x3]:List Value)=(wsF.at_ 0).map (SC.den E):=by
     simp only [wsF,List.map_cons,List.map_nil,SC.den,e2,e3,e4,e5];rfl
    rw [e,List.getElem?_map,hu];rfl)
   rw [wsF_size,show so+0 * 4+j=so+j by omega]
   exact this
  exact hr E hE x A hA
 ·have e0:=hE' 0 0 0 (by simp)
  simp only [List.map_cons,List.map_nil,SV.den,SC.den,e0]
  simp
 simp (maxSteps:=2000000) only [ir95,nt95,rs95,go_sem,↓runOp,↓reduceIte,Nat.reduceLT,Nat.reduceAdd,Nat.reduceEqDiff,reduceCtorEq]
 refine draw_vc (by kernel_rfl) (mkTab_ok _ _) (of_decide_eq_true rfl) (of_decide_eq_true rfl) ?_
 repeat (first | simp (maxSteps:=2000000) only [go_sem,↓gateD,↓runD,↓reduceIte,Nat.reduceLT,Nat.reduceAdd,Nat.reduceEqDiff,reduceCtorEq,wkF_len,wkF_size,wkF_at,wsF_len,wsF_size,wsF_at] | rw [dr_cons])
 refine And.intro hk (And.intro ⟨hk,hr⟩ ?_)
 intro E a w' hs
 have hs:=hs.sat
 have hh:=holds_of (C:=mkC Try.prog [] w rs95 (RetV w (.pointer (some ⟨rb,k * 4+r.toNat,none⟩)))) hs
 have hx:=hh.2 _ List.mem_cons_self
 have e2:=hx 2 0 0 (by simp)
 refine ⟨?_,below_of hs⟩
 simp only [SV.den,SC.den,e2]
 simp
theorem reg_at {C:Ctx} {E:Env} {S:St} {a:Act} {w:World} (hs:Sat C.B C.W C.w0 E S a w) {regs:List R4} {k:Nat} {r:Int} {c1 c3 c4 c5 c6 c7:Value} {late:SC} {c2 c3' c4' : SC} {n t1 t2 t3 i:Nat} {ar:Nat→List SC} (hn:n=regs.length) (hk:k<regs.length)
  (hw:look S.own i=some (.one (.bk [.ptr (5,0,0) 0,.v c1,.v (.int .i64 r),.v c3,.v c4,.v c5,.v c6,.v c7,.v (.int .i64 k),late] t1))) (h5:look S.own 5=some (.one (.bk [c2,.sl (7,0,0) 4 0 n none,c3',c4'] t2))) (h7:look S.own 7=some (.one (.ar n 4 ar t3)))
  (hr:∀ e,e<regs.length→ar e=ats R4.enc regs r40 e) (o1:c1.oneCell' = true∧c3.oneCell' = true∧c4.oneCell' = true∧c5.oneCell' = true∧c6.oneCell' = true∧c7.oneCell' = true∧(∀ E,(late.den E).oneCell' = true)) (o2:∀ E,(c2.den E).oneCell' = true∧(c3'.den E).oneCell' = true∧(c4'.den E).oneCell' = true) :
  RegR w ((SC.ptr (i,0,0) 0).den E) regs k r (E.ρ (7,0,0)):=by
 subst hn
 obtain ⟨H,hH,_⟩:=hs.mem
 have hat7:atN S.own (7,0,0)=some (.ar regs.length 4 ar t3):=by simp [atN,h7,Fm.get]
 have hat5:atN S.own (5,0,0)=some (.bk [c2,.sl (7,0,0) 4 0 regs.length none,c3',c4'] t2):=by simp [atN,h5,Fm.get]
 have hati:atN S.own (i,0,0)=some (.bk [.ptr (5,0,0) 0,.v c1,.v (.int .i64 r),.v c3,.v c4,.v c5,.v c6,.v c7,.v (.int .i64 k),late] t1):=by simp [atN,hw,Fm.get]
 have hd5:=hH.den _ _ hat5
 have hdi:=hH.den _ _ hati
 simp only [Blk.den] at hd5 hdi
 have hb5:=(hH.sub _ _ hat5 (E.ρ (5,0,0)) _ (by rw [hd5];simp [sing];rfl)).1
 have hbi:=(hH.sub _ _ hati (E.ρ (i,0,0)) _ (by rw [hdi];simp [sing];rfl)).1
 obtain ⟨hν,_,_⟩:=ar_cell hH hat7 hk
 have hA:=arr_ownX (d:=r40) hs (7,0,0) _ regs.length ar hat7 rfl (Nat.le_refl _) hr
 have hsl:(SC.sl (7,0,0) 4 0 regs.length none).den E = .slice (some ⟨E.ρ (7,0,0),0,none⟩) regs.length (E.κ (7,0,0)):=by simp [SC.den,hν]
 rw [hsl] at hA
 refine ⟨E.ρ (i,0,0),0,E.ρ (5,0,0),0,c2.den E,c3'.den E,c4'.den E,E.κ (7,0,0),c1,c3,c4,c5,c6,c7,late.den E,rfl,fun j u hu=>?_,fun j u hu=>?_,hA⟩
 ·refine ⟨?_,?_⟩
  ·rw [cell_of_row w _ _ _ t1 (0,0) hbi,Nat.zero_add]
   simpa [SC.den] using hu
  ·obtain ⟨p1,p3,p4,p5,p6,p7,p9⟩:=o1
   match j,hu with
   | 0,hu=>cases hu;rfl
   | 1,hu=>cases hu;exact p1
   | 2,hu=>cases hu;rfl
   | 3,hu=>cases hu;exact p3
   | 4,hu=>cases hu;exact p4
   | 5,hu=>cases hu;exact p5
   | 6,hu=>cases hu;exact p6
   | 7,hu=>cases hu;exact p7
   | 8,hu=>cases hu;rfl
   | 9,hu=>cases hu;exact p9 E
 ·refine ⟨?_,?_⟩
  ·rw [cell_of_row w _ _ _ t2 (0,0) hb5,Nat.zero_add]
   rw [← hsl] at hu
   simpa using hu
  ·match j,hu with
   | 0,hu=>cases hu;exact (o2 E).1
   | 1,hu=>cases hu;rfl
   | 2,hu=>cases hu;exact (o2 E).2.1
   | 3,hu=>cases hu;exact (o2 E).2.2
theorem reg_cr {C:Ctx} {S:St} {regs:List R4} {k:Nat} {r:Int} {c1 c3 c4 c5 c6 c7:Value} {late:SC} {c2 c3' c4' : SC} {n t1 t2 t3 i:Nat} {ar:Nat→List SC} (hP:C.P=Try.prog) (hn:n=regs.length) (hk:k<regs.length) (hg:0≤r∧r<4)
  (hw:look S.own i=some (.one (.bk [.ptr (5,0,0) 0,.v c1,.v (.int .i64 r),.v c3,.v c4,.v c5,.v c6,.v c7,.v (.int .i64 k),late] t1))) (h5:look S.own 5=some (.one (.bk [c2,.sl (7,0,0) 4 0 n none,c3',c4'] t2))) (h7:look S.own 7=some (.one (.ar n 4 ar t3)))
  (hr:∀ e,e<regs.length→ar e=ats R4.enc regs r40 e) (o1:c1.oneCell' = true∧c3.oneCell' = true∧c4.oneCell' = true∧c5.oneCell' = true∧c6.oneCell' = true∧c7.oneCell' = true∧(∀ E,(late.den E).oneCell' = true)) (o2:∀ E,(c2.den E).oneCell' = true∧(c3'.den E).oneCell' = true∧(c4'.den E).oneCell' = true) :
  CR C 95 [.c (.ptr (i,0,0) 0)] S [7] (.c (.pe (7,0,0) 4 k r.toNat)) 0 [] [] :=
 cr_retK [7] _ (by simp [SV.okN,SC.okN]) fun E a w hs=>by
  rw [hP]
  exact reg_calls w _ regs k r _ hk hg (reg_at hs hn hk hw h5 h7 hr o1 o2)
end Go.Proofs.Ytmcpdafmkkjlcaa.Z
namespace Go.Proofs.Ytmcpdafmkkjlcaa
open Go.RowKit
theorem zPd:ElemI Try.prog 88 2 16 (.agg #[.int .i64 0,.int .i64 0]):=by
 obtain ⟨i0,hi,hz0,hz1,hz2⟩:=info_parts (show (Try.prog.info? 88).map (fun i=>(i.zero,i.size,i.bytes))=some (some (.agg #[.int .i64 0,.int .i64 0]),2,16) by kernel_rfl)
 exact ⟨⟨i0,hi,hz0,hz1,hz2⟩,rfl,by simp [Value.cells,Value.oneCell'],by decide⟩
def delAt {α:Type} (l:List α) (i:Nat):List α:=l.take i++l.drop (i+1)
theorem delAt_len {α:Type} (l:List α) (i:Nat) (hi:i<l.length):(delAt l i).length=l.length - 1:=by simp [delAt];omega
theorem splice_take {α:Type} (L cs:List α) (o:Nat) (ho:o≤L.length):(splice L o cs).take o=L.take o:=by
 unfold splice
 rw [List.take_append,List.length_take,Nat.min_eq_left ho,Nat.sub_self,List.take_zero,List.append_nil,List.take_take,Nat.min_self]
theorem splice_mid {α:Type} (X W Y:List α) (k:Nat) (hk:X.length=k):(splice (X++W) k Y).take (k+Y.length)=X++Y:=by
 subst hk
 unfold splice
 rw [List.take_left,show X.length+Y.length=(X++Y).length by simp,← List.append_assoc,List.take_left]
def DelP (w:World) (g cap n:Nat) (l:List Z.Pd) (r:Ending) (w' : World):Prop :=
 r = .returned (.slice (some ⟨g,0,none⟩) n cap)∧(∃ cur:Array Value,w'.heap[g]? = some (.cells cur 88 (0,0))∧cur.size=cap * 2∧cur.toList.take (n * 2)=l.flatMap Z.Pd.enc) ∧
  (∀ m,m≠g→w'.heap[m]? = w.heap[m]?)∧w'.os=w.os∧w'.tape=w.tape∧w'.output=w.output∧w'.heap.size=w.heap.size
set_option maxRecDepth 100000 in
set_option maxHeartbeats 1000000 in
theorem delete_pend {w:World} {i g cap:Nat} {cur:Array Value} {l:List Z.Pd} (hi:i<l.length) (hg:w.heap[g]? = some (.cells cur 88 (0,0))) (hnc:l.length≤cap) (hcm:cap≤maxLen) (hcs:cur.size=cap * 2) (htk:cur.toList.take (l.length * 2)=l.flatMap Z.Pd.enc) :
  Calls Try.prog 94 #[.slice (some ⟨g,0,none⟩) l.length cap,.int .i64 i,.int .i64 ((i:Int)+1)] w (DelP w g cap (l.length - 1) (delAt l i)):=by
 obtain ⟨n,hn⟩:∃ n,n=l.length:=⟨_,rfl⟩
 rw [← hn] at hi hnc htk ⊢
 have hl:l=l.take i++l[i] :: l.drop (i+1):=by rw [← List.drop_eq_getElem_cons (by omega),List.take_append_drop]
 have hX1:((l.take i).flatMap Z.Pd.enc).length=i * 2:=by rw [flat_len Z.pd_ok.len,List.length_take,← hn];omega
 have hX2:((l.drop (i+1)).flatMap Z.Pd.enc).length=(n - (i+1)) * 2:=by rw [flat_len Z.pd_ok.len,List.length_drop,← hn]
 have hE:(Z.Pd.enc l[i]).length=2:=Z.pd_ok.len _
 have hsplit:l.flatMap Z.Pd.enc=(l.take i).flatMap Z.Pd.enc++(Z.Pd.enc l[i]++(l.drop (i+1)).flatMap Z.Pd.enc):=by
  conv=>lhs;rw [hl]
  simp only [List.flatMap_append,List.flatMap_cons]
 obtain ⟨X,eX⟩:∃ X,(l.take i).flatMap Z.Pd.enc=X:=⟨_,rfl⟩
 obtain ⟨Y,eY⟩:∃ Y,(l.drop (i+1)).flatMap Z.Pd.enc=Y:=⟨_,rfl⟩
 obtain ⟨E,eE⟩:∃ E,Z.Pd.enc l[i]=E:=⟨_,rfl⟩
 obtain ⟨S,eS⟩:∃ S,cur.toList.drop (n * 2)=S:=⟨_,rfl⟩
 rw [eX] at hX1
 rw [eY] at hX2
 rw [eE] at hE
 rw [eX,eY,eE] at hsplit
 have hS:S.length=(cap - n) * 2:=by rw [← eS,List.length_drop,Array.length_toList,hcs];omega
 have hcur:cur=(X++(E++(Y++S))).toArray:=by
  have h1:cur.toList=X++(E++(Y++S)):=by rw [← List.append_assoc E,← List.append_assoc X,← hsplit,← htk,← eS,List.take_append_drop]
  rw [← h1]
 subst hcur
 clear hcs htk eS hsplit hl
 have hl0:(X++(E++(Y++S))).length=cap * 2:=by simp only [List.length_append,hX1,hX2,hE,hS];omega
 have h1Y:∀ v∈Y,v.oneCell' = true:=fun v hv=>by rw [← eY] at hv;obtain ⟨y,_,h⟩:=List.mem_flatMap.1 hv;exact Z.pd_ok.one y v h
 have hg0:w.drew.heap[g]? = some (.cells (X++(E++(Y++S))).toArray 88 (0,0)):=hg
 have hsrcY:∀ j v,Y[j]? = some v→w.drew.cell? ((⟨g,(i+1) * 2,none⟩:Addr).add j)=some v:=fun j v hv=>by
  have ea:(⟨g,(i+1) * 2,none⟩:Addr).add j=⟨g,(i+1) * 2+j,none⟩:=by unfold Addr.add;split <;> simp_all
  rw [ea,cell_of_row w.drew g ((i+1) * 2+j) _ _ (0,0) hg0]
  rw [List.getElem?_toArray,List.getElem?_append_right (by rw [hX1];omega),hX1,show (i+1) * 2+j - i * 2=2+j by omega,List.getElem?_append_right (by rw [hE];omega),hE,show 2+j - 2=j by omega,List.getElem?_append_left (List.getElem?_eq_some_iff.1 hv).1]
  exact hv
 have hnY:Y.length=(n - (i+1)) * 2:=hX2
 have hroom:i+(n - (i+1))≤cap:=by omega
 have hfY:0+i * 2+Y.length≤(X++(E++(Y++S))).length:=by rw [hl0,hX2];omega
 have hl1:(splice (X++(E++(Y++S))) (i * 2) Y).length=(X++(E++(Y++S))).length:=length_splice _ _ _ (by rw [hl0,hX2];omega)
 have hg1:=setRow_heap w.drew g _ (splice (X++(E++(Y++S))) (i * 2) Y).toArray 88 (0,0) hg0
 have hfz:(n - 1) * 2+1 * 2≤(splice (X++(E++(Y++S))) (i * 2) Y).length:=by rw [hl1,hl0];omega
 have htake:(splice (X++(E++(Y++S))) (i * 2) Y).take ((n - 1) * 2)=(delAt l i).flatMap Z.Pd.enc:=by
  have:=splice_mid X (E++(Y++S)) Y (i * 2) hX1
  rw [show (n - 1) * 2=i * 2+Y.length by rw [hX2];omega,this]
  simp only [delAt,List.flatMap_append,eX,eY]
 have hdl:(delAt l i).length=n - 1:=by rw [delAt_len l i (by omega),hn]
 have hret:∀ cs:List Value,cs.length=1 * 2→DelP w g cap (n - 1) (delAt l i) (.returned (.slice (some ⟨g,0,none⟩) (n - 1) cap)) ((w.drew.setRow g (splice (X++(E++(Y++S))) (i * 2) Y).toArray).setRow g (splice (splice (X++(E++(Y++S))) (i * 2) Y) ((n - 1) * 2) cs).toArray):=by
  intro cs hc
  refine ⟨rfl,⟨_,setRow_heap _ g _ _ 88 (0,0) hg1,?_,?_⟩,fun m hm=>?_,rfl,rfl,rfl,by simp⟩
  ·rw [List.size_toArray,length_splice _ _ _ (by rw [hc];exact hfz),hl1,hl0]
  ·rw [← htake,List.toList_toArray]
   exact splice_take _ _ _ (by rw [hl1,hl0];omega)
  ·rw [setRow_other _ g m _ hm,setRow_other _ g m _ hm];rfl
 have hne:((i:Int) == (i:Int)+1)=false:=by rw [beq_eq_false_iff_ne];omega
 have hi1:(i:Int)+1≤(n:Int):=by omega
 have hi0:(i:Int)≤(i:Int)+1:=by omega
 have hi2:(0:Int)≤(i:Int)+1:=by omega
 have hi3:((i:Int)+1).toNat=i+1:=by omega
 have hi4:(i:Int)≤(cap:Int):=by omega
 have hi5:(n:Int)≤(cap:Int):=by omega
 have hnb:cap≤9223372036854775807:=by unfold maxLen at hcm;omega
 have ei:i+(n - (i+1))=n - 1:=by omega
 have hk0:¬ n=i:=by omega
 have hk1:¬ cap=0:=by omega
 have hk2:¬ cap=n - 1:=by omega
 have hk3:n - (n - 1)=1:=by omega
 have hk4:((n - 1:Nat):Int)≤(n:Int):=by omega
 have HRM:=Lib.hid hroom
 have HG0:=Lib.hid hg0
 have HG1:=Lib.hid hg1
 have HNY:=Lib.hid hnY
 have HSY:=Lib.hid hsrcY
 have HFY:=Lib.hid hfY
 have H1Y:=Lib.hid h1Y
 have HFZ:=Lib.hid hfz
 have HRET:=Lib.hid hret
 have EI:=Lib.hid ei
 clear hg hg0 hg1 hnY hsrcY hfY h1Y hfz hret hl0 hl1 htake hdl hX1 hX2 hE hS eX eY eE hn hroom ei
 by_cases hcp:cap=i+1
 ·have HSY0:Hid (∀ j v,Y[j]? = some v→w.drew.cell? ((⟨g,0,none⟩:Addr).add j)=some v):=fun j v hv=>by
   have h:=(List.getElem?_eq_some_iff.1 hv).1
   have:=HNY.out
   omega
  clear HSY;have HSY:=HSY0;clear HSY0
  subst hcp
  have hn1:n=i+1:=by omega
  subst hn1
  have HNY0:Hid (Y.length=0 * 2):=HNY.out.trans (by omega)
  have HRM0:Hid (i+0≤i+1):=by show _≤_;omega
  go_enter Try.func94,Try.ntmps94
  go_upto_region 5 with (fail)
  go_region_law (refine step_append_rowS (off:=0) (n:=i) (cap:=i+1) (ad:=⟨g,0,none⟩) (m:=0) (c:=0) rfl (.tmp 22) (.tmp 25) 86 rfl zPd Try.underlying86 (by simp [Act.eval,Act.put]) (by simp [Act.eval,Act.put]) HG0.out Y HNY0.out HRM0.out HSY.out HFY.out H1Y.out ?_;intro W3 e3;subst e3)
  rw [EI.out] at *
  generalize w.drew.setRow g (splice (X++(E++(Y++S))) (i * 2) Y).toArray=W2 at *
  go_wp2_with (refine wpList_clear_rowS rfl (.tmp 31) 86 rfl zPd Try.underlying86 rfl HG1.out (by simp) HFZ.out ?_;intro W3 cs hcs e3;subst e3;have HCS:=Lib.hid hcs;clear hcs)
  go_ret
  exact HRET.out cs HCS.out
 ·skip
  go_enter Try.func94,Try.ntmps94
  go_upto_region 5 with (fail)
  go_region_law (refine step_append_rowS (off:=0) (n:=i) (cap:=cap) (ad:=⟨g,(i+1) * 2,none⟩) (m:=n - (i+1)) (c:=cap - (i+1)) rfl (.tmp 22) (.tmp 25) 86 rfl zPd Try.underlying86 (by simp [Act.eval,Act.put]) (by simp [Act.eval,Act.put]) HG0.out Y HNY.out HRM.out HSY.out HFY.out H1Y.out ?_;intro W3 e3;subst e3)
  rw [EI.out] at *
  generalize w.drew.setRow g (splice (X++(E++(Y++S))) (i * 2) Y).toArray=W2 at *
  go_wp2_with (refine wpList_clear_rowS rfl (.tmp 31) 86 rfl zPd Try.underlying86 rfl HG1.out (by simp) HFZ.out ?_;intro W3 cs hcs e3;subst e3;have HCS:=Lib.hid hcs;clear hcs)
  go_ret
  exact HRET.out cs HCS.out
end Go.Proofs.Ytmcpdafmkkjlcaa
namespace Go.Proofs.Ytmcpdafmkkjlcaa.Z
open Go Go.RowKit
theorem arr_take {cells:Array Value} {l:List Pd} {cap:Nat} (hs:cells.size=cap * 2) (hn:l.length≤cap) (h:∀ e,e<l.length→(ats Pd.enc l pd0 e).length=2∧∀ j u,(ats Pd.enc l pd0 e)[j]? = some u→∀ E:Env,cells[e * 2+j]? = some (u.den E)):cells.toList.take (l.length * 2)=l.flatMap Pd.enc:=by
 refine List.ext_getElem? fun m=>?_
 have hfl:(l.flatMap Pd.enc).length=l.length * 2:=flat_len pd_ok.len l
 by_cases hm:m<l.length * 2
 ·rw [List.getElem?_take_of_lt hm]
  have he:m / 2<l.length:=by omega
  have hx:l[m / 2]? = some (l.getD (m / 2) pd0):=by rw [List.getD_eq_getElem?_getD,List.getElem?_eq_getElem he];rfl
  have hj:m % 2<2:=Nat.mod_lt _ (by decide)
  have hu:(Pd.enc (l.getD (m / 2) pd0))[m % 2]? = some ((Pd.enc (l.getD (m / 2) pd0))[m % 2]'(by simp [Pd.enc];omega)):=List.getElem?_eq_getElem _
  have h1:=(h (m / 2) he).2 (m % 2) (.v ((Pd.enc (l.getD (m / 2) pd0))[m % 2]'(by simp [Pd.enc];omega))) (by simp only [ats,List.getElem?_map,hu];rfl) ⟨fun _=>0,fun _=>0,fun _=>false,fun _=>.bool true⟩
  rw [den_v,show m / 2 * 2+m % 2=m by omega] at h1
  rw [Array.getElem?_toList,h1]
  have h2:=flat_get (enc:=Pd.enc) (s:=2) pd_ok.len l (m / 2) (m % 2) (l.getD (m / 2) pd0) hx hj
  rw [show m / 2 * 2+m % 2=m by omega,hu] at h2
  exact h2.symm
 ·rw [List.getElem?_eq_none (by rw [List.length_take];simp;omega),List.getElem?_eq_none (by omega)]
theorem delAt_erase (l:List Pd) (i:Nat):delAt l i=l.eraseIdx i:=by
 unfold delAt;rw [List.eraseIdx_eq_take_drop_succ]
theorem take_arr {cells:Array Value} {l:List Pd} (h:cells.toList.take (l.length * 2)=l.flatMap Pd.enc) {e:Nat} (he:e<l.length):(ats Pd.enc l pd0 e).length=2∧∀ j u,(ats Pd.enc l pd0 e)[j]? = some u→∀ E:Env,cells[e * 2+j]? = some (u.den E)∧(u.den E).oneCell' = true:=by
 refine ⟨rfl,fun j u hu E=>?_⟩
 simp only [ats,List.getElem?_map,Option.map_eq_some_iff] at hu
 obtain ⟨u',hu',rfl⟩:=hu
 have hj:j<2:=by have:=(List.getElem?_eq_some_iff.1 hu').1;simpa [Pd.enc] using this
 have hx:l[e]? = some (l.getD e pd0):=by rw [List.getD_eq_getElem?_getD,List.getElem?_eq_getElem he];rfl
 have h2:=flat_get (enc:=Pd.enc) (s:=2) pd_ok.len l e j (l.getD e pd0) hx hj
 rw [← h,hu',List.getElem?_take_of_lt (by omega),Array.getElem?_toList] at h2
 rw [den_v]
 exact ⟨h2,pd_ok.one _ _ (List.mem_of_getElem? hu')⟩
theorem dele_cr {C:Ctx} {S:St} {n k i:Nat} {z:Int} {l:List Pd} {F:Nat→Blk} (hP:C.P=Try.prog) (hk:k<n) (hi:i<l.length) (hz:z=(i:Int)+1) (h10:look S.own 10=some (.fam n F)) (hF:F k = .ar l.length 2 (ats Pd.enc l pd0) 88) :
  CR C 94 [.c (.sl (10,k,0) 2 0 l.length none),.c (.v (.int .i64 i)),.c (.v (.int .i64 z))] S [10] (.c (.sl (10,k,0) 2 0 (l.length - 1) none)) 0 [(10,.fam n fun e=>if e=k then .ar (l.length - 1) 2 (ats Pd.enc (l.eraseIdx i) pd0) 88 else F e)] []:=by
 intro E a w hs
 subst hz
 have hat:atN S.own (10,k,0)=some (.ar l.length 2 (ats Pd.enc l pd0) 88):=by simp [atN,h10,Fm.get,hk,hF]
 obtain ⟨H,hH,_⟩:=hs.mem
 rcases ar_heap hH hat with ⟨_,_,h0,_⟩ | ⟨g1,g2,g3,cells,g4,g5,g6,g7⟩
 ·omega
 have htk:cells.toList.take (l.length * 2)=l.flatMap Pd.enc:=by
  refine arr_take g6 g2.1 fun e he=>⟨rfl,fun j u hu E'=>?_⟩
  have:=((g7 e he).2 j u hu).1
  simp only [ats,List.getElem?_map,Option.map_eq_some_iff] at hu
  obtain ⟨u',hu',rfl⟩:=hu
  rw [den_v] at this ⊢
  exact this
 have hcall:=delete_pend hi g5 g2.1 g3 g6 htk
 rw [hP]
 have hargs:(([.c (.sl (10,k,0) 2 0 l.length none),.c (.v (.int .i64 i)),.c (.v (.int .i64 ((i:Int)+1)))]:List SV).map (SV.den E)).toArray = #[.slice (some ⟨E.ρ (10,k,0),0,none⟩) l.length (E.κ (10,k,0)),.int .i64 i,.int .i64 ((i:Int)+1)]:=by simp [SV.den,SC.den,g1]
 rw [hargs]
 refine hcall.mono ?_
 rintro e w' ⟨rfl,⟨cur,h1,h2,h3⟩,h4,q1,q2,q3,q4⟩
 refine ⟨_,rfl,E,hs.one,fun E2 hs2 hks _=>?_⟩
 obtain ⟨r1,r2,r3,_⟩:=hks (10,k,0) (by simp)
 refine ⟨by simp [SV.den,SC.den,r1,r2,r3,g1],Fits.G ⟨fun H2 hH2=>?_,fun _ _ x A hA=>by simp [atN,look] at hA⟩⟩
 rcases ar_heap hH2 hat with ⟨_,_,h0,_⟩ | ⟨k1,k2,k3,cells2,k4,k5,k6,k7⟩
 ·omega
 rw [delAt_erase] at h3
 have hel:(l.eraseIdx i).length=l.length - 1:=by rw [List.length_eraseIdx,if_pos hi]
 rw [← hel] at h3
 have hcase:∀ x b,atN ([(10,.fam n fun e=>if e=k then .ar (l.length - 1) 2 (ats Pd.enc (l.eraseIdx i) pd0) 88 else F e)]:Own) x=some b→(x=(10,k,0)∧b = .ar (l.length - 1) 2 (ats Pd.enc (l.eraseIdx i) pd0) 88)∨(x≠(10,k,0)∧x.1=10∧atN S.own x=some b):=fun x b hx=>by
  rcases atN_fam hx with ⟨e,he,rfl,rfl⟩ | hx
  ·by_cases hek:e=k
   ·subst hek;left;simp
   ·right;exact ⟨by simp [hek],rfl,by simp [atN,h10,Fm.get,he,hek]⟩
  ·exact (atN_nil hx).elim
 refine ⟨q1,q2,q3,by omega,fun m hm hfree=>h4 m fun e=>?_,fun x=>if x=(10,k,0) then sing (E2.ρ (10,k,0)) (.cells cur 88 (0,0)) else H2 x,fun x b hx=>?_,fun x y b c hx hy hne m=>?_,fun x b hx m o hm=>?_⟩
 ·have:=hfree (10,k,0) _ rfl hat
  rw [k4,e,← r1] at this
  simp [sing] at this
 ·rcases hcase x b hx with ⟨rfl,rfl⟩ | ⟨hne,_,hb⟩
  ·simp only [if_true]
   refine Or.inr ⟨k1,by omega,k3,cur,rfl,by rw [h2,r2],fun e he=>?_⟩
   obtain ⟨a1,a2⟩:=take_arr h3 (show e<(l.eraseIdx i).length by omega)
   exact ⟨a1,fun j u hu=>a2 j u hu E2⟩
  ·simp only [if_neg hne]
   exact hH2.den x b hb
 ·have hd:∀ z c,atN S.own z=some c→z≠(10,k,0)→sing (E2.ρ (10,k,0)) (.cells cur 88 (0,0)) m=none∨H2 z m=none:=fun z c hz hne=>by
   rcases hH2.disj (10,k,0) z _ c hat hz (fun e=>hne e.symm) m with h | h
   ·left
    rw [k4] at h
    simp only [sing] at h ⊢
    by_cases e:m=E2.ρ (10,k,0)
    ·simp [e] at h
    ·simp [e]
   ·exact Or.inr h
  rcases hcase x b hx with ⟨rfl,rfl⟩ | ⟨hnx,_,hbx⟩
  ·rcases hcase y c hy with ⟨rfl,rfl⟩ | ⟨hny,_,hby⟩
   ·exact absurd rfl hne
   ·simp only [if_true,if_neg hny]
    exact hd y c hby hny
  ·rcases hcase y c hy with ⟨rfl,rfl⟩ | ⟨hny,_,hby⟩
   ·simp only [if_true,if_neg hnx]
    exact (hd x b hbx hnx).symm
   ·simp only [if_neg hnx,if_neg hny]
    exact hH2.disj x y b c hbx hby hne m
 ·rcases hcase x b hx with ⟨rfl,rfl⟩ | ⟨hnx,h10x,hbx⟩
  ·simp only [if_true,sing] at hm
   by_cases e:m=E2.ρ (10,k,0)
   ·subst e
    simp at hm
    subst hm
    refine ⟨by rw [r1];exact h1,Or.inr ⟨(10,k,0),_,rfl,hat,by rw [k4];simp [sing]⟩⟩
   ·simp [e] at hm
  ·simp only [if_neg hnx] at hm
   have hm2:m≠E.ρ (10,k,0):=fun e=>by
    rcases hH2.disj (10,k,0) x _ b hat hbx (fun q=>hnx q.symm) m with h | h
    ·rw [k4,e,← r1] at h;simp [sing] at h
    ·rw [h] at hm;cases hm
   exact ⟨by rw [h4 m hm2];exact (hH2.sub x b hbx m o hm).1,Or.inr ⟨x,b,by rw [h10x];rfl,hbx,by rw [hm];simp⟩⟩
end Go.Proofs.Ytmcpdafmkkjlcaa.Z
namespace Go.Proofs.Ytmcpdafmkkjlcaa.Z
open Go Go.RowKit
theorem ownLe_app {p:Nat→Prop} {σ:Nm→Nm} {own:Own}:∀ {l r:Own},OwnLe p σ own l→OwnLe p σ own r→OwnLe p σ own (l++r)
 | [],r,_,h=>h
 | (i,F) :: l,r,h,h'=>⟨h.1,ownLe_app h.2 h'⟩
def ir73:IR:=(.seq (.ops [⟨(some 5),(.box 44 (.t 2)),none⟩,⟨(some 6),(.mv (.k (.c (.v (.bool false))))),none⟩]) (.kill [2,3,4,6,7,8,9,10,11] (.seq (.draw [(⟨(some 10),(.mv (.t 1)),none⟩,([],[14,15])),(⟨(some 11),(.nilck (.t 10)),none⟩,([],[14,15])),(⟨(some 12),(.fa 3 (.t 11)),none⟩,([],[14,15])),(⟨(some 13),(.ld false 1 (.t 12)),none⟩,([],[14,15])),(⟨(some 14),(.fa 0 (.t 5)),none⟩,([0,1,2,3],[10,11,12,13])),(⟨(some 15),(.ld false 1 (.t 14)),none⟩,([0,1,2,3],[10,11,12,13])),(⟨(some 16),(.ia 1 (.t 13) (.t 15)),none⟩,([],[])),(⟨(some 17),(.ld false 1 (.t 16)),none⟩,([],[])),(⟨(some 7),(.mv (.t 17)),none⟩,([],[]))]) (.kill [10,11,12,13,14,15,16,17] (.seq (.seq (.ops [⟨(some 18),(.mv (.t 7)),none⟩,⟨(some 19),(.len (.t 18)),none⟩,⟨(some 20),(.mv (.k (.c (.v (.int .i64 0))))),none⟩]) (.blk 0 (.loop (.seq (.ops [⟨(some 21),(.bin .lss (.t 20) (.t 19)),none⟩]) (.kill [6,8,9,22,23,24,25,26,27,28,29,30,31,32,33,34,35,36,37,38,39,40,41,42,43,44,45,46,47,48,49,50,51,52,53,54,55] (.seq (.cond (.t 21) .skip (.exit 0)) (.kill [21] (.seq (.blk 1 (.seq (.ops [⟨(some 22),(.mv (.t 20)),none⟩,⟨(some 23),(.ia 2 (.t 18) (.t 20)),none⟩,⟨(some 24),(.ld true 2 (.t 23)),none⟩,⟨(some 9),(.new 88 [(.v (.int .i64 0)),(.v (.int .i64 0))]),none⟩,⟨(some 8),(.mv (.t 22)),none⟩,⟨none,(.st 2 (.t 9) (.t 24)),none⟩]) (.kill [22,23,24] (.seq (.seq (.ops [⟨(some 25),(.mv (.t 0)),none⟩,⟨(some 26),(.bin .eql (.t 25) (.k (.c (.v (.int .i64 3))))),none⟩,⟨(some 27),(.mv (.t 26)),none⟩,⟨(some 28),(.fa 0 (.t 9)),(some (27,true))⟩,⟨(some 29),(.ld false 1 (.t 28)),(some (27,true))⟩,⟨(some 30),(.fa 2 (.t 5)),(some (27,true))⟩,⟨(some 31),(.ld false 1 (.t 30)),(some (27,true))⟩,⟨(some 32),(.bin .neq (.t 29) (.t 31)),(some (27,true))⟩,⟨(some 33),(.pick (.t 27) (.t 32) (.k (.c (.v (.bool false))))),none⟩]) (.kill [25,26,27,28,29,30,31,32] (.cond (.t 33) (.exit 1) .skip))) (.kill [0,18,19,20,33] (.seq (.draw [(⟨(some 34),(.mv (.t 1)),none⟩,([],[38,39,40,41])),(⟨(some 35),(.nilck (.t 34)),none⟩,([],[38,39,40,41])),(⟨(some 36),(.fa 0 (.t 35)),none⟩,([],[38,39,40,41])),(⟨(some 37),(.ld false 1 (.t 36)),none⟩,([],[38,39,40,41])),(⟨(some 38),(.fa 0 (.t 9)),none⟩,([0,1,2,3],[34,35,36,37,40,41])),(⟨(some 39),(.ld false 1 (.t 38)),none⟩,([0,1,2,3],[34,35,36,37,40,41])),(⟨(some 40),(.fa 1 (.t 9)),none⟩,([0,1,2,3,4,5],[34,35,36,37,38,39])),(⟨(some 41),(.ld false 1 (.t 40)),none⟩,([0,1,2,3,4,5],[34,35,36,37,38,39])),(⟨(some 42),(.ia 1 (.t 37) (.t 39)),none⟩,([],[])),(⟨none,(.st 1 (.t 42) (.t 41)),none⟩,([],[]))]) (.kill [9,34,35,36,37,38,39,40,41,42] (.seq (.draw [(⟨(some 43),(.mv (.t 1)),none⟩,([],[47,48,49,50,51,52,53])),(⟨(some 44),(.nilck (.t 43)),none⟩,([],[47,48,49,50,51,52,53])),(⟨(some 45),(.fa 3 (.t 44)),none⟩,([],[47,48,49,50,51,52,53])),(⟨(some 46),(.ld false 1 (.t 45)),none⟩,([],[47,48,49,50,51,52,53])),(⟨(some 47),(.fa 0 (.t 5)),none⟩,([0,1,2,3],[43,44,45,46,49,50,51,52,53])),(⟨(some 48),(.ld false 1 (.t 47)),none⟩,([0,1,2,3],[43,44,45,46,49,50,51,52,53])),(⟨(some 49),(.mv (.t 7)),none⟩,([0,1,2,3,4,5],[43,44,45,46,47,48,50,51,52])),(⟨(some 50),(.mv (.t 8)),none⟩,([0,1,2,3,4,5,6],[43,44,45,46,47,48,49,51,52])),(⟨(some 51),(.mv (.t 8)),none⟩,([0,1,2,3,4,5,6,7],[43,44,45,46,47,48,49,50])),(⟨(some 52),(.bin .add (.t 51) (.k (.c (.v (.int .i64 1))))),none⟩,([0,1,2,3,4,5,6,7],[43,44,45,46,47,48,49,50])),(⟨(some 53),(.call 94 [(.t 49),(.t 50),(.t 52)]),none⟩,([0,1,2,3,4,5],[43,44,45,46,47,48])),(⟨(some 54),(.ia 1 (.t 46) (.t 48)),none⟩,([],[])),(⟨none,(.st 1 (.t 54) (.t 53)),none⟩,([],[]))]) (.kill [1,5,7,8,43,44,45,46,47,48,49,50,51,52,53,54] (.seq (.ops [⟨(some 6),(.mv (.k (.c (.v (.bool true))))),none⟩]) .ret)))))))))) (.kill [6,8,9,22,23,24,25,26,27,28,29,30,31,32,33,34,35,36,37,38,39,40,41,42,43,44,45,46,47,48,49,50,51,52,53,54] (.ops [⟨(some 55),(.bin .add (.t 20) (.k (.c (.v (.int .i64 1))))),none⟩,⟨(some 20),(.mv (.t 55)),none⟩])))))))))) (.kill [0,1,5,6,7,8,9,18,19,20,21,22,23,24,25,26,27,28,29,30,31,32,33,34,35,36,37,38,39,40,41,42,43,44,45,46,47,48,49,50,51,52,53,54,55] (.seq (.ops [⟨(some 6),(.mv (.k (.c (.v (.bool false))))),none⟩]) .ret)))))))
def rs73:List RS:=[(.t 6)]
def nt73:Nat:=56
set_option maxRecDepth 100000 in
set_option maxHeartbeats 400000 in
theorem iout_own (w:World) (E:Env) (o:Int) (s:LS) (k:Nat) (b:Bool) (addr:Int) (hk:k<s.bufs.length) (hsc:o=1→s.bufs.getD k []=[]) (hpd:∀ p∈s.bufs.getD k [],0≤p.addr∧p.addr<s.words.length) (hb:(s.bufs.getD k []).length≤1000000) (h:Handed w E 11 (stP s) []) :
  Calls Try.prog 73 (([.c (.v (.int .i64 o)),.c (.ptr (5,0,0) 0),.agg ((⟨k,b,addr⟩:Tn).enc.map .v)]:List SV).map (SV.den E)).toArray w (EffR w E 11 (takesO E (stP s)) (.c (.bo (outS o s k addr).2)) 1 fun b=>killO [10]++stE b (outS o s k addr).1):=by
 refine enterO (c:=ir73) (rs:=rs73) (nt:=nt73) h _ Try.func73 rfl (by kernel_rfl) (by kernel_rfl) rfl (by simp [okVs,SV.okN,SC.okN,okL_v]) (of_decide_eq_true rfl) ?_
 generalize hR:EffR w E 11 (takesO E (stP s)) (.c (.bo (outS o s k addr).2)) 1 (fun b=>killO [10]++stE b (outS o s k addr).1)=R
 generalize hW:takesO E (stP s)=W
 simp (maxSteps:=2000000) only [ir73,nt73,rs73,go_sem,↓runOp,↓reduceIte,Nat.reduceLT,Nat.reduceAdd,Nat.reduceEqDiff,reduceCtorEq,stP,stO,stC,Tn.enc]
 refine draw_vc (by kernel_rfl) (mkTab_ok _ _) (of_decide_eq_true rfl) (of_decide_eq_true rfl) ?_
 repeat (first | simp (maxSteps:=2000000) only [go_sem,↓runOp,↓gateD,↓runD,↓reduceIte,Nat.reduceLT,Nat.reduceEqDiff,reduceCtorEq,bfC] | rw [dr_cons])
 refine And.intro ⟨hk,Nat.le_refl _⟩ (And.intro hk ?_)
 refine loopI (ι:={ i:Nat // i≤(s.bufs.getD k []).length∧∀ j,j<i→hitB o addr ((s.bufs.getD k []).getD j pd0)=false }) (fun i=>⟨56,[(0,.c (.v (.int .i64 o))),(1,.c (.ptr (5,0,0) 0)),(5,.c (.ptr (11,0,0) 0)),(7,.c (.sl (10,k,0) 2 0 (s.bufs.getD k []).length none)),(18,.c (.sl (10,k,0) 2 0 (s.bufs.getD k []).length none)),(19,.c (.v (.int .i64 (s.bufs.getD k []).length))),(20,.c (.v (.int .i64 (i.1:Nat))))],
  stP s++[(11,.one (.bk [.v (.int .i64 k),.v (.bool b),.v (.int .i64 addr)] 44))],[],[AgF 11 E],12⟩)
  (fun i=>(s.bufs.getD k []).length - i.1) ⟨0,by omega,fun j h=>by omega⟩ ?_ ?_
 ·exact le_renF id rfl (facts_id List.mem_cons_self (show 11≤12 by decide) fun _ _=>rfl) (by simp [TmpsLe,look,SV.ren,SC.ren,idσ,SV.okN,SC.okN]) (ownLe_app (stP_le (fun i h=>Nat.lt_succ_of_lt h) (fun _ _=>rfl) rfl rfl rfl rfl rfl rfl) (by simp [OwnLe,BlkLeO,BlkLe,atN,look,Fm.get,idσ,SC.renL,SC.ren,SC.okL,SC.okN])) trivial (of_decide_eq_true rfl)
 rintro ⟨i,hi,hij⟩
 simp (maxSteps:=2000000) only [go_sem,↓condS,↓exitS,↓gateS,↓runOp,↓reduceIte,Nat.reduceLT,Nat.reduceLeDiff,Nat.reduceAdd,Nat.reduceEqDiff,reduceCtorEq,stP,stO,stC,bfO,ats,Pd.enc]
 refine both (fun hlt=>?_) (fun hge=>?_)
 ·rw [decide_eq_true_eq] at hlt
  have hlt:i<(s.bufs.getD k []).length:=by omega
  have ho:o≠1:=fun e=>by have:=hsc e;rw [this] at hlt;simp at hlt
  have hp:=hpd _ (getD_memE (d:=pd0) hlt)
  have hht:∀ q:Pd,(if (o == 3)=true then (q.addr != addr) else false) = !(hitB o addr q):=fun q=>by
   unfold hitB
   by_cases e1:o=3 <;> by_cases e2:q.addr=addr <;> simp [e1,e2]
  rw [hht]
  generalize hpi:(s.bufs.getD k []).getD i pd0=pi at hp
  refine And.intro ⟨hk,hlt,Nat.le_refl _⟩ (And.intro ⟨hk,hlt⟩ (both (fun hh=>?_) (fun hh=>?_)))
  ·have hh:hitB o addr pi=false:=by simpa using hh
   rw [wr_succ (by omega)]
   refine backI ⟨i+1,hlt,fun j hj=>?_⟩ (by simp only;omega) (le_renF id rfl (facts_id List.mem_cons_self (show 11≤12 by decide) fun _ _=>rfl) (by simp [TmpsLe,look,SV.ren,SC.ren,idσ,SV.okN,SC.okN]) (ownLe_app (stP_le (fun i h=>Nat.lt_succ_of_lt h) (fun _ _=>rfl) rfl rfl rfl rfl rfl rfl) (by simp [OwnLe,BlkLeO,BlkLe,atN,look,Fm.get,idσ,SC.renL,SC.ren,SC.okL,SC.okN])) trivial (of_decide_eq_true rfl))
   by_cases e:j=i
   ·subst e;rw [hpi];exact hh
   ·exact hij j (by omega)
  ·have hh:hitB o addr pi=true:=by simpa using hh
   have hfi:=fI_some hlt (by rw [hpi];exact hh) (fun j hj=>hij j hj)
   have hout:outS o s k addr=({ s with words:=s.words.set pi.addr.toNat pi.val,bufs:=s.bufs.set k ((s.bufs.getD k []).eraseIdx i) },true):=by
    unfold outS;rw [if_neg ho,hfi];simp only [hpi]
   refine draw_vc (by kernel_rfl) (mkTab_ok _ _) (of_decide_eq_true rfl) (of_decide_eq_true rfl) ?_
   repeat (first | simp (maxSteps:=2000000) only [go_sem,↓gateD,↓runD,↓reduceIte,Nat.reduceLT,Nat.reduceLeDiff,Nat.reduceEqDiff,eI,ats] | rw [dr_cons])
   repeat (with_reducible refine And.intro (by first | omega | (simp only [maxLen];omega) | (simp;done) | (simp;omega)) ?_)
   have hwr:IntKind.i64.wrap ((i:Int)+1)=(i:Int)+1:=wrI (by omega)
   refine draw_vc (by kernel_rfl) (mkTab_ok _ _) (of_decide_eq_true rfl) (of_decide_eq_true rfl) ?_
   repeat (first | simp (maxSteps:=2000000) only [go_sem,↓gateD,↓runD,↓reduceIte,Nat.reduceLT,Nat.reduceEqDiff,hwr] | rw [dr_cons])
   repeat (with_reducible refine And.intro (by first | omega | (simp only [maxLen];omega) | (simp;done) | (simp;omega)) ?_)
   refine dcall_intro (dele_cr (i:=i) (l:=s.bufs.getD k []) rfl hk hlt rfl rfl rfl) rfl trivial ?_ ?_ ?_
   ·simp (maxSteps:=2000000) only [go_sem,↓reduceIte,Nat.reduceLT,Nat.reduceLeDiff,Nat.reduceEqDiff,wrOk]
    exact Or.inr trivial
   ·intro q hq _
    simp only [keysL,List.mem_cons,List.not_mem_nil,or_false] at hq
    subst hq
    rfl
   repeat (first | simp (maxSteps:=2000000) only [go_sem,↓runOp,↓gateD,↓runD,↓reduceIte,Nat.reduceLT,Nat.reduceLeDiff,Nat.reduceEqDiff,bfC] | rw [dr_cons])
   repeat (with_reducible refine And.intro (by first | omega | (simp only [maxLen];omega) | (simp;done) | (simp;omega)) ?_)
   have hel:((s.bufs.getD k []).eraseIdx i).length=(s.bufs.getD k []).length - 1:=by rw [List.length_eraseIdx,if_pos hlt]
   have e6:∀ e,e<s.words.length→setAt pi.addr.toNat (ats eI s.words 0) [.v (.int .i64 pi.val)] e=ats eI (s.words.set pi.addr.toNat pi.val) 0 e:=fun e _=>congrFun (set_atsT (enc:=eI) (c:=pi.val) (show pi.addr.toNat<s.words.length by omega)) e
   rw [← hR,← hW,hout]
   refine retTurnL (s0:=s) (fun e=>(10,e,0)) List.mem_cons_self (fun E E'=>by simp [SV.den,SC.den]) (by simp) rfl rfl (by simp) rfl rfl e6 rfl (fun _ _=>rfl) rfl (fun _ _=>rfl) rfl (fun e he=>?_) (fun e he=>?_) (fun e e' _ _ h=>by simpa using h) (fun e _=>Nat.le_refl _)
   ·simp only [setAt,getD_setE]
    by_cases hek:e=k
    ·subst hek;rw [if_pos rfl,if_pos ⟨rfl,he⟩,hel]
    ·rw [if_neg hek,if_neg (fun q=>hek q.1.symm)];rfl
   ·simp only [getD_setE]
    by_cases hek:e=k
    ·subst hek
     rw [if_pos ⟨rfl,he⟩]
     exact ⟨(s.bufs.getD e []).length - 1,ats Pd.enc ((s.bufs.getD e []).eraseIdx i) pd0,by simp [atN,look,Fm.get,he],by omega,fun _ _=>rfl⟩
    ·rw [if_neg (fun q=>hek q.1.symm)]
     exact ⟨(s.bufs.getD e []).length,ats Pd.enc (s.bufs.getD e []) pd0,by simp [atN,look,Fm.get,he,hek,bfO],Nat.le_refl _,fun _ _=>rfl⟩
 ·rw [decide_eq_false_iff_not] at hge
  have hout:outS o s k addr=(s,false):=by
   unfold outS
   by_cases ho:o=1
   ·rw [if_pos ho]
   ·rw [if_neg ho,fI_none fun j hj=>hij j (by omega)]
  rw [← hR,← hW,hout]
  exact retTurn0 List.mem_cons_self (fun E E'=>by simp [SV.den,SC.den]) rfl rfl rfl rfl rfl rfl
end Go.Proofs.Ytmcpdafmkkjlcaa.Z
namespace Go.Proofs.Ytmcpdafmkkjlcaa.Z
open Go Go.RowKit
theorem ats_pd (xs:List Pd) (d:Pd) (e:Nat):ats Pd.enc xs d e=[.v (.int .i64 (xs.getD e d).addr),.v (.int .i64 (xs.getD e d).val)]:=rfl
theorem take_pd {l:List Pd} {i:Nat} (h:i<l.length):l.take (i+1)=l.take i++[l.getD i pd0]:=by
 rw [List.take_succ_eq_append_getElem h,List.getD_eq_getElem?_getD,List.getElem?_eq_getElem h];rfl
def ir40_44:IR:=(.cond (.t 44) (.seq (.ops [⟨(some 8),(.mv (.k (.c (.v (.bool false))))),none⟩]) (.kill [1,2,7,9,10,44] .ret)) .skip)
def ir40:IR:=(.seq (.ops [⟨(some 4),(.box 25 (.t 0)),none⟩,⟨(some 7),(.box 44 (.t 3)),none⟩,⟨(some 8),(.mv (.k (.c (.v (.bool false))))),none⟩]) (.kill [0,3,5,6,8,9,10,11] (.seq (.seq (.ops [⟨(some 14),(.fa 0 (.t 7)),none⟩,⟨(some 15),(.ld false 1 (.t 14)),none⟩,⟨(some 16),(.fa 1 (.t 4)),none⟩,⟨(some 17),(.ld false 1 (.t 16)),none⟩,⟨(some 18),(.len (.t 17)),none⟩,⟨(some 19),(.call 72 [(.t 15),(.t 18)]),none⟩,⟨(some 20),(.un .not (.t 19)),none⟩]) (.kill [14,15,16,17,18,19] (.cond (.t 20) (.seq (.ops [⟨(some 8),(.mv (.k (.c (.v (.bool false))))),none⟩]) (.kill [1,2,4,7,20] .ret)) .skip))) (.kill [8,20] (.seq (.seq (.ops [⟨(some 21),(.fa 1 (.t 7)),none⟩,⟨(some 22),(.ld false 1 (.t 21)),none⟩]) (.kill [21] (.cond (.t 22) (.seq (.ops [⟨(some 23),(.mv (.t 1)),none⟩,⟨(some 24),(.mv (.t 2)),none⟩,⟨(some 25),(.ld true 3 (.t 7)),none⟩,⟨(some 26),(.call 73 [(.t 23),(.t 24),(.t 25)]),none⟩,⟨(some 8),(.mv (.t 26)),none⟩]) (.kill [1,2,4,7,22,23,24,25,26] .ret)) .skip))) (.kill [8,22] (.seq (.ops [⟨(some 27),(.fa 1 (.t 4)),none⟩,⟨(some 28),(.ld false 1 (.t 27)),none⟩,⟨(some 29),(.fa 0 (.t 7)),none⟩,⟨(some 30),(.ld false 1 (.t 29)),none⟩,⟨(some 31),(.ia 1 (.t 28) (.t 30)),none⟩,⟨(some 32),(.ld false 1 (.t 31)),none⟩,⟨(some 9),(.mv (.t 32)),none⟩]) (.kill [4,27,28,29,30,31,32] (.seq (.draw [(⟨(some 33),(.mv (.t 2)),none⟩,([],[37,38])),(⟨(some 34),(.nilck (.t 33)),none⟩,([],[37,38])),(⟨(some 35),(.fa 2 (.t 34)),none⟩,([],[37,38])),(⟨(some 36),(.ld false 1 (.t 35)),none⟩,([],[37,38])),(⟨(some 37),(.fa 0 (.t 7)),none⟩,([0,1,2,3],[33,34,35,36])),(⟨(some 38),(.ld false 1 (.t 37)),none⟩,([0,1,2,3],[33,34,35,36])),(⟨(some 39),(.ia 1 (.t 36) (.t 38)),none⟩,([],[])),(⟨(some 40),(.ld false 1 (.t 39)),none⟩,([],[])),(⟨(some 10),(.mv (.t 40)),none⟩,([],[]))]) (.kill [33,34,35,36,37,38,39,40] (.seq (.seq (.ops [⟨(some 41),(.mv (.t 10)),none⟩,⟨(some 42),(.mv (.t 9)),none⟩,⟨(some 43),(.len (.t 42)),none⟩,⟨(some 44),(.bin .geq (.t 41) (.t 43)),none⟩]) (.kill [41,42,43] ir40_44)) (.kill [8,44] (.seq (.ops [⟨(some 45),(.mv (.t 9)),none⟩,⟨(some 46),(.mv (.t 10)),none⟩,⟨(some 47),(.ia 7 (.t 45) (.t 46)),none⟩,⟨(some 48),(.ld true 7 (.t 47)),none⟩,⟨(some 11),(.new 83 [(.v (.int .i64 0)),(.v (.int .i64 0)),(.v (.int .i64 0)),(.v (.int .i64 0)),(.v (.int .i64 0)),(.v (.int .i64 0)),(.v (.int .i64 0))]),none⟩,⟨none,(.st 7 (.t 11) (.t 48)),none⟩]) (.kill [10,45,46,47,48] (.seq (.ops [⟨(some 49),(.mv (.t 2)),none⟩,⟨(some 50),(.ld true 7 (.t 11)),none⟩,⟨(some 51),(.fa 0 (.t 7)),none⟩,⟨(some 52),(.ld false 1 (.t 51)),none⟩,⟨(some 53),(.mv (.t 1)),none⟩,⟨(some 54),(.bin .neq (.t 53) (.k (.c (.v (.int .i64 1))))),none⟩,⟨(some 55),(.build [(.v (.pointer none)),(.v (.int .i64 0)),(.v (.int .i64 0)),(.v (.int .i64 0)),(.v (.int .i64 0)),(.v (.int .i64 0)),(.v (.int .i64 0)),(.v (.int .i64 0)),(.v (.int .i64 0)),(.v (.bool false))] [(0,(1,(.t 49))),(1,(7,(.t 50))),(8,(1,(.t 52))),(9,(1,(.t 54)))]),none⟩,⟨(some 56),(.box 127 (.t 55)),none⟩,⟨(some 12),(.mv (.t 56)),none⟩]) (.kill [1,49,50,51,52,53,54,55,56] (.seq (.ops [⟨(some 57),(.mv (.t 12)),none⟩,⟨(some 58),(.mfn (.func 74) [(.t 57)] []),none⟩,⟨(some 59),(.mv (.t 12)),none⟩,⟨(some 60),(.mfn (.func 75) [(.t 59)] []),none⟩,⟨(some 61),(.mv (.t 12)),none⟩,⟨(some 62),(.mfn (.func 76) [(.t 61)] []),none⟩,⟨(some 63),(.mv (.t 12)),none⟩,⟨(some 64),(.mfn (.func 77) [(.t 63)] []),none⟩,⟨(some 65),(.mv (.t 12)),none⟩,⟨(some 66),(.mfn (.func 78) [(.t 65)] []),none⟩,⟨(some 67),(.mv (.t 12)),none⟩,⟨(some 68),(.mfn (.func 79) [(.t 67)] []),none⟩,⟨(some 69),(.mv (.t 12)),none⟩,⟨(some 70),(.mfn (.func 80) [(.t 69)] []),none⟩,⟨(some 71),(.build [(.v .nilFunc),(.v .nilFunc),(.v .nilFunc),(.v .nilFunc),(.v .nilFunc),(.v .nilFunc),(.v .nilFunc),(.v .nilFunc)] [(1,(1,(.t 58))),(2,(1,(.t 60))),(3,(1,(.t 62))),(4,(1,(.t 64))),(5,(1,(.t 66))),(6,(1,(.t 68))),(7,(1,(.t 70)))]),none⟩,⟨(some 13),(.new 128 [(.v .nilFunc),(.v .nilFunc),(.v .nilFunc),(.v .nilFunc),(.v .nilFunc),(.v .nilFunc),(.v .nilFunc),(.v .nilFunc)]),none⟩,⟨none,(.st 8 (.t 13) (.t 71)),none⟩]) (.kill [12,57,58,59,60,61,62,63,64,65,66,67,68,69,70,71] (.seq (.seq (.ops [⟨(some 72),(.fa 0 (.t 11)),none⟩,⟨(some 73),(.ld false 1 (.t 72)),none⟩,⟨(some 74),(.iar 8 1 (.t 13) (.t 73)),none⟩,⟨(some 75),(.ld false 1 (.t 74)),none⟩,⟨(some 76),(.callv (.t 75) []),none⟩,⟨(some 77),(.un .not (.t 76)),none⟩]) (.kill [11,13,72,73,74,75,76] (.cond (.t 77) (.seq (.ops [⟨(some 8),(.mv (.k (.c (.v (.bool false))))),none⟩]) (.kill [2,7,9,77] .ret)) .skip))) (.kill [8,77] (.seq (.draw [(⟨(some 78),(.mv (.t 2)),none⟩,([],[82,83,84,85,86,87,88,89,90,91,92,93,94,95])),(⟨(some 79),(.nilck (.t 78)),none⟩,([],[82,83,84,85,86,87,88,89,90,91,92,93,94,95])),(⟨(some 80),(.fa 2 (.t 79)),none⟩,([],[82,83,84,85,86,87,88,89,90,91,92,93,94,95])),(⟨(some 81),(.ld false 1 (.t 80)),none⟩,([],[82,83,84,85,86,87,88,89,90,91,92,93,94,95])),(⟨(some 82),(.fa 0 (.t 7)),none⟩,([0,1,2,3],[78,79,80,81,84,85,86,87,88,89,90,91,92,93,94,95])),(⟨(some 83),(.ld false 1 (.t 82)),none⟩,([0,1,2,3],[78,79,80,81,84,85,86,87,88,89,90,91,92,93,94,95])),(⟨(some 84),(.mv (.t 2)),none⟩,([0,1,2,3,4,5],[78,79,80,81,82,83,88,89,93,94])),(⟨(some 85),(.nilck (.t 84)),none⟩,([0,1,2,3,4,5],[78,79,80,81,82,83,88,89,93,94])),(⟨(some 86),(.fa 2 (.t 85)),none⟩,([0,1,2,3,4,5],[78,79,80,81,82,83,88,89,93,94])),(⟨(some 87),(.ld false 1 (.t 86)),none⟩,([0,1,2,3,4,5],[78,79,80,81,82,83,88,89,93,94])),(⟨(some 88),(.fa 0 (.t 7)),none⟩,([0,1,2,3,4,5,6,7,8,9],[78,79,80,81,82,83,84,85,86,87,93,94])),(⟨(some 89),(.ld false 1 (.t 88)),none⟩,([0,1,2,3,4,5,6,7,8,9],[78,79,80,81,82,83,84,85,86,87,93,94])),(⟨(some 90),(.ia 1 (.t 87) (.t 89)),none⟩,([0,1,2,3,4,5],[78,79,80,81,82,83,93,94])),(⟨(some 91),(.ld false 1 (.t 90)),none⟩,([0,1,2,3,4,5],[78,79,80,81,82,83,93,94])),(⟨(some 92),(.bin .add (.t 91) (.k (.c (.v (.int .i64 1))))),none⟩,([0,1,2,3,4,5],[78,79,80,81,82,83,93,94])),(⟨(some 93),(.mv (.t 9)),none⟩,([0,1,2,3,4,5,6,7,8,9,10,11,12,13,14],[78,79,80,81,82,83,84,85,86,87,88,89,90,91,92])),(⟨(some 94),(.len (.t 93)),none⟩,([0,1,2,3,4,5,6,7,8,9,10,11,12,13,14],[78,79,80,81,82,83,84,85,86,87,88,89,90,91,92])),(⟨(some 95),(.mm false (.t 92) (.t 94)),none⟩,([0,1,2,3,4,5],[78,79,80,81,82,83])),(⟨(some 96),(.ia 1 (.t 81) (.t 83)),none⟩,([],[])),(⟨none,(.st 1 (.t 96) (.t 95)),none⟩,([],[]))]) (.kill [2,7,9,78,79,80,81,82,83,84,85,86,87,88,89,90,91,92,93,94,95,96] (.seq (.ops [⟨(some 8),(.mv (.k (.c (.v (.bool true))))),none⟩]) .ret)))))))))))))))))))))))
def rs40:List RS:=[(.t 8)]
def nt40:Nat:=97
def ir74:IR:=(.seq (.ops [⟨(some 2),(.mv (.k (.c (.v (.bool false))))),none⟩]) (.kill [1,2,3,4,5,6,7,8,9,10,11] (.seq (.draw [(⟨(some 5),(.mv (.t 0)),none⟩,([],[7,8,9,10,11,12,13,14,15,16,17,18,19,20])),(⟨(some 6),(.call 95 [(.t 5)]),none⟩,([],[7,8,9,10,11,12,13,14,15,16,17,18,19,20])),(⟨(some 7),(.mv (.t 0)),none⟩,([0,1],[5,6,14,15,16,17,18])),(⟨(some 8),(.nilck (.t 7)),none⟩,([0,1],[5,6,14,15,16,17,18])),(⟨(some 9),(.fa 0 (.t 8)),none⟩,([0,1],[5,6,14,15,16,17,18])),(⟨(some 10),(.ld false 1 (.t 9)),none⟩,([0,1],[5,6,14,15,16,17,18])),(⟨(some 11),(.nilck (.t 10)),none⟩,([0,1],[5,6,14,15,16,17,18])),(⟨(some 12),(.fa 0 (.t 11)),none⟩,([0,1],[5,6,14,15,16,17,18])),(⟨(some 13),(.ld false 1 (.t 12)),none⟩,([0,1],[5,6,14,15,16,17,18])),(⟨(some 14),(.mv (.t 0)),none⟩,([0,1,2,3,4,5,6,7,8],[5,6,7,8,9,10,11,12,13])),(⟨(some 15),(.nilck (.t 14)),none⟩,([0,1,2,3,4,5,6,7,8],[5,6,7,8,9,10,11,12,13])),(⟨(some 16),(.fa 1 (.t 15)),none⟩,([0,1,2,3,4,5,6,7,8],[5,6,7,8,9,10,11,12,13])),(⟨(some 17),(.fa 2 (.t 16)),none⟩,([0,1,2,3,4,5,6,7,8],[5,6,7,8,9,10,11,12,13])),(⟨(some 18),(.ld false 1 (.t 17)),none⟩,([0,1,2,3,4,5,6,7,8],[5,6,7,8,9,10,11,12,13])),(⟨(some 19),(.ia 1 (.t 13) (.t 18)),none⟩,([0,1],[5,6])),(⟨(some 20),(.ld false 1 (.t 19)),none⟩,([0,1],[5,6])),(⟨(some 21),(.nilck (.t 6)),none⟩,([],[])),(⟨none,(.st 1 (.t 21) (.t 20)),none⟩,([],[]))]) (.kill [5,6,7,8,9,10,11,12,13,14,15,16,17,18,19,20,21] (.seq (.seq (.draw [(⟨(some 22),(.mv (.t 0)),none⟩,([],[29,30,31,32,36])),(⟨(some 23),(.nilck (.t 22)),none⟩,([],[29,30,31,32,36])),(⟨(some 24),(.fa 0 (.t 23)),none⟩,([],[29,30,31,32,36])),(⟨(some 25),(.ld false 1 (.t 24)),none⟩,([],[29,30,31,32,36])),(⟨(some 26),(.nilck (.t 25)),none⟩,([],[29,30,31,32,36])),(⟨(some 27),(.fa 3 (.t 26)),none⟩,([],[29,30,31,32,36])),(⟨(some 28),(.ld false 1 (.t 27)),none⟩,([],[29,30,31,32,36])),(⟨(some 29),(.mv (.t 0)),none⟩,([0,1,2,3,4,5,6],[22,23,24,25,26,27,28,36])),(⟨(some 30),(.nilck (.t 29)),none⟩,([0,1,2,3,4,5,6],[22,23,24,25,26,27,28,36])),(⟨(some 31),(.fa 8 (.t 30)),none⟩,([0,1,2,3,4,5,6],[22,23,24,25,26,27,28,36])),(⟨(some 32),(.ld false 1 (.t 31)),none⟩,([0,1,2,3,4,5,6],[22,23,24,25,26,27,28,36])),(⟨(some 33),(.ia 1 (.t 28) (.t 32)),none⟩,([],[36])),(⟨(some 34),(.ld false 1 (.t 33)),none⟩,([],[36])),(⟨(some 35),(.len (.t 34)),none⟩,([],[36])),(⟨(some 36),(.mv (.k (.c (.v (.int .i64 0))))),none⟩,([0,1,2,3,4,5,6,7,8,9,10,11,12,13],[22,23,24,25,26,27,28,29,30,31,32,33,34,35]))]) (.kill [22,23,24,25,26,27,28,29,30,31,32,33] (.blk 0 (.loop (.seq (.ops [⟨(some 37),(.bin .lss (.t 36) (.t 35)),none⟩]) (.kill [4,38,39,40,41,42,43,44,45,46,47,48,49,50,51,52,53] (.seq (.cond (.t 37) .skip (.exit 0)) (.kill [37] (.seq (.blk 1 (.seq (.ops [⟨(some 38),(.ia 2 (.t 34) (.t 36)),none⟩,⟨(some 39),(.ld true 2 (.t 38)),none⟩,⟨(some 4),(.new 88 [(.v (.int .i64 0)),(.v (.int .i64 0))]),none⟩,⟨none,(.st 2 (.t 4) (.t 39)),none⟩]) (.kill [38,39] (.seq (.draw [(⟨(some 40),(.fa 0 (.t 4)),none⟩,([],[42,43,44,45,46])),(⟨(some 41),(.ld false 1 (.t 40)),none⟩,([],[42,43,44,45,46])),(⟨(some 42),(.mv (.t 0)),none⟩,([0,1],[40,41])),(⟨(some 43),(.nilck (.t 42)),none⟩,([0,1],[40,41])),(⟨(some 44),(.fa 1 (.t 43)),none⟩,([0,1],[40,41])),(⟨(some 45),(.fa 2 (.t 44)),none⟩,([0,1],[40,41])),(⟨(some 46),(.ld false 1 (.t 45)),none⟩,([0,1],[40,41])),(⟨(some 47),(.bin .eql (.t 41) (.t 46)),none⟩,([],[]))]) (.kill [40,41,42,43,44,45,46] (.cond (.t 47) (.draw [(⟨(some 48),(.mv (.t 0)),none⟩,([],[50,51])),(⟨(some 49),(.call 95 [(.t 48)]),none⟩,([],[50,51])),(⟨(some 50),(.fa 1 (.t 4)),none⟩,([0,1],[48,49])),(⟨(some 51),(.ld false 1 (.t 50)),none⟩,([0,1],[48,49])),(⟨(some 52),(.nilck (.t 49)),none⟩,([],[])),(⟨none,(.st 1 (.t 52) (.t 51)),none⟩,([],[]))]) .skip)))))) (.kill [4,38,39,40,41,42,43,44,45,46,47,48,49,50,51,52] (.ops [⟨(some 53),(.bin .add (.t 36) (.k (.c (.v (.int .i64 1))))),none⟩,⟨(some 36),(.mv (.t 53)),none⟩]))))))))))) (.kill [0,4,34,35,36,37,38,39,40,41,42,43,44,45,46,47,48,49,50,51,52,53] (.seq (.ops [⟨(some 2),(.mv (.k (.c (.v (.bool true))))),none⟩]) .ret)))))))
def rs74:List RS:=[(.t 2)]
def nt74:Nat:=54
def ir75:IR:=(.seq (.ops [⟨(some 2),(.mv (.k (.c (.v (.bool false))))),none⟩]) (.kill [1,2,3,4,5,6,7,8,9,10,11] (.seq (.ops [⟨(some 4),(.mv (.t 0)),none⟩,⟨(some 5),(.nilck (.t 4)),none⟩,⟨(some 6),(.fa 1 (.t 5)),none⟩,⟨(some 7),(.fa 3 (.t 6)),none⟩,⟨(some 8),(.ld false 1 (.t 7)),none⟩,⟨(some 3),(.mv (.t 8)),none⟩]) (.kill [4,5,6,7,8] (.seq (.seq (.ops [⟨(some 9),(.mv (.t 0)),none⟩,⟨(some 10),(.nilck (.t 9)),none⟩,⟨(some 11),(.fa 1 (.t 10)),none⟩,⟨(some 12),(.fa 4 (.t 11)),none⟩,⟨(some 13),(.ld false 1 (.t 12)),none⟩,⟨(some 14),(.bin .geq (.t 13) (.k (.c (.v (.int .i64 0))))),none⟩]) (.kill [9,10,11,12,13] (.cond (.t 14) (.draw [(⟨(some 15),(.mv (.t 0)),none⟩,([],[22,23,24,25,26,27,28,29,30])),(⟨(some 16),(.nilck (.t 15)),none⟩,([],[22,23,24,25,26,27,28,29,30])),(⟨(some 17),(.fa 0 (.t 16)),none⟩,([],[22,23,24,25,26,27,28,29,30])),(⟨(some 18),(.ld false 1 (.t 17)),none⟩,([],[22,23,24,25,26,27,28,29,30])),(⟨(some 19),(.nilck (.t 18)),none⟩,([],[22,23,24,25,26,27,28,29,30])),(⟨(some 20),(.fa 1 (.t 19)),none⟩,([],[22,23,24,25,26,27,28,29,30])),(⟨(some 21),(.ld false 1 (.t 20)),none⟩,([],[22,23,24,25,26,27,28,29,30])),(⟨(some 22),(.mv (.t 0)),none⟩,([0,1,2,3,4,5,6],[15,16,17,18,19,20,21,26,27,28,29,30])),(⟨(some 23),(.nilck (.t 22)),none⟩,([0,1,2,3,4,5,6],[15,16,17,18,19,20,21,26,27,28,29,30])),(⟨(some 24),(.fa 8 (.t 23)),none⟩,([0,1,2,3,4,5,6],[15,16,17,18,19,20,21,26,27,28,29,30])),(⟨(some 25),(.ld false 1 (.t 24)),none⟩,([0,1,2,3,4,5,6],[15,16,17,18,19,20,21,26,27,28,29,30])),(⟨(some 26),(.mv (.t 0)),none⟩,([0,1,2,3,4,5,6,7,8,9,10],[15,16,17,18,19,20,21,22,23,24,25,31])),(⟨(some 27),(.nilck (.t 26)),none⟩,([0,1,2,3,4,5,6,7,8,9,10],[15,16,17,18,19,20,21,22,23,24,25,31])),(⟨(some 28),(.fa 1 (.t 27)),none⟩,([0,1,2,3,4,5,6,7,8,9,10],[15,16,17,18,19,20,21,22,23,24,25,31])),(⟨(some 29),(.fa 4 (.t 28)),none⟩,([0,1,2,3,4,5,6,7,8,9,10],[15,16,17,18,19,20,21,22,23,24,25,31])),(⟨(some 30),(.ld false 1 (.t 29)),none⟩,([0,1,2,3,4,5,6,7,8,9,10],[15,16,17,18,19,20,21,22,23,24,25,31])),(⟨(some 31),(.ia 4 (.t 21) (.t 25)),none⟩,([11,12,13,14,15],[26,27,28,29,30])),(⟨(some 32),(.iar 4 1 (.t 31) (.t 30)),none⟩,([],[])),(⟨(some 33),(.ld false 1 (.t 32)),none⟩,([],[])),(⟨(some 3),(.mv (.t 33)),none⟩,([],[]))]) .skip))) (.kill [14,15,16,17,18,19,20,21,22,23,24,25,26,27,28,29,30,31,32,33] (.seq (.seq (.ops [⟨(some 34),(.mv (.t 0)),none⟩,⟨(some 35),(.nilck (.t 34)),none⟩,⟨(some 36),(.fa 9 (.t 35)),none⟩,⟨(some 37),(.ld false 1 (.t 36)),none⟩]) (.kill [34,35,36] (.cond (.t 37) (.draw [(⟨(some 38),(.mv (.t 0)),none⟩,([],[45,46,47,48,49,50,51,52,53,54,55,56,57,58,59,60,61,62,63,64,65,66,67,68,69,70])),(⟨(some 39),(.nilck (.t 38)),none⟩,([],[45,46,47,48,49,50,51,52,53,54,55,56,57,58,59,60,61,62,63,64,65,66,67,68,69,70])),(⟨(some 40),(.fa 0 (.t 39)),none⟩,([],[45,46,47,48,49,50,51,52,53,54,55,56,57,58,59,60,61,62,63,64,65,66,67,68,69,70])),(⟨(some 41),(.ld false 1 (.t 40)),none⟩,([],[45,46,47,48,49,50,51,52,53,54,55,56,57,58,59,60,61,62,63,64,65,66,67,68,69,70])),(⟨(some 42),(.nilck (.t 41)),none⟩,([],[45,46,47,48,49,50,51,52,53,54,55,56,57,58,59,60,61,62,63,64,65,66,67,68,69,70])),(⟨(some 43),(.fa 3 (.t 42)),none⟩,([],[45,46,47,48,49,50,51,52,53,54,55,56,57,58,59,60,61,62,63,64,65,66,67,68,69,70])),(⟨(some 44),(.ld false 1 (.t 43)),none⟩,([],[45,46,47,48,49,50,51,52,53,54,55,56,57,58,59,60,61,62,63,64,65,66,67,68,69,70])),(⟨(some 45),(.mv (.t 0)),none⟩,([0,1,2,3,4,5,6],[38,39,40,41,42,43,44,49,50,51,52,53,54,55,56,57,58,59,60,61,62,63,64,65,66,67,68,69,70])),(⟨(some 46),(.nilck (.t 45)),none⟩,([0,1,2,3,4,5,6],[38,39,40,41,42,43,44,49,50,51,52,53,54,55,56,57,58,59,60,61,62,63,64,65,66,67,68,69,70])),(⟨(some 47),(.fa 8 (.t 46)),none⟩,([0,1,2,3,4,5,6],[38,39,40,41,42,43,44,49,50,51,52,53,54,55,56,57,58,59,60,61,62,63,64,65,66,67,68,69,70])),(⟨(some 48),(.ld false 1 (.t 47)),none⟩,([0,1,2,3,4,5,6],[38,39,40,41,42,43,44,49,50,51,52,53,54,55,56,57,58,59,60,61,62,63,64,65,66,67,68,69,70])),(⟨(some 49),(.mv (.t 0)),none⟩,([0,1,2,3,4,5,6,7,8,9,10],[38,39,40,41,42,43,44,45,46,47,48,56,57,58,59,62,63,64,65,66,67,68,69])),(⟨(some 50),(.nilck (.t 49)),none⟩,([0,1,2,3,4,5,6,7,8,9,10],[38,39,40,41,42,43,44,45,46,47,48,56,57,58,59,62,63,64,65,66,67,68,69])),(⟨(some 51),(.fa 0 (.t 50)),none⟩,([0,1,2,3,4,5,6,7,8,9,10],[38,39,40,41,42,43,44,45,46,47,48,56,57,58,59,62,63,64,65,66,67,68,69])),(⟨(some 52),(.ld false 1 (.t 51)),none⟩,([0,1,2,3,4,5,6,7,8,9,10],[38,39,40,41,42,43,44,45,46,47,48,56,57,58,59,62,63,64,65,66,67,68,69])),(⟨(some 53),(.nilck (.t 52)),none⟩,([0,1,2,3,4,5,6,7,8,9,10],[38,39,40,41,42,43,44,45,46,47,48,56,57,58,59,62,63,64,65,66,67,68,69])),(⟨(some 54),(.fa 3 (.t 53)),none⟩,([0,1,2,3,4,5,6,7,8,9,10],[38,39,40,41,42,43,44,45,46,47,48,56,57,58,59,62,63,64,65,66,67,68,69])),(⟨(some 55),(.ld false 1 (.t 54)),none⟩,([0,1,2,3,4,5,6,7,8,9,10],[38,39,40,41,42,43,44,45,46,47,48,56,57,58,59,62,63,64,65,66,67,68,69])),(⟨(some 56),(.mv (.t 0)),none⟩,([0,1,2,3,4,5,6,7,8,9,10,11,12,13,14,15,16,17],[38,39,40,41,42,43,44,45,46,47,48,49,50,51,52,53,54,55,62,63,64,65,66,67,68,69])),(⟨(some 57),(.nilck (.t 56)),none⟩,([0,1,2,3,4,5,6,7,8,9,10,11,12,13,14,15,16,17],[38,39,40,41,42,43,44,45,46,47,48,49,50,51,52,53,54,55,62,63,64,65,66,67,68,69])),(⟨(some 58),(.fa 8 (.t 57)),none⟩,([0,1,2,3,4,5,6,7,8,9,10,11,12,13,14,15,16,17],[38,39,40,41,42,43,44,45,46,47,48,49,50,51,52,53,54,55,62,63,64,65,66,67,68,69])),(⟨(some 59),(.ld false 1 (.t 58)),none⟩,([0,1,2,3,4,5,6,7,8,9,10,11,12,13,14,15,16,17],[38,39,40,41,42,43,44,45,46,47,48,49,50,51,52,53,54,55,62,63,64,65,66,67,68,69])),(⟨(some 60),(.ia 1 (.t 55) (.t 59)),none⟩,([0,1,2,3,4,5,6,7,8,9,10],[38,39,40,41,42,43,44,45,46,47,48,62,63,64,65,66,67,68,69])),(⟨(some 61),(.ld false 1 (.t 60)),none⟩,([0,1,2,3,4,5,6,7,8,9,10],[38,39,40,41,42,43,44,45,46,47,48,62,63,64,65,66,67,68,69])),(⟨(some 62),(.mv (.t 0)),none⟩,([0,1,2,3,4,5,6,7,8,9,10,11,12,13,14,15,16,17,18,19,20,21,22,23],[38,39,40,41,42,43,44,45,46,47,48,49,50,51,52,53,54,55,56,57,58,59,60,61,67])),(⟨(some 63),(.nilck (.t 62)),none⟩,([0,1,2,3,4,5,6,7,8,9,10,11,12,13,14,15,16,17,18,19,20,21,22,23],[38,39,40,41,42,43,44,45,46,47,48,49,50,51,52,53,54,55,56,57,58,59,60,61,67])),(⟨(some 64),(.fa 1 (.t 63)),none⟩,([0,1,2,3,4,5,6,7,8,9,10,11,12,13,14,15,16,17,18,19,20,21,22,23],[38,39,40,41,42,43,44,45,46,47,48,49,50,51,52,53,54,55,56,57,58,59,60,61,67])),(⟨(some 65),(.fa 2 (.t 64)),none⟩,([0,1,2,3,4,5,6,7,8,9,10,11,12,13,14,15,16,17,18,19,20,21,22,23],[38,39,40,41,42,43,44,45,46,47,48,49,50,51,52,53,54,55,56,57,58,59,60,61,67])),(⟨(some 66),(.ld false 1 (.t 65)),none⟩,([0,1,2,3,4,5,6,7,8,9,10,11,12,13,14,15,16,17,18,19,20,21,22,23],[38,39,40,41,42,43,44,45,46,47,48,49,50,51,52,53,54,55,56,57,58,59,60,61,67])),(⟨(some 67),(.mv (.t 3)),none⟩,([0,1,2,3,4,5,6,7,8,9,10,11,12,13,14,15,16,17,18,19,20,21,22,23,24,25,26,27,28],[38,39,40,41,42,43,44,45,46,47,48,49,50,51,52,53,54,55,56,57,58,59,60,61,62,63,64,65,66])),(⟨(some 68),(.build [(.v (.int .i64 0)),(.v (.int .i64 0))] [(0,(1,(.t 66))),(1,(1,(.t 67)))]),none⟩,([0,1,2,3,4,5,6,7,8,9,10,11,12,13,14,15,16,17,18,19,20,21,22,23],[38,39,40,41,42,43,44,45,46,47,48,49,50,51,52,53,54,55,56,57,58,59,60,61])),(⟨(some 69),(.mkSl 88 1 2 [(.v (.int .i64 0)),(.v (.int .i64 0))] [(0,(2,(.t 68)))]),none⟩,([0,1,2,3,4,5,6,7,8,9,10,11,12,13,14,15,16,17,18,19,20,21,22,23],[38,39,40,41,42,43,44,45,46,47,48,49,50,51,52,53,54,55,56,57,58,59,60,61])),(⟨(some 70),(.app 88 2 16 [(.v (.int .i64 0)),(.v (.int .i64 0))] (.t 61) (.t 69)),none⟩,([0,1,2,3,4,5,6,7,8,9,10],[38,39,40,41,42,43,44,45,46,47,48])),(⟨(some 71),(.ia 1 (.t 44) (.t 48)),none⟩,([],[])),(⟨none,(.st 1 (.t 71) (.t 70)),none⟩,([],[]))]) (.draw [(⟨(some 72),(.mv (.t 0)),none⟩,([],[79,80,81,82,83,84])),(⟨(some 73),(.nilck (.t 72)),none⟩,([],[79,80,81,82,83,84])),(⟨(some 74),(.fa 0 (.t 73)),none⟩,([],[79,80,81,82,83,84])),(⟨(some 75),(.ld false 1 (.t 74)),none⟩,([],[79,80,81,82,83,84])),(⟨(some 76),(.nilck (.t 75)),none⟩,([],[79,80,81,82,83,84])),(⟨(some 77),(.fa 0 (.t 76)),none⟩,([],[79,80,81,82,83,84])),(⟨(some 78),(.ld false 1 (.t 77)),none⟩,([],[79,80,81,82,83,84])),(⟨(some 79),(.mv (.t 0)),none⟩,([0,1,2,3,4,5,6],[72,73,74,75,76,77,78,84])),(⟨(some 80),(.nilck (.t 79)),none⟩,([0,1,2,3,4,5,6],[72,73,74,75,76,77,78,84])),(⟨(some 81),(.fa 1 (.t 80)),none⟩,([0,1,2,3,4,5,6],[72,73,74,75,76,77,78,84])),(⟨(some 82),(.fa 2 (.t 81)),none⟩,([0,1,2,3,4,5,6],[72,73,74,75,76,77,78,84])),(⟨(some 83),(.ld false 1 (.t 82)),none⟩,([0,1,2,3,4,5,6],[72,73,74,75,76,77,78,84])),(⟨(some 84),(.mv (.t 3)),none⟩,([0,1,2,3,4,5,6,7,8,9,10,11],[72,73,74,75,76,77,78,79,80,81,82,83])),(⟨(some 85),(.ia 1 (.t 78) (.t 83)),none⟩,([],[])),(⟨none,(.st 1 (.t 85) (.t 84)),none⟩,([],[]))])))) (.kill [0,3,37,38,39,40,41,42,43,44,45,46,47,48,49,50,51,52,53,54,55,56,57,58,59,60,61,62,63,64,65,66,67,68,69,70,71,72,73,74,75,76,77,78,79,80,81,82,83,84,85] (.seq (.ops [⟨(some 2),(.mv (.k (.c (.v (.bool true))))),none⟩]) .ret)))))))))
def rs75:List RS:=[(.t 2)]
def nt75:Nat:=86
def ir76:IR:=(.seq (.ops [⟨(some 2),(.mv (.k (.c (.v (.bool false))))),none⟩]) (.kill [1,2,3,4,5,6,7,8,9,10,11] (.seq (.seq (.ops [⟨(some 3),(.mv (.t 0)),none⟩,⟨(some 4),(.call 77 [(.t 3)]),none⟩,⟨(some 5),(.un .not (.t 4)),none⟩]) (.kill [3,4] (.cond (.t 5) (.seq (.ops [⟨(some 2),(.mv (.k (.c (.v (.bool false))))),none⟩]) (.kill [0,5] .ret)) .skip))) (.kill [2,5] (.seq (.ops [⟨(some 6),(.mv (.t 0)),none⟩,⟨(some 7),(.call 95 [(.t 6)]),none⟩,⟨(some 8),(.nilck (.t 7)),none⟩,⟨none,(.st 1 (.t 8) (.k (.c (.v (.int .i64 0))))),none⟩]) (.kill [6,7,8] (.seq (.seq (.draw [(⟨(some 9),(.mv (.t 0)),none⟩,([],[16,17,18,19,20,23,24,25,26,27])),(⟨(some 10),(.nilck (.t 9)),none⟩,([],[16,17,18,19,20,23,24,25,26,27])),(⟨(some 11),(.fa 0 (.t 10)),none⟩,([],[16,17,18,19,20,23,24,25,26,27])),(⟨(some 12),(.ld false 1 (.t 11)),none⟩,([],[16,17,18,19,20,23,24,25,26,27])),(⟨(some 13),(.nilck (.t 12)),none⟩,([],[16,17,18,19,20,23,24,25,26,27])),(⟨(some 14),(.fa 0 (.t 13)),none⟩,([],[16,17,18,19,20,23,24,25,26,27])),(⟨(some 15),(.ld false 1 (.t 14)),none⟩,([],[16,17,18,19,20,23,24,25,26,27])),(⟨(some 16),(.mv (.t 0)),none⟩,([0,1,2,3,4,5,6],[9,10,11,12,13,14,15,23,24,25,26,27])),(⟨(some 17),(.nilck (.t 16)),none⟩,([0,1,2,3,4,5,6],[9,10,11,12,13,14,15,23,24,25,26,27])),(⟨(some 18),(.fa 1 (.t 17)),none⟩,([0,1,2,3,4,5,6],[9,10,11,12,13,14,15,23,24,25,26,27])),(⟨(some 19),(.fa 2 (.t 18)),none⟩,([0,1,2,3,4,5,6],[9,10,11,12,13,14,15,23,24,25,26,27])),(⟨(some 20),(.ld false 1 (.t 19)),none⟩,([0,1,2,3,4,5,6],[9,10,11,12,13,14,15,23,24,25,26,27])),(⟨(some 21),(.ia 1 (.t 15) (.t 20)),none⟩,([],[23,24,25,26,27])),(⟨(some 22),(.ld false 1 (.t 21)),none⟩,([],[23,24,25,26,27])),(⟨(some 23),(.mv (.t 0)),none⟩,([0,1,2,3,4,5,6,7,8,9,10,11,12,13],[9,10,11,12,13,14,15,16,17,18,19,20,21,22])),(⟨(some 24),(.nilck (.t 23)),none⟩,([0,1,2,3,4,5,6,7,8,9,10,11,12,13],[9,10,11,12,13,14,15,16,17,18,19,20,21,22])),(⟨(some 25),(.fa 1 (.t 24)),none⟩,([0,1,2,3,4,5,6,7,8,9,10,11,12,13],[9,10,11,12,13,14,15,16,17,18,19,20,21,22])),(⟨(some 26),(.fa 5 (.t 25)),none⟩,([0,1,2,3,4,5,6,7,8,9,10,11,12,13],[9,10,11,12,13,14,15,16,17,18,19,20,21,22])),(⟨(some 27),(.ld false 1 (.t 26)),none⟩,([0,1,2,3,4,5,6,7,8,9,10,11,12,13],[9,10,11,12,13,14,15,16,17,18,19,20,21,22])),(⟨(some 28),(.bin .eql (.t 22) (.t 27)),none⟩,([],[]))]) (.kill [9,10,11,12,13,14,15,16,17,18,19,20,21,22,23,24,25,26,27] (.cond (.t 28) (.seq (.draw [(⟨(some 29),(.mv (.t 0)),none⟩,([],[36,37,38,39,40,41,42,43,44,45])),(⟨(some 30),(.nilck (.t 29)),none⟩,([],[36,37,38,39,40,41,42,43,44,45])),(⟨(some 31),(.fa 0 (.t 30)),none⟩,([],[36,37,38,39,40,41,42,43,44,45])),(⟨(some 32),(.ld false 1 (.t 31)),none⟩,([],[36,37,38,39,40,41,42,43,44,45])),(⟨(some 33),(.nilck (.t 32)),none⟩,([],[36,37,38,39,40,41,42,43,44,45])),(⟨(some 34),(.fa 0 (.t 33)),none⟩,([],[36,37,38,39,40,41,42,43,44,45])),(⟨(some 35),(.ld false 1 (.t 34)),none⟩,([],[36,37,38,39,40,41,42,43,44,45])),(⟨(some 36),(.mv (.t 0)),none⟩,([0,1,2,3,4,5,6],[29,30,31,32,33,34,35,41,42,43,44,45])),(⟨(some 37),(.nilck (.t 36)),none⟩,([0,1,2,3,4,5,6],[29,30,31,32,33,34,35,41,42,43,44,45])),(⟨(some 38),(.fa 1 (.t 37)),none⟩,([0,1,2,3,4,5,6],[29,30,31,32,33,34,35,41,42,43,44,45])),(⟨(some 39),(.fa 2 (.t 38)),none⟩,([0,1,2,3,4,5,6],[29,30,31,32,33,34,35,41,42,43,44,45])),(⟨(some 40),(.ld false 1 (.t 39)),none⟩,([0,1,2,3,4,5,6],[29,30,31,32,33,34,35,41,42,43,44,45])),(⟨(some 41),(.mv (.t 0)),none⟩,([0,1,2,3,4,5,6,7,8,9,10,11],[29,30,31,32,33,34,35,36,37,38,39,40])),(⟨(some 42),(.nilck (.t 41)),none⟩,([0,1,2,3,4,5,6,7,8,9,10,11],[29,30,31,32,33,34,35,36,37,38,39,40])),(⟨(some 43),(.fa 1 (.t 42)),none⟩,([0,1,2,3,4,5,6,7,8,9,10,11],[29,30,31,32,33,34,35,36,37,38,39,40])),(⟨(some 44),(.fa 3 (.t 43)),none⟩,([0,1,2,3,4,5,6,7,8,9,10,11],[29,30,31,32,33,34,35,36,37,38,39,40])),(⟨(some 45),(.ld false 1 (.t 44)),none⟩,([0,1,2,3,4,5,6,7,8,9,10,11],[29,30,31,32,33,34,35,36,37,38,39,40])),(⟨(some 46),(.ia 1 (.t 35) (.t 40)),none⟩,([],[])),(⟨none,(.st 1 (.t 46) (.t 45)),none⟩,([],[]))]) (.kill [28,29,30,31,32,33,34,35,36,37,38,39,40,41,42,43,44,45,46] (.ops [⟨(some 47),(.mv (.t 0)),none⟩,⟨(some 48),(.call 95 [(.t 47)]),none⟩,⟨(some 49),(.nilck (.t 48)),none⟩,⟨none,(.st 1 (.t 49) (.k (.c (.v (.int .i64 1))))),none⟩]))) .skip))) (.kill [0,28,47,48,49] (.seq (.ops [⟨(some 2),(.mv (.k (.c (.v (.bool true))))),none⟩]) .ret)))))))))
def rs76:List RS:=[(.t 2)]
def nt76:Nat:=50
def ir77:IR:=(.seq (.ops [⟨(some 2),(.mv (.k (.c (.v (.bool false))))),none⟩]) (.kill [1,2,3,4,5,6,7,8,9,10,11] (.seq (.draw [(⟨(some 3),(.mv (.t 0)),none⟩,([],[10,11,12,13])),(⟨(some 4),(.nilck (.t 3)),none⟩,([],[10,11,12,13])),(⟨(some 5),(.fa 0 (.t 4)),none⟩,([],[10,11,12,13])),(⟨(some 6),(.ld false 1 (.t 5)),none⟩,([],[10,11,12,13])),(⟨(some 7),(.nilck (.t 6)),none⟩,([],[10,11,12,13])),(⟨(some 8),(.fa 3 (.t 7)),none⟩,([],[10,11,12,13])),(⟨(some 9),(.ld false 1 (.t 8)),none⟩,([],[10,11,12,13])),(⟨(some 10),(.mv (.t 0)),none⟩,([0,1,2,3,4,5,6],[3,4,5,6,7,8,9])),(⟨(some 11),(.nilck (.t 10)),none⟩,([0,1,2,3,4,5,6],[3,4,5,6,7,8,9])),(⟨(some 12),(.fa 8 (.t 11)),none⟩,([0,1,2,3,4,5,6],[3,4,5,6,7,8,9])),(⟨(some 13),(.ld false 1 (.t 12)),none⟩,([0,1,2,3,4,5,6],[3,4,5,6,7,8,9])),(⟨(some 14),(.ia 1 (.t 9) (.t 13)),none⟩,([],[])),(⟨(some 15),(.ld false 1 (.t 14)),none⟩,([],[])),(⟨(some 16),(.len (.t 15)),none⟩,([],[])),(⟨(some 17),(.bin .eql (.t 16) (.k (.c (.v (.int .i64 0))))),none⟩,([],[])),(⟨(some 2),(.mv (.t 17)),none⟩,([],[]))]) (.kill [0,3,4,5,6,7,8,9,10,11,12,13,14,15,16,17] .ret))))
def rs77:List RS:=[(.t 2)]
def nt77:Nat:=18
def ir78:IR:=(.seq (.ops [⟨(some 2),(.mv (.k (.c (.v (.bool false))))),none⟩]) (.kill [1,2,3,4,5,6,7,8,9,10,11] (.seq (.draw [(⟨(some 3),(.mv (.t 0)),none⟩,([],[5,6,7,8,9])),(⟨(some 4),(.call 95 [(.t 3)]),none⟩,([],[5,6,7,8,9])),(⟨(some 5),(.mv (.t 0)),none⟩,([0,1],[3,4])),(⟨(some 6),(.nilck (.t 5)),none⟩,([0,1],[3,4])),(⟨(some 7),(.fa 1 (.t 6)),none⟩,([0,1],[3,4])),(⟨(some 8),(.fa 3 (.t 7)),none⟩,([0,1],[3,4])),(⟨(some 9),(.ld false 1 (.t 8)),none⟩,([0,1],[3,4])),(⟨(some 10),(.nilck (.t 4)),none⟩,([],[])),(⟨none,(.st 1 (.t 10) (.t 9)),none⟩,([],[]))]) (.kill [0,3,4,5,6,7,8,9,10] (.seq (.ops [⟨(some 2),(.mv (.k (.c (.v (.bool true))))),none⟩]) .ret)))))
def rs78:List RS:=[(.t 2)]
def nt78:Nat:=11
def ir79:IR:=(.seq (.ops [⟨(some 2),(.mv (.k (.c (.v (.bool false))))),none⟩]) (.kill [1,2,3,4,5,6,7,8,9,10,11] (.seq (.draw [(⟨(some 3),(.mv (.t 0)),none⟩,([],[7,8,9,10,11])),(⟨(some 4),(.call 95 [(.t 3)]),none⟩,([],[7,8,9,10,11])),(⟨(some 5),(.nilck (.t 4)),none⟩,([],[7,8,9,10,11])),(⟨(some 6),(.ld false 1 (.t 5)),none⟩,([],[7,8,9,10,11])),(⟨(some 7),(.mv (.t 0)),none⟩,([0,1,2,3],[3,4,5,6])),(⟨(some 8),(.nilck (.t 7)),none⟩,([0,1,2,3],[3,4,5,6])),(⟨(some 9),(.fa 1 (.t 8)),none⟩,([0,1,2,3],[3,4,5,6])),(⟨(some 10),(.fa 3 (.t 9)),none⟩,([0,1,2,3],[3,4,5,6])),(⟨(some 11),(.ld false 1 (.t 10)),none⟩,([0,1,2,3],[3,4,5,6])),(⟨(some 12),(.bin .add (.t 6) (.t 11)),none⟩,([],[])),(⟨(some 13),(.nilck (.t 4)),none⟩,([],[])),(⟨none,(.st 1 (.t 13) (.t 12)),none⟩,([],[]))]) (.kill [0,3,4,5,6,7,8,9,10,11,12,13] (.seq (.ops [⟨(some 2),(.mv (.k (.c (.v (.bool true))))),none⟩]) .ret)))))
def rs79:List RS:=[(.t 2)]
def nt79:Nat:=14
def ir80:IR:=(.seq (.ops [⟨(some 2),(.mv (.k (.c (.v (.bool false))))),none⟩]) (.kill [1,2,3,4,5,6,7,8,9,10,11] (.seq (.seq (.draw [(⟨(some 3),(.mv (.t 0)),none⟩,([],[7,8,9,10,11])),(⟨(some 4),(.call 95 [(.t 3)]),none⟩,([],[7,8,9,10,11])),(⟨(some 5),(.nilck (.t 4)),none⟩,([],[7,8,9,10,11])),(⟨(some 6),(.ld false 1 (.t 5)),none⟩,([],[7,8,9,10,11])),(⟨(some 7),(.mv (.t 0)),none⟩,([0,1,2,3],[3,4,5,6])),(⟨(some 8),(.nilck (.t 7)),none⟩,([0,1,2,3],[3,4,5,6])),(⟨(some 9),(.fa 1 (.t 8)),none⟩,([0,1,2,3],[3,4,5,6])),(⟨(some 10),(.fa 3 (.t 9)),none⟩,([0,1,2,3],[3,4,5,6])),(⟨(some 11),(.ld false 1 (.t 10)),none⟩,([0,1,2,3],[3,4,5,6])),(⟨(some 12),(.bin .eql (.t 6) (.t 11)),none⟩,([],[]))]) (.kill [3,4,5,6,7,8,9,10,11] (.cond (.t 12) (.draw [(⟨(some 13),(.mv (.t 0)),none⟩,([],[20,21,22,23,26,27,28,29,30])),(⟨(some 14),(.nilck (.t 13)),none⟩,([],[20,21,22,23,26,27,28,29,30])),(⟨(some 15),(.fa 0 (.t 14)),none⟩,([],[20,21,22,23,26,27,28,29,30])),(⟨(some 16),(.ld false 1 (.t 15)),none⟩,([],[20,21,22,23,26,27,28,29,30])),(⟨(some 17),(.nilck (.t 16)),none⟩,([],[20,21,22,23,26,27,28,29,30])),(⟨(some 18),(.fa 2 (.t 17)),none⟩,([],[20,21,22,23,26,27,28,29,30])),(⟨(some 19),(.ld false 1 (.t 18)),none⟩,([],[20,21,22,23,26,27,28,29,30])),(⟨(some 20),(.mv (.t 0)),none⟩,([0,1,2,3,4,5,6],[13,14,15,16,17,18,19,26,27,28,29,30])),(⟨(some 21),(.nilck (.t 20)),none⟩,([0,1,2,3,4,5,6],[13,14,15,16,17,18,19,26,27,28,29,30])),(⟨(some 22),(.fa 8 (.t 21)),none⟩,([0,1,2,3,4,5,6],[13,14,15,16,17,18,19,26,27,28,29,30])),(⟨(some 23),(.ld false 1 (.t 22)),none⟩,([0,1,2,3,4,5,6],[13,14,15,16,17,18,19,26,27,28,29,30])),(⟨(some 24),(.ia 1 (.t 19) (.t 23)),none⟩,([],[26,27,28,29,30])),(⟨(some 25),(.ld false 1 (.t 24)),none⟩,([],[26,27,28,29,30])),(⟨(some 26),(.mv (.t 0)),none⟩,([0,1,2,3,4,5,6,7,8,9,10,11,12],[13,14,15,16,17,18,19,20,21,22,23,24,25])),(⟨(some 27),(.nilck (.t 26)),none⟩,([0,1,2,3,4,5,6,7,8,9,10,11,12],[13,14,15,16,17,18,19,20,21,22,23,24,25])),(⟨(some 28),(.fa 1 (.t 27)),none⟩,([0,1,2,3,4,5,6,7,8,9,10,11,12],[13,14,15,16,17,18,19,20,21,22,23,24,25])),(⟨(some 29),(.fa 6 (.t 28)),none⟩,([0,1,2,3,4,5,6,7,8,9,10,11,12],[13,14,15,16,17,18,19,20,21,22,23,24,25])),(⟨(some 30),(.ld false 1 (.t 29)),none⟩,([0,1,2,3,4,5,6,7,8,9,10,11,12],[13,14,15,16,17,18,19,20,21,22,23,24,25])),(⟨(some 31),(.bin .add (.t 25) (.t 30)),none⟩,([],[])),(⟨(some 32),(.ia 1 (.t 19) (.t 23)),none⟩,([],[])),(⟨none,(.st 1 (.t 32) (.t 31)),none⟩,([],[]))]) .skip))) (.kill [0,12,13,14,15,16,17,18,19,20,21,22,23,24,25,26,27,28,29,30,31,32] (.seq (.ops [⟨(some 2),(.mv (.k (.c (.v (.bool true))))),none⟩]) .ret)))))
def rs80:List RS:=[(.t 2)]
def nt80:Nat:=33
end Go.Proofs.Ytmcpdafmkkjlcaa.Z
