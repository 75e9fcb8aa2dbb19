/- TsoFencedSaid: what its proof is made of. No condition. -/
import Derived.Test.YtmcpdafmkkjlcaaPkTTsoFencedAP
set_option linter.unusedSimpArgs false
set_option linter.unusedVariables false
namespace Go.Proofs.Ytmcpdafmkkjlcaa.Z
open Go Go.RowKit
theorem nest_ownH {C:Ctx} {E:Env} {S:St} {a:Act} {w:World} (hs:Sat C.B C.W C.w0 E S a w) {α:Type} {enc:α→List Value} {s ty:Nat} {ls:List (List α)} (j:Nm) (ν:Nat→Nm) (n:Nat) (hn:n=ls.length) (at_:Nat→List SC) (hj:atN S.own j=some (.ar n 1 at_ ty)) (ha:∀ k,k<n→at_ k=[.sl (ν k) s 0 (ls.getD k []).length none])
  (hi:∀ k,k<ls.length→Arr w enc s ((SC.sl (ν k) s 0 (ls.getD k []).length none).den E) (ls.getD k [])):Nest w enc s ((SC.sl j 1 0 n none).den E) ls:=by
 subst hn
 refine ⟨(List.range ls.length).map fun k=>(SC.sl (ν k) s 0 (ls.getD k []).length none).den E,?_,by simp,fun k hk=>?_⟩
 ·obtain ⟨H,hH,_⟩:=hs.mem
  rcases ar_heap hH hj with ⟨h1,h2,h3,_⟩ | ⟨h1,h2,h3,cells,h4,h5,h6,h7⟩
  ·have h0:ls=[]:=List.eq_nil_of_length_eq_zero h3
   subst h0
   exact ⟨if E.ν j=true then none else some ⟨E.ρ j,0,none⟩,0,by simp [SC.den,h2],Nat.le_refl _,by simp [maxLen],Or.inl rfl⟩
  ·refine ⟨some ⟨E.ρ j,0,none⟩,E.κ j,by simp [SC.den,h1],by simpa using h2.1,h3,Or.inr ⟨_,_,rfl,fun e y hy q u hu=>?_⟩⟩
   rw [cell_of_row w _ _ _ ty (0,0) h5,Nat.zero_add]
   have he:e<ls.length:=by
    have:=(List.getElem?_eq_some_iff.1 hy).1
    simpa using this
   simp [he] at hy
   subst hy
   cases q with
   | zero =>
    simp only [one1',List.getElem?_cons_zero,Option.some.injEq] at hu
    subst hu
    exact ((h7 e he).2 0 _ (by rw [ha e he];simp [he])).1
   | succ q=>simp [one1'] at hu
 ·have:((List.range ls.length).map fun k=>(SC.sl (ν k) s 0 (ls.getD k []).length none).den E).getD k nest0=(SC.sl (ν k) s 0 (ls.getD k []).length none).den E:=by rw [List.getD_eq_getElem?_getD,List.getElem?_map,List.getElem?_range hk];rfl
  rw [this]
  exact hi k hk
def aw1:List Ins:=[⟨2,0,0,1,-1,0,0⟩,⟨1,0,1,0,0,0,0⟩]
def aw2:List Ins:=[⟨2,0,1,1,-1,0,0⟩,⟨1,0,0,0,0,0,0⟩]
def awL:Lt:=⟨[0,0],[aw1,aw2]⟩
def awF (o:Int):Option Nat:=(bfs awL o).map fun l=>(finsL awL (l.map (·.s))).length
theorem aw_1:awF 1=some 3:=by decide +kernel
theorem aw_2:awF 2=some 4:=by decide +kernel
theorem aw_ok:checkB awL=true:=by decide +kernel
theorem awL_ok:LtOk awL:=by
 intro code hc c hi
 simp only [awL,List.mem_cons,List.not_mem_nil,or_false] at hc
 rcases hc with rfl | rfl <;> (simp only [aw1,aw2,List.mem_cons,List.not_mem_nil,or_false] at hi;rcases hi with rfl | rfl <;> exact ⟨by decide,by decide⟩)
def ir29:IR:=(.seq (.ops [⟨(some 0),(.mv (.k (.c (.v (.bool false))))),none⟩]) (.kill [0,1,2,3,4,5,6,7,8,9,10,11] (.seq (.ops [⟨(some 6),(.mkSl 3 2 1 [(.v (.int .i64 0)),(.v (.int .i64 0))] [(0,(1,(.k (.c (.v (.int .i64 0)))))),(1,(1,(.k (.c (.v (.int .i64 0))))))]),none⟩,⟨(some 7),(.build [(.v (.int .i64 0)),(.v (.int .i64 0)),(.v (.int .i64 0)),(.v (.int .i64 0)),(.v (.int .i64 0)),(.v (.int .i64 0)),(.v (.int .i64 0))] [(0,(1,(.k (.c (.v (.int .i64 2)))))),(2,(1,(.k (.c (.v (.int .i64 0)))))),(3,(1,(.k (.c (.v (.int .i64 1)))))),(4,(1,(.k (.c (.v (.int .i64 (-1)))))))]),none⟩,⟨(some 8),(.build [(.v (.int .i64 0)),(.v (.int .i64 0)),(.v (.int .i64 0)),(.v (.int .i64 0)),(.v (.int .i64 0)),(.v (.int .i64 0)),(.v (.int .i64 0))] [(0,(1,(.k (.c (.v (.int .i64 1)))))),(2,(1,(.k (.c (.v (.int .i64 1))))))]),none⟩,⟨(some 9),(.mkSl 83 2 7 [(.v (.int .i64 0)),(.v (.int .i64 0)),(.v (.int .i64 0)),(.v (.int .i64 0)),(.v (.int .i64 0)),(.v (.int .i64 0)),(.v (.int .i64 0)),(.v (.int .i64 0)),(.v (.int .i64 0)),(.v (.int .i64 0)),(.v (.int .i64 0)),(.v (.int .i64 0)),(.v (.int .i64 0)),(.v (.int .i64 0))] [(0,(7,(.t 7))),(7,(7,(.t 8)))]),none⟩,⟨(some 10),(.build [(.v (.int .i64 0)),(.v (.int .i64 0)),(.v (.int .i64 0)),(.v (.int .i64 0)),(.v (.int .i64 0)),(.v (.int .i64 0)),(.v (.int .i64 0))] [(0,(1,(.k (.c (.v (.int .i64 2)))))),(2,(1,(.k (.c (.v (.int .i64 1)))))),(3,(1,(.k (.c (.v (.int .i64 1)))))),(4,(1,(.k (.c (.v (.int .i64 (-1)))))))]),none⟩,⟨(some 11),(.build [(.v (.int .i64 0)),(.v (.int .i64 0)),(.v (.int .i64 0)),(.v (.int .i64 0)),(.v (.int .i64 0)),(.v (.int .i64 0)),(.v (.int .i64 0))] [(0,(1,(.k (.c (.v (.int .i64 1)))))),(2,(1,(.k (.c (.v (.int .i64 0))))))]),none⟩,⟨(some 12),(.mkSl 83 2 7 [(.v (.int .i64 0)),(.v (.int .i64 0)),(.v (.int .i64 0)),(.v (.int .i64 0)),(.v (.int .i64 0)),(.v (.int .i64 0)),(.v (.int .i64 0)),(.v (.int .i64 0)),(.v (.int .i64 0)),(.v (.int .i64 0)),(.v (.int .i64 0)),(.v (.int .i64 0)),(.v (.int .i64 0)),(.v (.int .i64 0))] [(0,(7,(.t 10))),(7,(7,(.t 11)))]),none⟩,⟨(some 13),(.mkSl 80 2 1 [(.v (.slice none 0 0)),(.v (.slice none 0 0))] [(0,(1,(.t 9))),(1,(1,(.t 12)))]),none⟩,⟨(some 14),(.build [(.v (.slice none 0 0)),(.v (.slice none 0 0))] [(0,(1,(.t 6))),(1,(1,(.t 13)))]),none⟩,⟨(some 1),(.new 25 [(.v (.slice none 0 0)),(.v (.slice none 0 0))]),none⟩,⟨none,(.st 2 (.t 1) (.t 14)),none⟩]) (.kill [6,7,8,9,10,11,12,13,14] (.seq (.ops [⟨(some 16),(.ld true 2 (.t 1)),none⟩,⟨(some 17),(.call 26 [(.t 16),(.k (.c (.v (.int .i64 1))))]),none⟩,⟨(some 15),(.mv (.t 17)),none⟩,⟨(some 18),(.ext 0 (.t 15)),none⟩,⟨(some 19),(.ext 1 (.t 15)),none⟩,⟨(some 2),(.mv (.t 18)),none⟩,⟨(some 3),(.mv (.t 19)),none⟩]) (.kill [15,16,17,18,19] (.seq (.ops [⟨(some 21),(.ld true 2 (.t 1)),none⟩,⟨(some 22),(.call 26 [(.t 21),(.k (.c (.v (.int .i64 2))))]),none⟩,⟨(some 20),(.mv (.t 22)),none⟩,⟨(some 23),(.ext 0 (.t 20)),none⟩,⟨(some 24),(.ext 1 (.t 20)),none⟩,⟨(some 4),(.mv (.t 23)),none⟩,⟨(some 5),(.mv (.t 24)),none⟩]) (.kill [1,20,21,22,23,24] (.seq (.ops [⟨(some 25),(.mv (.t 3)),none⟩,⟨(some 26),(.call 14 [(.t 25)]),none⟩,⟨(some 27),(.bin .eql (.t 26) (.k (.c (.v (.int .i64 0))))),none⟩,⟨(some 28),(.mv (.t 27)),none⟩,⟨(some 29),(.mv (.t 5)),(some (28,true))⟩,⟨(some 30),(.call 14 [(.t 29)]),(some (28,true))⟩,⟨(some 31),(.bin .eql (.t 30) (.k (.c (.v (.int .i64 0))))),(some (28,true))⟩,⟨(some 32),(.pick (.t 28) (.t 31) (.k (.c (.v (.bool false))))),none⟩,⟨(some 33),(.mv (.t 32)),none⟩,⟨(some 34),(.mv (.t 2)),(some (33,true))⟩,⟨(some 35),(.len (.t 34)),(some (33,true))⟩,⟨(some 36),(.bin .eql (.t 35) (.k (.c (.v (.int .i64 3))))),(some (33,true))⟩,⟨(some 37),(.pick (.t 33) (.t 36) (.k (.c (.v (.bool false))))),none⟩,⟨(some 38),(.mv (.t 37)),none⟩,⟨(some 39),(.mv (.t 4)),(some (38,true))⟩,⟨(some 40),(.len (.t 39)),(some (38,true))⟩,⟨(some 41),(.bin .eql (.t 40) (.k (.c (.v (.int .i64 4))))),(some (38,true))⟩,⟨(some 42),(.pick (.t 38) (.t 41) (.k (.c (.v (.bool false))))),none⟩,⟨(some 0),(.mv (.t 42)),none⟩]) (.kill [2,3,4,5,25,26,27,28,29,30,31,32,33,34,35,36,37,38,39,40,41,42] .ret))))))))))
def rs29:List RS:=[(.t 0)]
def nt29:Nat:=43
set_option maxRecDepth 100000 in
set_option maxHeartbeats 1000000 in
theorem awake_calls (w:World):Calls Try.prog 29 #[] w (RetV w (.bool true)):=by
 refine enter0 (A:=[]) (c:=ir29) (rs:=rs29) (nt:=nt29) [] #[] Try.func29 rfl (by kernel_rfl) (by kernel_rfl) rfl (fun E'=>rfl) (of_decide_eq_true rfl) ?_
 simp (maxSteps:=2000000) only [ir29,nt29,rs29,go_sem,↓reduceIte,Nat.reduceLT,Nat.reduceLeDiff,Nat.reduceAdd,Nat.reduceSub,Nat.reduceMul,Nat.reduceEqDiff,reduceCtorEq,Int.reduceToNat,Int.reduceEq,Int.reduceBEq,Int.reduceBNe,Int.reduceLT,Int.reduceLE,Int.reduceNeg,Int.reduceAdd,Int.reduceSub,Int.reduceMul,Int.reduceGE,Int.reduceGT,endO]
 repeat (with_reducible refine And.intro (by decide) ?_)
 obtain ⟨l1,b1,n1⟩:∃ l,bfs awL 1=some l∧(finsL awL (l.map (·.s))).length=3:=by
  have:=aw_1
  unfold awF at this
  cases e:bfs awL 1 with
  | none=>rw [e] at this;cases this
  | some l=>rw [e] at this;exact ⟨l,rfl,by simpa using this⟩
 obtain ⟨l2,b2,n2⟩:∃ l,bfs awL 2=some l∧(finsL awL (l.map (·.s))).length=4:=by
  have:=aw_2
  unfold awF at this
  cases e:bfs awL 2 with
  | none=>rw [e] at this;cases this
  | some l=>rw [e] at this;exact ⟨l,rfl,by simpa using this⟩
 have hl:∀ {C:Ctx} {E:Env} {S:St} {a:Act} {w' : World},Sat C.B C.W C.w0 E S a w'→look S.own 0=some (.one (.ar 2 1 (segs 1 [.v (.int .i64 0),.v (.int .i64 0)]) 3)) →
   look S.own 1=some (.one (.ar 2 7 (segs 7 [.v (.int .i64 2),.v (.int .i64 0),.v (.int .i64 0),.v (.int .i64 1),.v (.int .i64 (-1)),.v (.int .i64 0),.v (.int .i64 0),.v (.int .i64 1),.v (.int .i64 0),.v (.int .i64 1),.v (.int .i64 0),.v (.int .i64 0),.v (.int .i64 0),.v (.int .i64 0)]) 83)) →
   look S.own 2=some (.one (.ar 2 7 (segs 7 [.v (.int .i64 2),.v (.int .i64 0),.v (.int .i64 1),.v (.int .i64 1),.v (.int .i64 (-1)),.v (.int .i64 0),.v (.int .i64 0),.v (.int .i64 1),.v (.int .i64 0),.v (.int .i64 0),.v (.int .i64 0),.v (.int .i64 0),.v (.int .i64 0),.v (.int .i64 0)]) 83)) →
   look S.own 3=some (.one (.ar 2 1 (segs 1 [.sl (1,0,0) 7 0 2 none,.sl (2,0,0) 7 0 2 none]) 80))→LtR w' ((SV.agg [.sl (0,0,0) 1 0 2 none,.sl (3,0,0) 1 0 2 none]).den E) awL:=fun {C E S a w'} hs h0 h1 h2 h3=>by
  have two:∀ e:Nat,e<2→e=0∨e=1:=fun e he=>by omega
  refine ⟨(SC.sl (0,0,0) 1 0 2 none).den E,(SC.sl (3,0,0) 1 0 2 none).den E,by simp [SV.den],arr_ownX (d:=0) hs (0,0,0) _ _ _ (by simp only [atN,h0,Fm.get,and_self,if_true];rfl) rfl (Nat.le_refl _) (fun e he=>by rcases two e he with rfl | rfl <;> rfl),nest_ownH hs (3,0,0) (fun k=>(k+1,0,0)) 2 rfl _ (by simp only [atN,h3,Fm.get,and_self,if_true];rfl) (fun k hk=>by rcases two k hk with rfl | rfl <;> rfl) (fun k hk=>?_)⟩
  rcases two k hk with rfl | rfl
  ·exact arr_ownX (d:=in0) hs (1,0,0) _ _ _ (by simp only [atN,h1,Fm.get,and_self,if_true];rfl) rfl (Nat.le_refl _) (fun e he=>by rcases two e he with rfl | rfl <;> rfl)
  ·exact arr_ownX (d:=in0) hs (2,0,0) _ _ _ (by simp only [atN,h2,Fm.get,and_self,if_true];rfl) rfl (Nat.le_refl _) (fun e he=>by rcases two e he with rfl | rfl <;> rfl)
 have hF1:FinR awL 1=fun w=>RetN w 3 (leT 2 (finsL awL (l1.map (·.s))).length 0) (fun b=>foO b (finsL awL (l1.map (·.s)))):=by funext w e w';unfold FinR;rw [b1]
 have hF2:FinR awL 2=fun w=>RetN w 3 (leT 2 (finsL awL (l2.map (·.s))).length 0) (fun b=>foO b (finsL awL (l2.map (·.s)))):=by funext w e w';unfold FinR;rw [b2]
 generalize finsL awL (l1.map (·.s))=f1 at n1 hF1
 generalize finsL awL (l2.map (·.s))=f2 at n2 hF2
 refine callN 3 (leT 2 f1.length 0) (fun b=>foO b f1) (fun E a w' hs=>by
  have:=ifin_calls w' _ awL 1 aw_ok (by decide) awL_ok (hl hs rfl rfl rfl rfl)
  rw [hF1] at this
  exact this) ?_
 rw [n1]
 simp (maxSteps:=2000000) only [go_sem,↓reduceIte,Nat.reduceLT,Nat.reduceLeDiff,Nat.reduceAdd,Nat.reduceSub,Nat.reduceMul,Nat.reduceEqDiff,reduceCtorEq,Int.reduceToNat,Int.reduceEq,Int.reduceBEq,Int.reduceBNe,Int.reduceLT,Int.reduceLE,Int.reduceNeg,Int.reduceAdd,Int.reduceSub,Int.reduceMul,Int.reduceGE,Int.reduceGT,endO,leT,foO]
 refine callN 3 (leT 2 f2.length 0) (fun b=>foO b f2) (fun E a w' hs=>by
  have:=ifin_calls w' _ awL 2 aw_ok (by decide) awL_ok (hl hs rfl rfl rfl rfl)
  rw [hF2] at this
  exact this) ?_
 rw [n2]
 simp (maxSteps:=2000000) only [go_sem,↓reduceIte,Nat.reduceLT,Nat.reduceLeDiff,Nat.reduceAdd,Nat.reduceSub,Nat.reduceMul,Nat.reduceEqDiff,reduceCtorEq,Int.reduceToNat,Int.reduceEq,Int.reduceBEq,Int.reduceBNe,Int.reduceLT,Int.reduceLE,Int.reduceNeg,Int.reduceAdd,Int.reduceSub,Int.reduceMul,Int.reduceGE,Int.reduceGT,endO,leT,foO]
 refine callV (.c (.v (.int .i64 0))) _ (fun E=>rfl) (fun E a w' hs=>num_calls w' _) ?_
 simp (maxSteps:=2000000) only [go_sem,↓reduceIte,Nat.reduceLT,Nat.reduceLeDiff,Nat.reduceAdd,Nat.reduceSub,Nat.reduceMul,Nat.reduceEqDiff,reduceCtorEq,Int.reduceToNat,Int.reduceEq,Int.reduceBEq,Int.reduceBNe,Int.reduceLT,Int.reduceLE,Int.reduceNeg,Int.reduceAdd,Int.reduceSub,Int.reduceMul,Int.reduceGE,Int.reduceGT,endO]
 refine guardW (.c (.v (.int .i64 0))) _ (fun E=>rfl) (fun E a w' hs=>num_calls w' _) ?_
 simp (maxSteps:=2000000) only [go_sem,↓reduceIte,Nat.reduceLT,Nat.reduceLeDiff,Nat.reduceAdd,Nat.reduceSub,Nat.reduceMul,Nat.reduceEqDiff,reduceCtorEq,Int.reduceToNat,Int.reduceEq,Int.reduceBEq,Int.reduceBNe,Int.reduceLT,Int.reduceLE,Int.reduceNeg,Int.reduceAdd,Int.reduceSub,Int.reduceMul,Int.reduceGE,Int.reduceGT,endO]
 exact retV fun E=>by simp [SV.den,SC.den]
end Go.Proofs.Ytmcpdafmkkjlcaa.Z
namespace Go.Proofs.Ytmcpdafmkkjlcaa.Z
open Go Go.RowKit
theorem adj_frm {c:Ins} {r:List Ins}:(adjI c r).frm=c.frm:=by
 unfold adjI;split <;> rfl
theorem ltok_fen {L:Lt} (hok:LtOk L):LtOk (fenL L):=by
 intro code hc c hm
 simp only [fenL,List.mem_map] at hc
 obtain ⟨r,hr,rfl⟩:=hc
 rcases fenT_mem hm with rfl | ⟨c',hc',r',rfl⟩
 ·simp [InR,fenI]
 ·have:=hok r hr c' hc'
  unfold InR at this ⊢
  rwa [adj_frm]
theorem lt_nil (w:World):LtR w (.agg #[.slice none 0 0,.slice none 0 0]) ⟨[],[]⟩ :=
 ⟨.slice none 0 0,.slice none 0 0,rfl,⟨none,0,rfl,Nat.le_refl _,by simp [maxLen],Or.inl rfl⟩,[],⟨none,0,rfl,Nat.le_refl _,by simp [maxLen],Or.inl rfl⟩,rfl,fun k hk=>by simp at hk⟩
theorem fenced_eq {L:Lt} {o:Int} (ho:1≤o∧o≤3) (hL:checkB L=true) (hB:fenB L=true) {l l' : List Sp} (h:bfs (fenL L) o=some l) (h' : bfs L 1=some l'):finsL (fenL L) (l.map (·.s))=finsL L (l'.map (·.s)) :=
 fins_eq (checkB_fen hL hB) hL h h' (fens_mem ho hL (checkB_fen hL hB))
def fwS (F:Lt) (fl:List Fn):Own:=(11,.one (.bk [.sl (8,0,0) 1 0 F.words.length none,.sl (9,0,0) 1 0 F.thr.length none] 25)) :: twO 8 F++foO 16 fl
theorem fwS_same {own:Own} {F:Lt} {fl:List Fn} (h11:look own 11=some (.one (.bk [.sl (8,0,0) 1 0 F.words.length none,.sl (9,0,0) 1 0 F.thr.length none] 25))) (h8:look own 8=some (.one (.ar F.words.length 1 (ats eI F.words 0) 3))) (h9:look own 9=some (.one (.ar F.thr.length 1 (thC 10 F) 80))) (h10:look own 10=some (.fam F.thr.length (thO F)))
  (h16:look own 16=some (.one (.ar fl.length 2 (foC 16 fl) 67))) (h17:look own 17=some (.fam fl.length (foW fl))) (h18:look own 18=some (.fam fl.length (foR fl))):OwnLe (· < 19) (idσ id) own (fwS F fl):=by
 refine ⟨⟨show 11<19 by decide,?_⟩,⟨show 8<19 by decide,?_⟩,⟨show 9<19 by decide,?_⟩,⟨show 10<19 by decide,fun k hk=>?_⟩,⟨show 16<19 by decide,?_⟩,⟨show 17<19 by decide,fun k hk=>?_⟩,⟨show 18<19 by decide,fun k hk=>?_⟩,trivial⟩
 ·simp only [idσ,id,atN,h11,Fm.get,and_self,if_true]
  exact ⟨by simp only [SC.renL,SC.ren,idσ,id],rfl,by simp [SC.okL,SC.okN]⟩
 ·simp only [idσ,id,atN,h8,Fm.get,and_self,if_true];exact arLe_same
 ·simp only [idσ,id,Nat.reduceAdd,atN,h9,Fm.get,and_self,if_true]
  exact ⟨Nat.le_refl _,rfl,rfl,fun e _=>⟨by simp only [thC,SC.renL,SC.ren,idσ,id],by simp [thC,SC.okL,SC.okN]⟩⟩
 ·simp only [idσ,id,Nat.reduceAdd,atN,h10,Fm.get,hk,and_self,if_true];exact arLe_same
 ·simp only [idσ,id,atN,h16,Fm.get,and_self,if_true]
  exact ⟨Nat.le_refl _,rfl,rfl,fun e _=>⟨by simp only [foC,SC.renL,SC.ren,idσ,id],by simp [foC,SC.okL,SC.okN]⟩⟩
 ·simp only [idσ,id,Nat.reduceAdd,atN,h17,Fm.get,hk,and_self,if_true];exact arLe_same
 ·simp only [idσ,id,Nat.reduceAdd,atN,h18,Fm.get,hk,and_self,if_true];exact arLe_same
def ir7:IR:=(.seq (.ops [⟨(some 1),(.box 25 (.t 0)),none⟩,⟨(some 2),(.mv (.k (.c (.v (.bool false))))),none⟩]) (.kill [0,2,3,4,5,6,7,8,9,10,11] (.seq (.seq (.ops [⟨(some 12),(.call 29 []),none⟩,⟨(some 13),(.un .not (.t 12)),none⟩]) (.kill [12] (.cond (.t 13) (.seq (.ops [⟨(some 2),(.mv (.k (.c (.v (.bool false))))),none⟩]) (.kill [1,13] .ret)) .skip))) (.kill [2,13] (.seq (.ops [⟨(some 14),(.ld true 2 (.t 1)),none⟩,⟨(some 15),(.call 10 [(.t 14)]),none⟩,⟨(some 3),(.new 25 [(.v (.slice none 0 0)),(.v (.slice none 0 0))]),none⟩,⟨none,(.st 2 (.t 3) (.t 15)),none⟩]) (.kill [14,15] (.seq (.ops [⟨(some 17),(.ld true 2 (.t 3)),none⟩,⟨(some 18),(.call 30 [(.t 17)]),none⟩,⟨(some 16),(.mv (.t 18)),none⟩,⟨(some 19),(.ext 0 (.t 16)),none⟩,⟨(some 20),(.ext 1 (.t 16)),none⟩,⟨(some 4),(.new 25 [(.v (.slice none 0 0)),(.v (.slice none 0 0))]),none⟩,⟨none,(.st 2 (.t 4) (.t 19)),none⟩,⟨(some 5),(.mv (.t 20)),none⟩]) (.kill [16,17,18,19,20] (.seq (.ops [⟨(some 22),(.ld true 2 (.t 1)),none⟩,⟨(some 23),(.call 31 [(.t 22)]),none⟩,⟨(some 21),(.mv (.t 23)),none⟩,⟨(some 24),(.ext 0 (.t 21)),none⟩,⟨(some 25),(.ext 1 (.t 21)),none⟩,⟨(some 6),(.new 25 [(.v (.slice none 0 0)),(.v (.slice none 0 0))]),none⟩,⟨none,(.st 2 (.t 6) (.t 24)),none⟩,⟨(some 7),(.mv (.t 25)),none⟩]) (.kill [21,22,23,24,25] (.seq (.seq (.ops [⟨(some 26),(.ld true 2 (.t 4)),none⟩,⟨(some 27),(.ld true 2 (.t 6)),none⟩,⟨(some 28),(.call 15 [(.t 26),(.t 27)]),none⟩,⟨(some 29),(.un .not (.t 28)),none⟩,⟨(some 30),(.mv (.t 29)),none⟩,⟨(some 31),(.mv (.t 5)),(some (30,false))⟩,⟨(some 32),(.call 14 [(.t 31)]),(some (30,false))⟩,⟨(some 33),(.mv (.t 7)),(some (30,false))⟩,⟨(some 34),(.bin .neq (.t 32) (.t 33)),(some (30,false))⟩,⟨(some 35),(.pick (.t 30) (.k (.c (.v (.bool true)))) (.t 34)),none⟩,⟨(some 36),(.mv (.t 35)),none⟩,⟨(some 37),(.ld true 2 (.t 3)),(some (36,false))⟩,⟨(some 38),(.ld true 2 (.t 1)),(some (36,false))⟩,⟨(some 39),(.call 15 [(.t 37),(.t 38)]),(some (36,false))⟩,⟨(some 40),(.un .not (.t 39)),(some (36,false))⟩,⟨(some 41),(.pick (.t 36) (.k (.c (.v (.bool true)))) (.t 40)),none⟩]) (.kill [3,5,6,26,27,28,29,30,31,32,33,34,35,36,37,38,39,40] (.cond (.t 41) (.seq (.ops [⟨(some 2),(.mv (.k (.c (.v (.bool false))))),none⟩]) (.kill [1,4,7,41] .ret)) .skip))) (.kill [2,41] (.seq (.seq (.ops [⟨(some 42),(.mv (.t 7)),none⟩,⟨(some 43),(.bin .neq (.t 42) (.k (.c (.v (.int .i64 0))))),none⟩]) (.kill [7,42] (.cond (.t 43) (.seq (.ops [⟨(some 2),(.mv (.k (.c (.v (.bool true))))),none⟩]) (.kill [1,4,43] .ret)) .skip))) (.kill [2,43] (.seq (.ops [⟨(some 45),(.ld true 2 (.t 1)),none⟩,⟨(some 46),(.call 26 [(.t 45),(.k (.c (.v (.int .i64 1))))]),none⟩,⟨(some 44),(.mv (.t 46)),none⟩,⟨(some 47),(.ext 0 (.t 44)),none⟩,⟨(some 48),(.ext 1 (.t 44)),none⟩,⟨(some 8),(.mv (.t 47)),none⟩,⟨(some 5),(.mv (.t 48)),none⟩]) (.kill [1,44,45,46,47,48] (.seq (.seq (.ops [⟨(some 49),(.mv (.t 5)),none⟩,⟨(some 50),(.call 14 [(.t 49)]),none⟩,⟨(some 51),(.bin .neq (.t 50) (.k (.c (.v (.int .i64 0))))),none⟩]) (.kill [49,50] (.cond (.t 51) (.seq (.ops [⟨(some 52),(.mv (.t 5)),none⟩,⟨(some 53),(.call 14 [(.t 52)]),none⟩,⟨(some 54),(.bin .eql (.t 53) (.k (.c (.v (.int .i64 192))))),none⟩,⟨(some 2),(.mv (.t 54)),none⟩]) (.kill [4,5,8,51,52,53,54] .ret)) .skip))) (.kill [2,5,51] (.seq (.seq (.ops [⟨(some 9),(.mv (.k (.c (.v (.int .i64 1))))),none⟩]) (.blk 0 (.loop (.seq (.seq (.ops [⟨(some 55),(.mv (.t 9)),none⟩,⟨(some 56),(.bin .leq (.t 55) (.k (.c (.v (.int .i64 3))))),none⟩]) (.kill [2,10,11,55,57,58,59,60,61,62,63,64,65,66,67,68,69,70,71,72,73,74,75,76] (.cond (.t 56) .skip (.exit 0)))) (.kill [56] (.seq (.blk 1 (.seq (.ops [⟨(some 60),(.ld true 2 (.t 4)),none⟩,⟨(some 61),(.mv (.t 9)),none⟩,⟨(some 62),(.call 26 [(.t 60),(.t 61)]),none⟩,⟨(some 59),(.mv (.t 62)),none⟩,⟨(some 63),(.ext 0 (.t 59)),none⟩,⟨(some 64),(.ext 1 (.t 59)),none⟩,⟨(some 10),(.mv (.t 63)),none⟩,⟨(some 11),(.mv (.t 64)),none⟩]) (.kill [59,60,61,62,63,64] (.seq (.seq (.ops [⟨(some 65),(.mv (.t 11)),none⟩,⟨(some 66),(.call 14 [(.t 65)]),none⟩,⟨(some 67),(.bin .eql (.t 66) (.k (.c (.v (.int .i64 192))))),none⟩]) (.kill [65,66] (.cond (.t 67) (.exit 1) .skip))) (.kill [67] (.seq (.ops [⟨(some 68),(.mv (.t 11)),none⟩,⟨(some 69),(.call 14 [(.t 68)]),none⟩,⟨(some 70),(.bin .neq (.t 69) (.k (.c (.v (.int .i64 0))))),none⟩,⟨(some 71),(.mv (.t 70)),none⟩,⟨(some 72),(.mv (.t 10)),(some (71,false))⟩,⟨(some 73),(.mv (.t 8)),(some (71,false))⟩,⟨(some 74),(.call 28 [(.t 72),(.t 73)]),(some (71,false))⟩,⟨(some 75),(.un .not (.t 74)),(some (71,false))⟩,⟨(some 76),(.pick (.t 71) (.k (.c (.v (.bool true)))) (.t 75)),none⟩]) (.kill [10,11,68,69,70,71,72,73,74,75] (.cond (.t 76) (.seq (.ops [⟨(some 2),(.mv (.k (.c (.v (.bool false))))),none⟩]) (.kill [4,8,9,76] .ret)) .skip)))))))) (.kill [2,10,11,59,60,61,62,63,64,65,66,67,68,69,70,71,72,73,74,75,76] (.ops [⟨(some 57),(.mv (.t 9)),none⟩,⟨(some 58),(.bin .add (.t 57) (.k (.c (.v (.int .i64 1))))),none⟩,⟨(some 9),(.mv (.t 58)),none⟩])))))))) (.kill [2,4,8,9,10,11,55,56,57,58,59,60,61,62,63,64,65,66,67,68,69,70,71,72,73,74,75,76] (.seq (.ops [⟨(some 2),(.mv (.k (.c (.v (.bool true))))),none⟩]) .ret)))))))))))))))))))))
def rs7:List RS:=[(.t 2)]
def nt7:Nat:=77
def nilL (e:Int):SV:=.tup [(true,[.v (.slice none 0 0),.v (.slice none 0 0)]),(false,[.v (.int .i64 e)])]
theorem nilL_den (e:Int) (E:Env):(nilL e).den E=nil2 e:=by simp [nilL,nil2,SV.den,den1,SC.den]
set_option maxRecDepth 100000 in
set_option maxHeartbeats 1000000 in
theorem rfen_err (w:World) (v:Value) (L:Lt) (hL:checkB L=false) (h:LtR w v L):Calls Try.prog 31 #[v] w (RetV w (nil2 190)):=by
 refine enterLt (A:=[]) (c:=ir31) (rs:=rs31) (nt:=nt31) h [.agg (ltS 0)] _ Try.func31 rfl (by kernel_rfl) (by kernel_rfl) rfl (fun E' h0=>by simp only [List.map_cons,List.map_nil,h0]) (of_decide_eq_true rfl) ?_
 simp (maxSteps:=2000000) only [ir31,nt31,rs31,go_sem,↓reduceIte,Nat.reduceLT,Nat.reduceLeDiff,Nat.reduceAdd,Nat.reduceSub,Nat.reduceMul,Nat.reduceEqDiff,reduceCtorEq,Int.reduceToNat,Int.reduceEq,Int.reduceBEq,Int.reduceBNe,Int.reduceLT,Int.reduceLE,Int.reduceNeg,Int.reduceAdd,Int.reduceSub,Int.reduceMul,Int.reduceGE,Int.reduceGT,endO,ltA,ltS]
 refine callV (.c (.v (.bool false))) _ (fun E=>rfl) (fun E a w' hs=>by
  have:=rcheck_calls w' _ L (ltL_at hs rfl rfl rfl)
  rw [hL] at this
  exact this) ?_
 simp (maxSteps:=2000000) only [go_sem,↓reduceIte,Nat.reduceLT,Nat.reduceLeDiff,Nat.reduceAdd,Nat.reduceSub,Nat.reduceMul,Nat.reduceEqDiff,reduceCtorEq,Int.reduceToNat,Int.reduceEq,Int.reduceBEq,Int.reduceBNe,Int.reduceLT,Int.reduceLE,Int.reduceNeg,Int.reduceAdd,Int.reduceSub,Int.reduceMul,Int.reduceGE,Int.reduceGT,endO]
 exact retV fun E=>nilL_den _ E
set_option maxRecDepth 100000 in
set_option maxHeartbeats 1000000 in
theorem ifen_err (w:World) (v:Value) (L:Lt) (hL:checkB L=false) (hok:LtOk L) (h:LtR w v L):Calls Try.prog 30 #[v] w (RetV w (nil2 190)):=by
 refine enterLt (A:=[]) (c:=ir30) (rs:=rs30) (nt:=nt30) h [.agg (ltS 0)] _ Try.func30 rfl (by kernel_rfl) (by kernel_rfl) rfl (fun E' h0=>by simp only [List.map_cons,List.map_nil,h0]) (of_decide_eq_true rfl) ?_
 simp (maxSteps:=2000000) only [ir30,nt30,rs30,go_sem,↓reduceIte,Nat.reduceLT,Nat.reduceLeDiff,Nat.reduceAdd,Nat.reduceSub,Nat.reduceMul,Nat.reduceEqDiff,reduceCtorEq,Int.reduceToNat,Int.reduceEq,Int.reduceBEq,Int.reduceBNe,Int.reduceLT,Int.reduceLE,Int.reduceNeg,Int.reduceAdd,Int.reduceSub,Int.reduceMul,Int.reduceGE,Int.reduceGT,endO,ltA,ltS]
 refine callV (.c (.v (.int .i64 190))) _ (fun E=>rfl) (fun E a w' hs=>by
  have:=check_calls w' _ L hok (ltL_at hs rfl rfl rfl)
  rw [hL] at this
  exact this) ?_
 simp (maxSteps:=2000000) only [go_sem,↓reduceIte,Nat.reduceLT,Nat.reduceLeDiff,Nat.reduceAdd,Nat.reduceSub,Nat.reduceMul,Nat.reduceEqDiff,reduceCtorEq,Int.reduceToNat,Int.reduceEq,Int.reduceBEq,Int.reduceBNe,Int.reduceLT,Int.reduceLE,Int.reduceNeg,Int.reduceAdd,Int.reduceSub,Int.reduceMul,Int.reduceGE,Int.reduceGT,endO]
 exact retV fun E=>nilL_den _ E
set_option maxRecDepth 100000 in
set_option maxHeartbeats 1000000 in
theorem fenced_walk (w:World) (v:Value) (L:Lt) (hok:LtOk L) (hsz:LtSz L) (h:LtR w v L):Calls Try.prog 7 #[v] w (RetV w (.bool true)):=by
 refine enterLt (A:=[]) (c:=ir7) (rs:=rs7) (nt:=nt7) h [.agg (ltS 0)] _ Try.func7 rfl (by kernel_rfl) (by kernel_rfl) rfl (fun E' h0=>by simp only [List.map_cons,List.map_nil,h0]) (of_decide_eq_true rfl) ?_
 simp (maxSteps:=2000000) only [ir7,nt7,rs7,go_sem,↓reduceIte,Nat.reduceLT,Nat.reduceLeDiff,Nat.reduceAdd,Nat.reduceSub,Nat.reduceMul,Nat.reduceEqDiff,reduceCtorEq,Int.reduceToNat,Int.reduceEq,Int.reduceBEq,Int.reduceBNe,Int.reduceLT,Int.reduceLE,Int.reduceNeg,Int.reduceAdd,Int.reduceSub,Int.reduceMul,Int.reduceGE,Int.reduceGT,endO,ltA,ltS]
 refine callV (.c (.v (.bool true))) _ (fun E=>rfl) (fun E a w' hs=>awake_calls w') ?_
 simp (maxSteps:=2000000) only [go_sem,↓reduceIte,Nat.reduceLT,Nat.reduceLeDiff,Nat.reduceAdd,Nat.reduceSub,Nat.reduceMul,Nat.reduceEqDiff,reduceCtorEq,Int.reduceToNat,Int.reduceEq,Int.reduceBEq,Int.reduceBNe,Int.reduceLT,Int.reduceLE,Int.reduceNeg,Int.reduceAdd,Int.reduceSub,Int.reduceMul,Int.reduceGE,Int.reduceGT,endO]
 refine callN 3 (fun b=>.agg (twS b L)) (fun b=>twO b L) (fun E a w' hs=>twin_calls w' _ L hsz (ltL_at hs rfl rfl rfl)) ?_
 simp (maxSteps:=2000000) only [go_sem,↓reduceIte,Nat.reduceLT,Nat.reduceLeDiff,Nat.reduceAdd,Nat.reduceSub,Nat.reduceMul,Nat.reduceEqDiff,reduceCtorEq,Int.reduceToNat,Int.reduceEq,Int.reduceBEq,Int.reduceBNe,Int.reduceLT,Int.reduceLE,Int.reduceNeg,Int.reduceAdd,Int.reduceSub,Int.reduceMul,Int.reduceGE,Int.reduceGT,endO,twS,twO]
 by_cases hL:checkB L=true
 ·by_cases hB:fenB L=true
  ·have hF:=checkB_fen hL hB
   refine callN 3 (fenTp (fenL L)) (fun b=>twO b (fenL L)) (fun E a w' hs=>by
    have:=ifen_calls w' _ L hL hok (lt_ownG hs 4 rfl rfl rfl)
    rw [FenR_pos hB] at this
    exact this) ?_
   simp (maxSteps:=2000000) only [go_sem,↓reduceIte,Nat.reduceLT,Nat.reduceLeDiff,Nat.reduceAdd,Nat.reduceSub,Nat.reduceMul,Nat.reduceEqDiff,reduceCtorEq,Int.reduceToNat,Int.reduceEq,Int.reduceBEq,Int.reduceBNe,Int.reduceLT,Int.reduceLE,Int.reduceNeg,Int.reduceAdd,Int.reduceSub,Int.reduceMul,Int.reduceGE,Int.reduceGT,endO,fenTp,twS,twO]
   refine callN 3 (fenTp (fenL L)) (fun b=>twO b (fenL L)) (fun E a w' hs=>by
    have:=rfen_calls w' _ L hL (ltL_at hs rfl rfl rfl)
    rw [FenR_pos hB] at this
    exact this) ?_
   simp (maxSteps:=2000000) only [go_sem,↓reduceIte,Nat.reduceLT,Nat.reduceLeDiff,Nat.reduceAdd,Nat.reduceSub,Nat.reduceMul,Nat.reduceEqDiff,reduceCtorEq,Int.reduceToNat,Int.reduceEq,Int.reduceBEq,Int.reduceBNe,Int.reduceLT,Int.reduceLE,Int.reduceNeg,Int.reduceAdd,Int.reduceSub,Int.reduceMul,Int.reduceGE,Int.reduceGT,endO,fenTp,twS,twO]
   refine callV (.c (.v (.bool true))) _ (fun E=>rfl) (fun E a w' hs=>slitmus_calls w' _ _ (fenL L) (lt_ownG hs 8 rfl rfl rfl) (lt_ownG hs 12 rfl rfl rfl)) ?_
   simp (maxSteps:=2000000) only [go_sem,↓reduceIte,Nat.reduceLT,Nat.reduceLeDiff,Nat.reduceAdd,Nat.reduceSub,Nat.reduceMul,Nat.reduceEqDiff,reduceCtorEq,Int.reduceToNat,Int.reduceEq,Int.reduceBEq,Int.reduceBNe,Int.reduceLT,Int.reduceLE,Int.reduceNeg,Int.reduceAdd,Int.reduceSub,Int.reduceMul,Int.reduceGE,Int.reduceGT,endO]
   refine callV (.c (.v (.int .i64 0))) _ (fun E=>rfl) (fun E a w' hs=>num_calls w' _) ?_
   simp (maxSteps:=2000000) only [go_sem,↓reduceIte,Nat.reduceLT,Nat.reduceLeDiff,Nat.reduceAdd,Nat.reduceSub,Nat.reduceMul,Nat.reduceEqDiff,reduceCtorEq,Int.reduceToNat,Int.reduceEq,Int.reduceBEq,Int.reduceBNe,Int.reduceLT,Int.reduceLE,Int.reduceNeg,Int.reduceAdd,Int.reduceSub,Int.reduceMul,Int.reduceGE,Int.reduceGT,endO]
   refine guardW (.c (.v (.bool true))) _ (fun E=>rfl) (fun E a w' hs=>slitmus_calls w' _ _ L (lt_ownG hs 4 rfl rfl rfl) (ltL_at hs rfl rfl rfl)) ?_
   simp (maxSteps:=2000000) only [go_sem,↓reduceIte,Nat.reduceLT,Nat.reduceLeDiff,Nat.reduceAdd,Nat.reduceSub,Nat.reduceMul,Nat.reduceEqDiff,reduceCtorEq,Int.reduceToNat,Int.reduceEq,Int.reduceBEq,Int.reduceBNe,Int.reduceLT,Int.reduceLE,Int.reduceNeg,Int.reduceAdd,Int.reduceSub,Int.reduceMul,Int.reduceGE,Int.reduceGT,endO]
   cases hb:bfs L 1 with
   | none =>
    refine callV (nilF 192) _ (nilF_den _) (fun E a w' hs=>by
     have:=ifin_calls w' _ L 1 hL ⟨by decide,by decide⟩ hok (ltL_at hs rfl rfl rfl)
     unfold FinR at this
     rw [hb] at this
     exact this) ?_
    simp (maxSteps:=2000000) only [go_sem,↓reduceIte,Nat.reduceLT,Nat.reduceLeDiff,Nat.reduceAdd,Nat.reduceSub,Nat.reduceMul,Nat.reduceEqDiff,reduceCtorEq,Int.reduceToNat,Int.reduceEq,Int.reduceBEq,Int.reduceBNe,Int.reduceLT,Int.reduceLE,Int.reduceNeg,Int.reduceAdd,Int.reduceSub,Int.reduceMul,Int.reduceGE,Int.reduceGT,endO,nilF]
    refine callV (.c (.v (.int .i64 192))) _ (fun E=>rfl) (fun E a w' hs=>num_calls w' _) ?_
    simp (maxSteps:=2000000) only [go_sem,↓reduceIte,Nat.reduceLT,Nat.reduceLeDiff,Nat.reduceAdd,Nat.reduceSub,Nat.reduceMul,Nat.reduceEqDiff,reduceCtorEq,Int.reduceToNat,Int.reduceEq,Int.reduceBEq,Int.reduceBNe,Int.reduceLT,Int.reduceLE,Int.reduceNeg,Int.reduceAdd,Int.reduceSub,Int.reduceMul,Int.reduceGE,Int.reduceGT,endO]
    refine callV (.c (.v (.int .i64 192))) _ (fun E=>rfl) (fun E a w' hs=>num_calls w' _) ?_
    simp (maxSteps:=2000000) only [go_sem,↓reduceIte,Nat.reduceLT,Nat.reduceLeDiff,Nat.reduceAdd,Nat.reduceSub,Nat.reduceMul,Nat.reduceEqDiff,reduceCtorEq,Int.reduceToNat,Int.reduceEq,Int.reduceBEq,Int.reduceBNe,Int.reduceLT,Int.reduceLE,Int.reduceNeg,Int.reduceAdd,Int.reduceSub,Int.reduceMul,Int.reduceGE,Int.reduceGT,endO]
    exact retV fun E=>by simp [SV.den,SC.den]
   | some l =>
    generalize hfl:finsL L (l.map (·.s))=fl
    refine callN 3 (leT 2 fl.length 0) (fun b=>foO b fl) (fun E a w' hs=>by
     have:=ifin_calls w' _ L 1 hL ⟨by decide,by decide⟩ hok (ltL_at hs rfl rfl rfl)
     unfold FinR at this
     rw [hb] at this
     rw [← hfl]
     exact this) ?_
    simp (maxSteps:=2000000) only [go_sem,↓reduceIte,Nat.reduceLT,Nat.reduceLeDiff,Nat.reduceAdd,Nat.reduceSub,Nat.reduceMul,Nat.reduceEqDiff,reduceCtorEq,Int.reduceToNat,Int.reduceEq,Int.reduceBEq,Int.reduceBNe,Int.reduceLT,Int.reduceLE,Int.reduceNeg,Int.reduceAdd,Int.reduceSub,Int.reduceMul,Int.reduceGE,Int.reduceGT,endO,leT,foO]
    refine callV (.c (.v (.int .i64 0))) _ (fun E=>rfl) (fun E a w' hs=>num_calls w' _) ?_
    simp (maxSteps:=2000000) only [go_sem,↓reduceIte,Nat.reduceLT,Nat.reduceLeDiff,Nat.reduceAdd,Nat.reduceSub,Nat.reduceMul,Nat.reduceEqDiff,reduceCtorEq,Int.reduceToNat,Int.reduceEq,Int.reduceBEq,Int.reduceBNe,Int.reduceLT,Int.reduceLE,Int.reduceNeg,Int.reduceAdd,Int.reduceSub,Int.reduceMul,Int.reduceGE,Int.reduceGT,endO]
    refine loopI (ι:={ o:Nat // 1≤o∧o≤4 }) (fun o=>⟨77,[(4,.c (.ptr (11,0,0) 0)),(8,.c (.sl (16,0,0) 2 0 fl.length none)),(9,.c (.v (.int .i64 (o.1:Nat))))],fwS (fenL L) fl,ltA 0 L,[],19⟩) (fun o=>4 - o.1) ⟨1,by decide,by decide⟩ (le_ren id rfl rfl (by simp [TmpsLe,look,SV.ren,SC.ren,idσ,SV.okN,SC.okN]) (fwS_same rfl rfl rfl rfl rfl rfl rfl) (arr_ltA (p:=(· < 19)) (fun i h=>Nat.lt_trans h (show 3<19 by decide)) (fun i h=>rfl) rfl rfl rfl) rfl) ?_
    rintro ⟨o,ho1,ho4⟩
    simp (maxSteps:=2000000) only [go_sem,↓reduceIte,Nat.reduceLT,Nat.reduceLeDiff,Nat.reduceAdd,Nat.reduceSub,Nat.reduceMul,Nat.reduceEqDiff,reduceCtorEq,Int.reduceToNat,Int.reduceEq,Int.reduceBEq,Int.reduceBNe,Int.reduceLT,Int.reduceLE,Int.reduceNeg,Int.reduceAdd,Int.reduceSub,Int.reduceMul,Int.reduceGE,Int.reduceGT,endO,fwS,twO,foO,ltA]
    refine both (fun hle=>?_) (fun hgt=>?_)
    ·have hle:o≤3:=by
      have:=of_decide_eq_true hle
      omega
     have hoo:(1:Int)≤(o:Nat)∧((o:Nat):Int)≤3:=by omega
     cases hb' : bfs (fenL L) (o:Nat) with
     | none =>
      refine callV (nilF 192) _ (nilF_den _) (fun E a w' hs=>by
       have:=ifin_calls w' _ (fenL L) (o:Nat) hF hoo (ltok_fen hok) (lt_ownG hs 8 rfl rfl rfl)
       unfold FinR at this
       rw [hb'] at this
       exact this) ?_
      simp (maxSteps:=2000000) only [go_sem,↓reduceIte,Nat.reduceLT,Nat.reduceLeDiff,Nat.reduceAdd,Nat.reduceSub,Nat.reduceMul,Nat.reduceEqDiff,reduceCtorEq,Int.reduceToNat,Int.reduceEq,Int.reduceBEq,Int.reduceBNe,Int.reduceLT,Int.reduceLE,Int.reduceNeg,Int.reduceAdd,Int.reduceSub,Int.reduceMul,Int.reduceGE,Int.reduceGT,endO,nilF]
      refine callV (.c (.v (.int .i64 192))) _ (fun E=>rfl) (fun E a w' hs=>num_calls w' _) ?_
      simp (maxSteps:=2000000) only [go_sem,↓reduceIte,Nat.reduceLT,Nat.reduceLeDiff,Nat.reduceAdd,Nat.reduceSub,Nat.reduceMul,Nat.reduceEqDiff,reduceCtorEq,Int.reduceToNat,Int.reduceEq,Int.reduceBEq,Int.reduceBNe,Int.reduceLT,Int.reduceLE,Int.reduceNeg,Int.reduceAdd,Int.reduceSub,Int.reduceMul,Int.reduceGE,Int.reduceGT,endO]
      rw [wr_succ (by omega)]
      exact backI ⟨o+1,by omega,by omega⟩ (by simp only;omega) (le_ren id rfl rfl (by simp [TmpsLe,look,SV.ren,SC.ren,idσ,SV.okN,SC.okN]) (fwS_same rfl rfl rfl rfl rfl rfl rfl) (arr_ltA (p:=(· < 19)) (fun i h=>Nat.lt_trans h (show 3<19 by decide)) (fun i h=>rfl) rfl rfl rfl) rfl)
     | some l' =>
      have hfl' : finsL (fenL L) (l'.map (·.s))=fl:=by rw [fenced_eq hoo hL hB hb' hb,hfl]
      refine callN 3 (leT 2 fl.length 0) (fun b=>foO b fl) (fun E a w' hs=>by
       have:=ifin_calls w' _ (fenL L) (o:Nat) hF hoo (ltok_fen hok) (lt_ownG hs 8 rfl rfl rfl)
       unfold FinR at this
       rw [hb'] at this
       rw [← hfl']
       exact this) ?_
      simp (maxSteps:=2000000) only [go_sem,↓reduceIte,Nat.reduceLT,Nat.reduceLeDiff,Nat.reduceAdd,Nat.reduceSub,Nat.reduceMul,Nat.reduceEqDiff,reduceCtorEq,Int.reduceToNat,Int.reduceEq,Int.reduceBEq,Int.reduceBNe,Int.reduceLT,Int.reduceLE,Int.reduceNeg,Int.reduceAdd,Int.reduceSub,Int.reduceMul,Int.reduceGE,Int.reduceGT,endO,leT,foO]
      refine callV (.c (.v (.int .i64 0))) _ (fun E=>rfl) (fun E a w' hs=>num_calls w' _) ?_
      simp (maxSteps:=2000000) only [go_sem,↓reduceIte,Nat.reduceLT,Nat.reduceLeDiff,Nat.reduceAdd,Nat.reduceSub,Nat.reduceMul,Nat.reduceEqDiff,reduceCtorEq,Int.reduceToNat,Int.reduceEq,Int.reduceBEq,Int.reduceBNe,Int.reduceLT,Int.reduceLE,Int.reduceNeg,Int.reduceAdd,Int.reduceSub,Int.reduceMul,Int.reduceGE,Int.reduceGT,endO]
      refine callV (.c (.v (.int .i64 0))) _ (fun E=>rfl) (fun E a w' hs=>num_calls w' _) ?_
      simp (maxSteps:=2000000) only [go_sem,↓reduceIte,Nat.reduceLT,Nat.reduceLeDiff,Nat.reduceAdd,Nat.reduceSub,Nat.reduceMul,Nat.reduceEqDiff,reduceCtorEq,Int.reduceToNat,Int.reduceEq,Int.reduceBEq,Int.reduceBNe,Int.reduceLT,Int.reduceLE,Int.reduceNeg,Int.reduceAdd,Int.reduceSub,Int.reduceMul,Int.reduceGE,Int.reduceGT,endO]
      refine guardW (.c (.v (.bool true))) _ (fun E=>rfl) (fun E a w' hs=>by
       have:=sfinalsD_calls w' _ _ fl fl (fns_own hs 19 rfl rfl rfl) (fns_own hs 16 rfl rfl rfl)
       rw [decide_eq_true rfl] at this
       exact this) ?_
      simp (maxSteps:=2000000) only [go_sem,↓reduceIte,Nat.reduceLT,Nat.reduceLeDiff,Nat.reduceAdd,Nat.reduceSub,Nat.reduceMul,Nat.reduceEqDiff,reduceCtorEq,Int.reduceToNat,Int.reduceEq,Int.reduceBEq,Int.reduceBNe,Int.reduceLT,Int.reduceLE,Int.reduceNeg,Int.reduceAdd,Int.reduceSub,Int.reduceMul,Int.reduceGE,Int.reduceGT,endO]
      rw [wr_succ (by omega)]
      exact backI ⟨o+1,by omega,by omega⟩ (by simp only;omega) (le_ren id rfl rfl (by simp [TmpsLe,look,SV.ren,SC.ren,idσ,SV.okN,SC.okN]) (fwS_same rfl rfl rfl rfl rfl rfl rfl) (arr_ltA (p:=(· < 19)) (fun i h=>Nat.lt_trans h (show 3<19 by decide)) (fun i h=>rfl) rfl rfl rfl) rfl)
    ·exact retV fun E=>by simp [SV.den,SC.den]
  ·refine callV (nilL 3) _ (nilL_den _) (fun E a w' hs=>by
    have:=ifen_calls w' _ L hL hok (lt_ownG hs 4 rfl rfl rfl)
    rw [FenR_neg hB] at this
    exact this) ?_
   simp (maxSteps:=2000000) only [go_sem,↓reduceIte,Nat.reduceLT,Nat.reduceLeDiff,Nat.reduceAdd,Nat.reduceSub,Nat.reduceMul,Nat.reduceEqDiff,reduceCtorEq,Int.reduceToNat,Int.reduceEq,Int.reduceBEq,Int.reduceBNe,Int.reduceLT,Int.reduceLE,Int.reduceNeg,Int.reduceAdd,Int.reduceSub,Int.reduceMul,Int.reduceGE,Int.reduceGT,endO,nilL]
   refine callV (nilL 3) _ (nilL_den _) (fun E a w' hs=>by
    have:=rfen_calls w' _ L hL (ltL_at hs rfl rfl rfl)
    rw [FenR_neg hB] at this
    exact this) ?_
   simp (maxSteps:=2000000) only [go_sem,↓reduceIte,Nat.reduceLT,Nat.reduceLeDiff,Nat.reduceAdd,Nat.reduceSub,Nat.reduceMul,Nat.reduceEqDiff,reduceCtorEq,Int.reduceToNat,Int.reduceEq,Int.reduceBEq,Int.reduceBNe,Int.reduceLT,Int.reduceLE,Int.reduceNeg,Int.reduceAdd,Int.reduceSub,Int.reduceMul,Int.reduceGE,Int.reduceGT,endO,nilL]
   refine callV (.c (.v (.bool true))) _ (fun E=>rfl) (fun E a w' hs=>slitmus_calls w' _ _ ⟨[],[]⟩ (lt_nil w') (lt_nil w')) ?_
   simp (maxSteps:=2000000) only [go_sem,↓reduceIte,Nat.reduceLT,Nat.reduceLeDiff,Nat.reduceAdd,Nat.reduceSub,Nat.reduceMul,Nat.reduceEqDiff,reduceCtorEq,Int.reduceToNat,Int.reduceEq,Int.reduceBEq,Int.reduceBNe,Int.reduceLT,Int.reduceLE,Int.reduceNeg,Int.reduceAdd,Int.reduceSub,Int.reduceMul,Int.reduceGE,Int.reduceGT,endO]
   refine callV (.c (.v (.int .i64 3))) _ (fun E=>rfl) (fun E a w' hs=>num_calls w' _) ?_
   simp (maxSteps:=2000000) only [go_sem,↓reduceIte,Nat.reduceLT,Nat.reduceLeDiff,Nat.reduceAdd,Nat.reduceSub,Nat.reduceMul,Nat.reduceEqDiff,reduceCtorEq,Int.reduceToNat,Int.reduceEq,Int.reduceBEq,Int.reduceBNe,Int.reduceLT,Int.reduceLE,Int.reduceNeg,Int.reduceAdd,Int.reduceSub,Int.reduceMul,Int.reduceGE,Int.reduceGT,endO]
   refine guardW (.c (.v (.bool true))) _ (fun E=>rfl) (fun E a w' hs=>slitmus_calls w' _ _ L (lt_ownG hs 4 rfl rfl rfl) (ltL_at hs rfl rfl rfl)) ?_
   simp (maxSteps:=2000000) only [go_sem,↓reduceIte,Nat.reduceLT,Nat.reduceLeDiff,Nat.reduceAdd,Nat.reduceSub,Nat.reduceMul,Nat.reduceEqDiff,reduceCtorEq,Int.reduceToNat,Int.reduceEq,Int.reduceBEq,Int.reduceBNe,Int.reduceLT,Int.reduceLE,Int.reduceNeg,Int.reduceAdd,Int.reduceSub,Int.reduceMul,Int.reduceGE,Int.reduceGT,endO]
   exact retV fun E=>by simp [SV.den,SC.den]
 ·have hL:checkB L=false:=by simpa using hL
  refine callV (nilL 190) _ (nilL_den _) (fun E a w' hs=>ifen_err w' _ L hL hok (lt_ownG hs 4 rfl rfl rfl)) ?_
  simp (maxSteps:=2000000) only [go_sem,↓reduceIte,Nat.reduceLT,Nat.reduceLeDiff,Nat.reduceAdd,Nat.reduceSub,Nat.reduceMul,Nat.reduceEqDiff,reduceCtorEq,Int.reduceToNat,Int.reduceEq,Int.reduceBEq,Int.reduceBNe,Int.reduceLT,Int.reduceLE,Int.reduceNeg,Int.reduceAdd,Int.reduceSub,Int.reduceMul,Int.reduceGE,Int.reduceGT,endO,nilL]
  refine callV (nilL 190) _ (nilL_den _) (fun E a w' hs=>rfen_err w' _ L hL (ltL_at hs rfl rfl rfl)) ?_
  simp (maxSteps:=2000000) only [go_sem,↓reduceIte,Nat.reduceLT,Nat.reduceLeDiff,Nat.reduceAdd,Nat.reduceSub,Nat.reduceMul,Nat.reduceEqDiff,reduceCtorEq,Int.reduceToNat,Int.reduceEq,Int.reduceBEq,Int.reduceBNe,Int.reduceLT,Int.reduceLE,Int.reduceNeg,Int.reduceAdd,Int.reduceSub,Int.reduceMul,Int.reduceGE,Int.reduceGT,endO,nilL]
  refine callV (.c (.v (.bool true))) _ (fun E=>rfl) (fun E a w' hs=>slitmus_calls w' _ _ ⟨[],[]⟩ (lt_nil w') (lt_nil w')) ?_
  simp (maxSteps:=2000000) only [go_sem,↓reduceIte,Nat.reduceLT,Nat.reduceLeDiff,Nat.reduceAdd,Nat.reduceSub,Nat.reduceMul,Nat.reduceEqDiff,reduceCtorEq,Int.reduceToNat,Int.reduceEq,Int.reduceBEq,Int.reduceBNe,Int.reduceLT,Int.reduceLE,Int.reduceNeg,Int.reduceAdd,Int.reduceSub,Int.reduceMul,Int.reduceGE,Int.reduceGT,endO]
  refine callV (.c (.v (.int .i64 190))) _ (fun E=>rfl) (fun E a w' hs=>num_calls w' _) ?_
  simp (maxSteps:=2000000) only [go_sem,↓reduceIte,Nat.reduceLT,Nat.reduceLeDiff,Nat.reduceAdd,Nat.reduceSub,Nat.reduceMul,Nat.reduceEqDiff,reduceCtorEq,Int.reduceToNat,Int.reduceEq,Int.reduceBEq,Int.reduceBNe,Int.reduceLT,Int.reduceLE,Int.reduceNeg,Int.reduceAdd,Int.reduceSub,Int.reduceMul,Int.reduceGE,Int.reduceGT,endO]
  refine guardW (.c (.v (.bool true))) _ (fun E=>rfl) (fun E a w' hs=>slitmus_calls w' _ _ L (lt_ownG hs 4 rfl rfl rfl) (ltL_at hs rfl rfl rfl)) ?_
  simp (maxSteps:=2000000) only [go_sem,↓reduceIte,Nat.reduceLT,Nat.reduceLeDiff,Nat.reduceAdd,Nat.reduceSub,Nat.reduceMul,Nat.reduceEqDiff,reduceCtorEq,Int.reduceToNat,Int.reduceEq,Int.reduceBEq,Int.reduceBNe,Int.reduceLT,Int.reduceLE,Int.reduceNeg,Int.reduceAdd,Int.reduceSub,Int.reduceMul,Int.reduceGE,Int.reduceGT,endO]
  exact retV fun E=>by simp [SV.den,SC.den]
end Go.Proofs.Ytmcpdafmkkjlcaa.Z
namespace Go.Proofs.Ytmcpdafmkkjlcaa.Z
open Go Go.RowKit Go.ChangeShapes Go.WideShapes Go.ChangeAt
theorem own:ownKnob Try.prog.godebug=none:=by kernel_rfl
theorem laidOut:laidOutB Try.prog=true:=by kernel_rfl
section
variable {H:Type} {enc:TypeId×Value→H} {P:Program} {w:World} {base:Nat} {spare:Nat→Bool} {held:Bool}
theorem leaf_sliceW {α:Type} {b:Nat} {ws:List Nat} {u e:TypeId} {c:Value} (hu:P.underlying u=some (.slice e)) {s:Nat} (hpos:0<s) (hc:P.cellsOf e=s) (encA:α→List Value) (Q:α→Prop)
  (helem:∀ (m:Nat) (cs:List Value) (y:DataW H×List MemPlace),cs.length=s→DataW.trod enc P w base spare held m e cs=some y→(∀ k∈y.1.weights P e,k∈ws)→∃ x:α,cs=encA x∧Q x)
  (h:LeafAt enc P w base spare held b ws u c):∃ xs:List α,Arr w encA s c xs∧(∀ x∈xs,Q x)∧xs.length+1≤b∧(xs=[]∨∃ k∈ws,xs.length * P.bytesOf e≤k):=by
 obtain ⟨m,y,h1,hb,hw⟩:=h
 rcases DataW.trod_slice hu h1 with ⟨hcs,rfl⟩ | ⟨a,len,cap,elems,rest,n,_,hcs,rfl,hba,hl,hm,hlen,hel,hsp,hns⟩
 ·simp only [List.cons.injEq,and_true] at hcs
  subst hcs
  refine ⟨[],Arr.nil _ _ _,by simp,?_,Or.inl rfl⟩
  simp only [Rows.uptoBulk] at hb
  simpa using hb
 ·simp only [List.cons.injEq,and_true] at hcs
  subst hcs
  have each:∀ i,i<len→∃ x:α,(∃ cs,w.cells? base (a.add (i * s)) s=some cs∧cs=encA x)∧Q x:=by
   intro i hi
   have h2:=hel i hi
   rw [List.getElem?_eq_getElem (by omega),hc] at h2
   obtain ⟨cs,h3,h4⟩:=Option.bind_eq_some_iff.1 h2
   obtain ⟨x,h5,h6⟩:=helem n cs _ (World.cells?_some h3).2.1 h4 (fun k hk=>hw k (by
    simp only [DataW.weights,hu]
    exact List.mem_cons_of_mem _ (List.mem_append_left _ (weightsAll_mem (List.mem_map.2 ⟨_,List.getElem_mem (by omega),rfl⟩) k hk))))
   exact ⟨x,⟨cs,h3,h5⟩,h6⟩
  obtain ⟨xs,hxl,hx⟩:=choose_list len each
  refine ⟨xs,?_,?_,?_,?_⟩
  ·refine ⟨some a,cap,by rw [hxl],by omega,hm,?_⟩
   by_cases h0:xs=[]
   ·exact Or.inl h0
   ·right
    by_cases hspot:a.spot=none
    ·obtain ⟨ab,ao,sp⟩:=a
     simp only at hspot
     subst hspot
     refine ⟨ab,ao,rfl,fun k x hk j u hj=>?_⟩
     obtain ⟨⟨cs,h3,rfl⟩,_⟩:=hx k x hk
     obtain ⟨_,hlc,hcell⟩:=World.cells?_some h3
     have hjs:j<s:=by rw [← hlc];exact (List.getElem?_eq_some_iff.1 hj).1
     have h4:=hcell j hjs
     rw [hj] at h4
     rw [← h4]
     congr 1
     unfold Addr.add
     split <;> split <;> simp_all
    ·exfalso
     obtain ⟨x0,hx0⟩:∃ x0,xs[0]? = some x0:=by cases xs with | nil=>exact absurd rfl h0 | cons y _=>exact ⟨y,rfl⟩
     obtain ⟨⟨cs,h3,_⟩,_⟩:=hx 0 x0 hx0
     obtain ⟨_,hlc,hcell⟩:=World.cells?_some h3
     have h4:=hcell 0 hpos
     rw [Nat.zero_mul] at h4
     have e:(a.add 0).add 0=a:=by simp [Addr.add]
     rw [e,List.getElem?_eq_getElem (by omega)] at h4
     unfold World.cell? at h4
     split at h4
     ·cases hs:a.spot with
      | none=>exact hspot hs
      | some q=>rw [hs] at h4;simp at h4
     ·cases h4
  ·intro x hx'
   obtain ⟨i,hi⟩:=List.getElem?_of_mem hx'
   exact (hx i x hi).2
  ·have h2:=length_le_bulk (elems.map (·.1))
   simp only [Rows.uptoBulk,List.length_map] at hb h2
   omega
  ·right
   refine ⟨_,hw (((elems.map (·.1)).length+(rest.map (·.1)).length) * P.bytesOf e) ?_,?_⟩
   ·simp only [DataW.weights,hu]
    exact List.mem_cons_self
   ·rw [hxl,List.length_map,hlen]
    exact Nat.mul_le_mul_right _ (by omega)
end
section
variable {H:Type} {enc:TypeId×Value→H} {w:World}
theorem reach_len {α:Type} {x:List α} {s:Nat} {ws:List Nat} (hr:∀ k∈ws,k≤reachBytes) (h:x=[]∨∃ k∈ws,x.length * s≤k):x.length * s≤140737488351232:=by
 rcases h with rfl | ⟨k,hk,h⟩
 ·simp
 ·have:=hr k hk
  unfold reachBytes at this
  omega
theorem lit_rng {n:Int} (h:(Lit.int .i64 n).wf=true) : -9223372036854775808≤n∧n≤9223372036854775807:=by
 simp [Lit.wf,IntKind.min,IntKind.max,IntKind.signed,IntKind.bits] at h
 omega
theorem leavesIs:leavesIn Try.prog 9 83=some [81,3,3,3,3,3,3]:=by kernel_rfl
theorem cellsIs:Try.prog.cellsOf 83=7:=by kernel_rfl
theorem bytesIs:Try.prog.bytesOf 83=56:=by kernel_rfl
theorem leavesLt:leavesIn Try.prog 9 25=some [22,23]:=by kernel_rfl
theorem cellsLt:Try.prog.cellsOf 25=2:=by kernel_rfl
theorem cellsI1:Try.prog.cellsOf 3=1:=by kernel_rfl
theorem bytesI1:Try.prog.bytesOf 3=8:=by kernel_rfl
theorem cellsIl:Try.prog.cellsOf 80=1:=by kernel_rfl
theorem bytesIl:Try.prog.bytesOf 80=24:=by kernel_rfl
theorem leavesIl:leavesIn Try.prog 9 80=some [80]:=by kernel_rfl
theorem leaf_ints {b:Nat} {ws:List Nat} {c:Value} (h:LeafAt enc Try.prog w 0 (fun _=>true) true b ws 22 c) :
  ∃ xs:List Int,Arr w eI 1 c xs∧(xs=[]∨∃ k∈ws,xs.length * 8≤k):=by
 obtain ⟨xs,h1,h4,h2,h3⟩:=h.slice (α:=Int) Try.underlying22 (by decide) cellsI1 eI (fun x=>True) (fun m cs y hl ht=>by
  match cs,hl with
  | [c0],_ =>
   have L:=leaf_of 9 _ _ (show leavesIn Try.prog 9 3=some [3] by kernel_rfl) m _ _ ht
   obtain ⟨x0,rfl,r0⟩:=(L 0 _ c0 rfl rfl).int Try.underlying3
   exact ⟨x0,rfl,trivial⟩)
 rw [bytesI1] at h3
 exact ⟨xs,h1,h3⟩
theorem leaf_code {b:Nat} {ws:List Nat} {c:Value} (h:LeafAt enc Try.prog w 0 (fun _=>true) true b ws 80 c) :
  ∃ xs:List Ins,Arr w Ins.enc 7 c xs∧(∀ c∈xs,InR c)∧(xs=[]∨∃ k∈ws,xs.length * 56≤k):=by
 obtain ⟨xs,h1,h4,h2,h3⟩:=h.slice (α:=Ins) Try.underlying80 (by decide) cellsIs Ins.enc InR (fun m cs y hl ht=>by
  match cs,hl with
  | [c0,c1,c2,c3,c4,c5,c6],_ =>
   have L:=leaf_of 9 _ _ leavesIs m _ _ ht
   obtain ⟨x0,rfl,_⟩:=(L 0 _ c0 rfl rfl).int Try.underlying81
   obtain ⟨x1,rfl,_⟩:=(L 1 _ c1 rfl rfl).int Try.underlying3
   obtain ⟨x2,rfl,_⟩:=(L 2 _ c2 rfl rfl).int Try.underlying3
   obtain ⟨x3,rfl,_⟩:=(L 3 _ c3 rfl rfl).int Try.underlying3
   obtain ⟨x4,rfl,r4⟩:=(L 4 _ c4 rfl rfl).int Try.underlying3
   obtain ⟨x5,rfl,_⟩:=(L 5 _ c5 rfl rfl).int Try.underlying3
   obtain ⟨x6,rfl,_⟩:=(L 6 _ c6 rfl rfl).int Try.underlying3
   exact ⟨⟨x0,x1,x2,x3,x4,x5,x6⟩,rfl,lit_rng r4⟩)
 rw [bytesIs] at h3
 exact ⟨xs,h1,h4,h3⟩
theorem leaf_codes {b:Nat} {ws:List Nat} {c:Value} (h:LeafAt enc Try.prog w 0 (fun _=>true) true b ws 23 c) :
  ∃ ls:List (List Ins),Nest w Ins.enc 7 c ls∧(∀ code∈ls,∀ c∈code,InR c)∧(ls=[]∨∃ k∈ws,ls.length * 24≤k)∧(∀ code∈ls,code=[]∨∃ k∈ws,code.length * 56≤k):=by
 obtain ⟨vs,h1,h4,_,h3⟩:=leaf_sliceW (h:=h) (α:=Value) Try.underlying23 (by decide) cellsIl one1' (fun v=>∃ is:List Ins,Arr w Ins.enc 7 v is∧(∀ c∈is,InR c)∧(is=[]∨∃ k∈ws,is.length * 56≤k)) (fun m cs y hl ht hw=>by
  match cs,hl with
  | [c0],_ =>
   have L:=leaf_of 9 _ _ leavesIl m _ _ ht
   obtain ⟨is,g1,g2,g3⟩:=leaf_code (L 0 _ c0 rfl rfl)
   exact ⟨c0,rfl,is,g1,g2,g3.imp id fun ⟨k,hk,h⟩=>⟨k,hw k hk,h⟩⟩)
 rw [bytesIl] at h3
 obtain ⟨ls,hl,hls⟩:=choose_list (R:=fun i is=>Arr w Ins.enc 7 (vs.getD i nest0) is∧(∀ c∈is,InR c)∧(is=[]∨∃ k∈ws,is.length * 56≤k)) vs.length (fun i hi=>by
  obtain ⟨is,g⟩:=h4 (vs.getD i nest0) (by rw [List.getD_eq_getElem?_getD,List.getElem?_eq_getElem hi];exact List.getElem_mem hi)
  exact ⟨is,g⟩)
 refine ⟨ls,⟨vs,h1,hl.symm,fun k hk=>?_⟩,fun code hc=>?_,?_,fun code hc=>?_⟩
 ·rw [List.getD_eq_getElem?_getD (l:=ls),List.getElem?_eq_getElem hk]
  exact (hls k _ (List.getElem?_eq_getElem hk)).1
 ·obtain ⟨i,hi⟩:=List.getElem?_of_mem hc
  exact (hls i _ hi).2.1
 ·rw [hl]
  refine h3.imp (fun e=>?_) id
  subst e
  exact List.eq_nil_of_length_eq_zero hl
 ·obtain ⟨i,hi⟩:=List.getElem?_of_mem hc
  exact (hls i _ hi).2.2
set_option maxRecDepth 100000 in
theorem open_litmus {base:Nat} {v:Value} {d:DataW H} {p:List MemPlace} (hv:Value.okWide Try.prog w .any base 25 v) (h:DataW.Trod enc Try.prog w 0 (fun _=>true) true 25 v d p) :
  ∃ L,LtR w v L∧LtOk L∧((∀ k∈d.weights Try.prog 25,k≤reachBytes)→LtSz L):=by
 obtain ⟨cs,rfl,hsz⟩:=okWide_struct Try.underlying25 hv
 obtain ⟨l⟩:=cs
 obtain ⟨fuel,hf⟩:=h
 match l,hsz.trans cellsLt with
 | [c0,c1],_ =>
  have L:=leaf_of 9 _ _ leavesLt fuel _ _ hf
  obtain ⟨xs,h1,h2⟩:=leaf_ints (L 0 22 c0 rfl rfl)
  obtain ⟨ls,g1,g2,g3,g4⟩:=leaf_codes (L 1 23 c1 rfl rfl)
  refine ⟨⟨xs,ls⟩,⟨c0,c1,rfl,h1,g1⟩,g2,fun hr=>⟨reach_len hr h2,reach_len hr g3,fun k hk=>?_⟩⟩
  have hm:ls.getD k []∈ls:=by rw [List.getD_eq_getElem?_getD,List.getElem?_eq_getElem hk];exact List.getElem_mem hk
  exact reach_len hr (g4 _ hm)
end
end Go.Proofs.Ytmcpdafmkkjlcaa.Z
