/- ModelOwnSaid: what its proof is made of. No condition. -/
import Derived.Test.YtgljbdcamagdbaaPkModelOwnAO
set_option linter.unusedSimpArgs false
set_option linter.unusedVariables false
namespace Go.Proofs.Ytgljbdcamagdbaa.Z
open Go Go.RowKit
def OddP (z:Nm) (E:Env) (h:PH):Prop:=h=emp∧∃ ba:Addr,E.χ z = .slice (some ba) 0 0
def oddO (b:Nat):Own:=[(b,.one (.pr (OddP (b,0,0))))]
def doX (ti:Nat) (k v:Int) (b:Nat):SV:=.tup [(false,[.ifc ti (.xv (b,0,0))]),(true,[.v (.int .i64 k),.v (.int .i64 v)])]
theorem retN_doO {α:Type} {W:World} {ti:TypeId} {d:List α×Int×Int} {r:Ending} {w' : World} (h:RetDoO W ti d r w'):RetN W 1 (doX ti d.2.1 d.2.2) oddO r w':=by
 obtain ⟨v',rfl,⟨ba,rfl⟩,hb⟩:=h
 refine ⟨_,rfl,hb,fun b=>⟨⟨fun _=>0,fun _=>0,fun _=>false,fun _=>.slice (some ba) 0 0⟩,fun _=>rfl,fun E2 hE2=>?_⟩⟩
 obtain ⟨h1,h2,h3,h4⟩:=hE2 (b,0,0) ⟨Nat.le_refl _,Nat.lt_succ_self _⟩
 have h4:E2.χ (b,0,0) = .slice (some ba) 0 0:=h4
 refine ⟨by simp [doX,SV.den,den1,SC.den,h4],fun _=>emp,fun x c hx=>?_,fun _ _ _ _ _ _ _ n=>Or.inl rfl,fun x c _ n o hn=>by cases hn⟩
 rcases atN_one hx with ⟨rfl,rfl⟩ | hx
 ·exact ⟨rfl,ba,h4⟩
 ·exact (atN_nil hx).elim
theorem retX {P:Program} {A:List Nat} {w:World} {rs:List RS} {S:St} {v:SV} {nx:Nat} {T:Addr→Nat→SV} {O:Nat→Own} (j:Nat) (hj:look S.own j=some (.one (.pr (OddP (j,0,0))))) (v' : Addr→SV) (hv:∀ ba E,E.χ (j,0,0) = .slice (some ba) 0 0→v.den E=(v' ba).den E)
  (h:∀ ba,RetVC (mkC P A w rs (RetN w nx (T ba) O)) (v' ba) S):RetVC (mkC P A w rs (fun r w2=>∃ ba:Addr,RetN w nx (T ba) O r w2)) v S:=by
 intro E a w' hs
 obtain ⟨H,hH,_⟩:=hs.sat.mem
 have hd:=hH.den (j,0,0) (.pr (OddP (j,0,0))) (by simp [atN,hj,Fm.get])
 simp only [Blk.den] at hd
 obtain ⟨_,ba,hba⟩:=hd
 refine ⟨ba,?_⟩
 rw [hv ba E hba]
 exact h ba E a w' hs
def mcY1 (ba:Addr) (b:Nat) (m:MC):List SC:=[.sl (b,0,0) 1 0 m.cell.length none,.v (.slice (some ba) 0 0),.sl (b+2,0,0) 1 0 m.queue.length none,.sl (b+3,0,0) 1 0 m.set.length none,.sl (b+4,0,0) 2 0 m.table.length none]
def mcX1 (m:MC) (b:Nat):Own:=[(b,.one (.ar m.cell.length 1 (ats eI m.cell 0) 3)),(b+2,.one (.ar m.queue.length 1 (ats eI m.queue 0) 3)),(b+3,.one (.ar m.set.length 1 (ats eI m.set 0) 3)),(b+4,.one (.ar m.table.length 2 (ats eP m.table (0,0)) 76))]
def d3X1 (ba:Addr) (d:MC×Int×Int) (n:Int) (b:Nat):SV:=.tup [(true,mcY1 ba b d.1),(true,[.v (.int .i64 d.2.1),.v (.int .i64 d.2.2)]),(false,[.v (.int .i64 n)])]
theorem retX1 {P:Program} {A:List Nat} {w:World} {rs:List RS} {S:St} {m:MC} {k v n:Int} (i0 i1 i2 i3 i4:Nat) (ba:Addr) (h0:look S.own i0=some (.one (.ar m.cell.length 1 (ats eI m.cell 0) 3))) (h2:look S.own i2=some (.one (.ar m.queue.length 1 (ats eI m.queue 0) 3))) (h3:look S.own i3=some (.one (.ar m.set.length 1 (ats eI m.set 0) 3))) (h4:look S.own i4=some (.one (.ar m.table.length 2 (ats eP m.table (0,0)) 76))) (hn:List.Nodup [i0,i1,i2,i3,i4]) :
  RetVC (mkC P A w rs (RetN w 5 (d3X1 ba (m,k,v) n) (mcX1 m))) (.tup [(true,[.sl (i0,0,0) 1 0 m.cell.length none,.v (.slice (some ba) 0 0),.sl (i2,0,0) 1 0 m.queue.length none,.sl (i3,0,0) 1 0 m.set.length none,.sl (i4,0,0) 2 0 m.table.length none]),(true,[.v (.int .i64 k),.v (.int .i64 v)]),(false,[.v (.int .i64 n)])]) S:=by
 refine retN (fivN i0 i1 i2 i3 i4) (fun b=>?_) (fun b=>?_) (fun b=>?_)
 ·simp [d3X1,mcY1,SV.ren,ren1L,ren1,SC.renL,SC.ren,fromσ,fivN,SV.okN,ok1L,SC.okL,SC.okN,NewIds]
 ·refine ⟨⟨⟨by omega,by omega⟩,?_⟩,⟨⟨by omega,by omega⟩,?_⟩,⟨⟨by omega,by omega⟩,?_⟩,⟨⟨by omega,by omega⟩,?_⟩,trivial⟩
  ·simp only [fromσ,Nat.sub_self,fivN,atN,h0,Fm.get,and_self,if_true];exact ⟨Nat.le_refl _,rfl,rfl,fun e he=>ats_rn e _ _⟩
  ·simp only [fromσ,Nat.add_sub_cancel_left,fivN,atN,h2,Fm.get,and_self,if_true];exact ⟨Nat.le_refl _,rfl,rfl,fun e he=>ats_rn e _ _⟩
  ·simp only [fromσ,Nat.add_sub_cancel_left,fivN,atN,h3,Fm.get,and_self,if_true];exact ⟨Nat.le_refl _,rfl,rfl,fun e he=>ats_rn e _ _⟩
  ·simp only [fromσ,Nat.add_sub_cancel_left,fivN,atN,h4,Fm.get,and_self,if_true];exact ⟨Nat.le_refl _,rfl,rfl,fun e he=>ats_rn e _ _⟩
 ·refine injN_from fun i hi j hj he=>?_
  simp only [List.nodup_cons,List.mem_cons,List.not_mem_nil,or_false,not_or,List.nodup_nil,and_true,not_false_eq_true] at hn
  simp only [mcX1,keysL,List.map_cons,List.map_nil,List.mem_cons,List.not_mem_nil,or_false] at hi hj
  rcases hi with rfl | rfl | rfl | rfl <;> rcases hj with rfl | rfl | rfl | rfl <;> simp only [Nat.sub_self,Nat.add_sub_cancel_left,fivN] at he <;> first | rfl | omega
def mcY2 (ba:Addr) (b:Nat) (m:MC):List SC:=[.sl (b,0,0) 1 0 m.cell.length none,.sl (b+1,0,0) 1 0 m.stack.length none,.v (.slice (some ba) 0 0),.sl (b+3,0,0) 1 0 m.set.length none,.sl (b+4,0,0) 2 0 m.table.length none]
def mcX2 (m:MC) (b:Nat):Own:=[(b,.one (.ar m.cell.length 1 (ats eI m.cell 0) 3)),(b+1,.one (.ar m.stack.length 1 (ats eI m.stack 0) 3)),(b+3,.one (.ar m.set.length 1 (ats eI m.set 0) 3)),(b+4,.one (.ar m.table.length 2 (ats eP m.table (0,0)) 76))]
def d3X2 (ba:Addr) (d:MC×Int×Int) (n:Int) (b:Nat):SV:=.tup [(true,mcY2 ba b d.1),(true,[.v (.int .i64 d.2.1),.v (.int .i64 d.2.2)]),(false,[.v (.int .i64 n)])]
theorem retX2 {P:Program} {A:List Nat} {w:World} {rs:List RS} {S:St} {m:MC} {k v n:Int} (i0 i1 i2 i3 i4:Nat) (ba:Addr) (h0:look S.own i0=some (.one (.ar m.cell.length 1 (ats eI m.cell 0) 3))) (h1:look S.own i1=some (.one (.ar m.stack.length 1 (ats eI m.stack 0) 3))) (h3:look S.own i3=some (.one (.ar m.set.length 1 (ats eI m.set 0) 3))) (h4:look S.own i4=some (.one (.ar m.table.length 2 (ats eP m.table (0,0)) 76))) (hn:List.Nodup [i0,i1,i2,i3,i4]) :
  RetVC (mkC P A w rs (RetN w 5 (d3X2 ba (m,k,v) n) (mcX2 m))) (.tup [(true,[.sl (i0,0,0) 1 0 m.cell.length none,.sl (i1,0,0) 1 0 m.stack.length none,.v (.slice (some ba) 0 0),.sl (i3,0,0) 1 0 m.set.length none,.sl (i4,0,0) 2 0 m.table.length none]),(true,[.v (.int .i64 k),.v (.int .i64 v)]),(false,[.v (.int .i64 n)])]) S:=by
 refine retN (fivN i0 i1 i2 i3 i4) (fun b=>?_) (fun b=>?_) (fun b=>?_)
 ·simp [d3X2,mcY2,SV.ren,ren1L,ren1,SC.renL,SC.ren,fromσ,fivN,SV.okN,ok1L,SC.okL,SC.okN,NewIds]
 ·refine ⟨⟨⟨by omega,by omega⟩,?_⟩,⟨⟨by omega,by omega⟩,?_⟩,⟨⟨by omega,by omega⟩,?_⟩,⟨⟨by omega,by omega⟩,?_⟩,trivial⟩
  ·simp only [fromσ,Nat.sub_self,fivN,atN,h0,Fm.get,and_self,if_true];exact ⟨Nat.le_refl _,rfl,rfl,fun e he=>ats_rn e _ _⟩
  ·simp only [fromσ,Nat.add_sub_cancel_left,fivN,atN,h1,Fm.get,and_self,if_true];exact ⟨Nat.le_refl _,rfl,rfl,fun e he=>ats_rn e _ _⟩
  ·simp only [fromσ,Nat.add_sub_cancel_left,fivN,atN,h3,Fm.get,and_self,if_true];exact ⟨Nat.le_refl _,rfl,rfl,fun e he=>ats_rn e _ _⟩
  ·simp only [fromσ,Nat.add_sub_cancel_left,fivN,atN,h4,Fm.get,and_self,if_true];exact ⟨Nat.le_refl _,rfl,rfl,fun e he=>ats_rn e _ _⟩
 ·refine injN_from fun i hi j hj he=>?_
  simp only [List.nodup_cons,List.mem_cons,List.not_mem_nil,or_false,not_or,List.nodup_nil,and_true,not_false_eq_true] at hn
  simp only [mcX2,keysL,List.map_cons,List.map_nil,List.mem_cons,List.not_mem_nil,or_false] at hi hj
  rcases hi with rfl | rfl | rfl | rfl <;> rcases hj with rfl | rfl | rfl | rfl <;> simp only [Nat.sub_self,Nat.add_sub_cancel_left,fivN] at he <;> first | rfl | omega
set_option maxRecDepth 100000 in
set_option maxHeartbeats 4000000 in
theorem mDoN_cell {w:World} {v:Value} {m:MC} (op arg data:Int) (d:List Int×Int×Int) (h:Cont w v m) (hok:MC.okR m) (hm:mayB m=true) (ho:objOf op=1)
  (hd:∀ (w' : World) v',OwnE w' 0 3 eI 1 v' m.cell→Calls Try.prog 72 #[v',.int .i64 op,.int .i64 arg,.int .i64 data] w' (RetDoN w' 90 3 eI 1 d)) :
  Calls Try.prog 25 #[v,.int .i64 op,.int .i64 arg,.int .i64 data] w (RetN w 5 (d3L ({ m with cell:=d.1 },d.2) 0) (mcO { m with cell:=d.1 })):=by
 obtain ⟨v0,v1,v2,v3,v4,rfl,h'⟩:=id h
 refine enterC (A:=[]) (c:=ir25) (rs:=rs25) (nt:=nt25) h [.agg (mcS 0),.c (.v (.int .i64 op)),.c (.v (.int .i64 arg)),.c (.v (.int .i64 data))] _ Try.func25 rfl (by kernel_rfl) (by kernel_rfl) rfl (fun E' h0=>by
  simp [mcS,SV.den,SC.den] at h0 ⊢
  simp [h0]) (of_decide_eq_true rfl) ?_
 simp (maxSteps:=2000000) only [ir25,nt25,rs25,go_sem,↓reduceIte,Nat.reduceLT,Nat.reduceLeDiff,Nat.reduceAdd,Nat.reduceSub,Nat.reduceMul,Nat.reduceEqDiff,reduceCtorEq,Int.reduceToNat,Int.reduceEq,Int.reduceBEq,Int.reduceBNe,Int.reduceLT,Int.reduceLE,Int.reduceNeg,Int.reduceAdd,Int.reduceSub,Int.reduceMul,Int.reduceGE,Int.reduceGT,endO,mcS,mcA]
 have hr:refN m op=0:=by unfold refN;rw [if_neg (by rw [hm];simp),if_neg (by rw [ho];decide)]
 refine callV (.c (.v (.int .i64 0))) _ (fun E=>rfl) (fun E a w' hs=>by have:=refused_any (w:=w') op (cont_at hs 0 rfl rfl rfl rfl rfl);rw [hr] at this;exact this) ?_
 simp (maxSteps:=2000000) only [go_sem,↓reduceIte,Nat.reduceLT,Nat.reduceLeDiff,Nat.reduceAdd,Nat.reduceSub,Nat.reduceMul,Nat.reduceEqDiff,reduceCtorEq,Int.reduceToNat,Int.reduceEq,Int.reduceBEq,Int.reduceBNe,Int.reduceLT,Int.reduceLE,Int.reduceNeg,Int.reduceAdd,Int.reduceSub,Int.reduceMul,Int.reduceGE,Int.reduceGT,endO]
 refine callN 5 (fun b=>.agg (mcL b m)) (mcO m) (fun E a w' hs=>copied_N (cont_at hs 0 rfl rfl rfl rfl rfl) hok) ?_
 simp (maxSteps:=2000000) only [go_sem,↓reduceIte,Nat.reduceLT,Nat.reduceLeDiff,Nat.reduceAdd,Nat.reduceSub,Nat.reduceMul,Nat.reduceEqDiff,reduceCtorEq,Int.reduceToNat,Int.reduceEq,Int.reduceBEq,Int.reduceBNe,Int.reduceLT,Int.reduceLE,Int.reduceNeg,Int.reduceAdd,Int.reduceSub,Int.reduceMul,Int.reduceGE,Int.reduceGT,endO,mcL,mcO]
 refine draw_vc (by kernel_rfl) (mkTab_ok _ _) (of_decide_eq_true rfl) (of_decide_eq_true rfl) ?_
 repeat (first | simp (maxSteps:=2000000) only [go_sem,↓reduceIte,Nat.reduceLT,Nat.reduceLeDiff,Nat.reduceAdd,Nat.reduceSub,Nat.reduceMul,Nat.reduceEqDiff,reduceCtorEq,Int.reduceToNat,Int.reduceEq,Int.reduceBEq,Int.reduceBNe,Int.reduceLT,Int.reduceLE,Int.reduceNeg,Int.reduceAdd,Int.reduceSub,Int.reduceMul,Int.reduceGE,Int.reduceGT,endO] | rw [dr_cons])
 refine dcallV (.c (.v (.int .i64 1))) _ (fun E=>rfl) (fun E a w' _=>by have:=obj_Z op w';rw [ho] at this;exact this) ?_
 repeat (first | simp (maxSteps:=2000000) only [go_sem,↓reduceIte,Nat.reduceLT,Nat.reduceLeDiff,Nat.reduceAdd,Nat.reduceSub,Nat.reduceMul,Nat.reduceEqDiff,reduceCtorEq,Int.reduceToNat,Int.reduceEq,Int.reduceBEq,Int.reduceBNe,Int.reduceLT,Int.reduceLE,Int.reduceNeg,Int.reduceAdd,Int.reduceSub,Int.reduceMul,Int.reduceGE,Int.reduceGT,endO] | rw [dr_cons])
 refine dcall_intro (cr_valN (.c (.ifc 90 (.sl (8,0,0) 1 0 m.cell.length none))) [8] (by simp [SV.okN,SC.okN]) (fun E a w' hs=>of_any _ _ _ _ _ 1 w')) rfl trivial trivial (fun k hk=>by cases hk) ?_
 repeat (first | simp (maxSteps:=2000000) only [go_sem,↓reduceIte,Nat.reduceLT,Nat.reduceLeDiff,Nat.reduceAdd,Nat.reduceSub,Nat.reduceMul,Nat.reduceEqDiff,reduceCtorEq,Int.reduceToNat,Int.reduceEq,Int.reduceBEq,Int.reduceBNe,Int.reduceLT,Int.reduceLE,Int.reduceNeg,Int.reduceAdd,Int.reduceSub,Int.reduceMul,Int.reduceGE,Int.reduceGT,endO] | rw [dr_cons])
 refine ⟨72,⟨by kernel_rfl,_,Try.underlying90⟩,⟨_,Try.func72,by kernel_rfl,by kernel_rfl⟩,?_⟩
 refine dcallN 1 (doT 90 1 d.1.length d.2.1 d.2.2) (lsO 3 1 eI d.1 0) (fun E a w' hs=>(hd w' _ (own_E hs eI_ok 8 rfl)).mono fun e w2 he=>retN_doN eI_ok he) ⟨⟨Nat.le_refl _,Nat.lt_succ_self _⟩,trivial⟩ ?_
 repeat (first | simp (maxSteps:=2000000) only [go_sem,↓reduceIte,Nat.reduceLT,Nat.reduceLeDiff,Nat.reduceAdd,Nat.reduceSub,Nat.reduceMul,Nat.reduceEqDiff,reduceCtorEq,Int.reduceToNat,Int.reduceEq,Int.reduceBEq,Int.reduceBNe,Int.reduceLT,Int.reduceLE,Int.reduceNeg,Int.reduceAdd,Int.reduceSub,Int.reduceMul,Int.reduceGE,Int.reduceGT,endO,doT,lsO] | rw [dr_cons])
 refine ⟨Or.inl trivial,Or.inr trivial,73,⟨by kernel_rfl,_,Try.underlying90⟩,⟨_,Try.func73,by kernel_rfl,by kernel_rfl⟩,?_⟩
 refine call_inline (c:=ir73) (rs:=rs73) (nt:=nt73) 1000 (mkTab_ok _ _) Try.func73 rfl (by kernel_rfl) (by kernel_rfl) rfl (by simp [okVs,SV.okN,SC.okL,SC.okN]) (of_decide_eq_true rfl) (fun E0 a0 ht0=>?_)
 simp (maxSteps:=2000000) only [ir73,nt73,rs73,go_sem,↓reduceIte,Nat.reduceLT,Nat.reduceLeDiff,Nat.reduceAdd,Nat.reduceSub,Nat.reduceMul,Nat.reduceEqDiff,reduceCtorEq,Int.reduceToNat,Int.reduceEq,Int.reduceBEq,Int.reduceBNe,Int.reduceLT,Int.reduceLE,Int.reduceNeg,Int.reduceAdd,Int.reduceSub,Int.reduceMul,Int.reduceGE,Int.reduceGT,endO,mkI_rs]
 refine retI ht0 _ rfl (of_decide_eq_true rfl) (by simp [SV.okN,SC.okN,ok1L]) ?_
 simp (maxSteps:=2000000) only [go_sem,↓reduceIte,Nat.reduceLT,Nat.reduceLeDiff,Nat.reduceAdd,Nat.reduceSub,Nat.reduceMul,Nat.reduceEqDiff,reduceCtorEq,Int.reduceToNat,Int.reduceEq,Int.reduceBEq,Int.reduceBNe,Int.reduceLT,Int.reduceLE,Int.reduceNeg,Int.reduceAdd,Int.reduceSub,Int.reduceMul,Int.reduceGE,Int.reduceGT,endO]
 refine draw_vc (by kernel_rfl) (mkTab_ok _ _) (of_decide_eq_true rfl) (of_decide_eq_true rfl) ?_
 repeat (first | simp (maxSteps:=2000000) only [go_sem,↓reduceIte,Nat.reduceLT,Nat.reduceLeDiff,Nat.reduceAdd,Nat.reduceSub,Nat.reduceMul,Nat.reduceEqDiff,reduceCtorEq,Int.reduceToNat,Int.reduceEq,Int.reduceBEq,Int.reduceBNe,Int.reduceLT,Int.reduceLE,Int.reduceNeg,Int.reduceAdd,Int.reduceSub,Int.reduceMul,Int.reduceGE,Int.reduceGT,endO] | rw [dr_cons])
 refine ⟨Or.inr trivial,Or.inr trivial,?_⟩
 exact ret5 (m:={ m with cell:=d.1 }) 14 9 10 11 12 (d3L_ren 14 9 10 11 12 { m with cell:=d.1 } d.2.1 d.2.2 0) rfl (fun _ _=>rfl) rfl (fun _ _=>rfl) rfl (fun _ _=>rfl) rfl (fun _ _=>rfl) rfl (fun _ _=>rfl) (by decide)
set_option maxRecDepth 100000 in
set_option maxHeartbeats 4000000 in
theorem mDoS_cell {w:World} {v:Value} {m:MC} (op arg data:Int) (d:List Int×Int×Int) (h:Cont w v m) (hok:MC.okR m) (hm:mayB m=true) (ho:objOf op=1)
  (hd:∀ (w' : World) v',OwnE w' 0 3 eI 1 v' m.cell→Calls Try.prog 72 #[v',.int .i64 op,.int .i64 arg,.int .i64 data] w' (RetDoS w' 90 v' d)) :
  Calls Try.prog 25 #[v,.int .i64 op,.int .i64 arg,.int .i64 data] w (RetN w 5 (d3L (m,d.2) 0) (mcO m)):=by
 obtain ⟨v0,v1,v2,v3,v4,rfl,h'⟩:=id h
 refine enterC (A:=[]) (c:=ir25) (rs:=rs25) (nt:=nt25) h [.agg (mcS 0),.c (.v (.int .i64 op)),.c (.v (.int .i64 arg)),.c (.v (.int .i64 data))] _ Try.func25 rfl (by kernel_rfl) (by kernel_rfl) rfl (fun E' h0=>by
  simp [mcS,SV.den,SC.den] at h0 ⊢
  simp [h0]) (of_decide_eq_true rfl) ?_
 simp (maxSteps:=2000000) only [ir25,nt25,rs25,go_sem,↓reduceIte,Nat.reduceLT,Nat.reduceLeDiff,Nat.reduceAdd,Nat.reduceSub,Nat.reduceMul,Nat.reduceEqDiff,reduceCtorEq,Int.reduceToNat,Int.reduceEq,Int.reduceBEq,Int.reduceBNe,Int.reduceLT,Int.reduceLE,Int.reduceNeg,Int.reduceAdd,Int.reduceSub,Int.reduceMul,Int.reduceGE,Int.reduceGT,endO,mcS,mcA]
 have hr:refN m op=0:=by unfold refN;rw [if_neg (by rw [hm];simp),if_neg (by rw [ho];decide)]
 refine callV (.c (.v (.int .i64 0))) _ (fun E=>rfl) (fun E a w' hs=>by have:=refused_any (w:=w') op (cont_at hs 0 rfl rfl rfl rfl rfl);rw [hr] at this;exact this) ?_
 simp (maxSteps:=2000000) only [go_sem,↓reduceIte,Nat.reduceLT,Nat.reduceLeDiff,Nat.reduceAdd,Nat.reduceSub,Nat.reduceMul,Nat.reduceEqDiff,reduceCtorEq,Int.reduceToNat,Int.reduceEq,Int.reduceBEq,Int.reduceBNe,Int.reduceLT,Int.reduceLE,Int.reduceNeg,Int.reduceAdd,Int.reduceSub,Int.reduceMul,Int.reduceGE,Int.reduceGT,endO]
 refine callN 5 (fun b=>.agg (mcL b m)) (mcO m) (fun E a w' hs=>copied_N (cont_at hs 0 rfl rfl rfl rfl rfl) hok) ?_
 simp (maxSteps:=2000000) only [go_sem,↓reduceIte,Nat.reduceLT,Nat.reduceLeDiff,Nat.reduceAdd,Nat.reduceSub,Nat.reduceMul,Nat.reduceEqDiff,reduceCtorEq,Int.reduceToNat,Int.reduceEq,Int.reduceBEq,Int.reduceBNe,Int.reduceLT,Int.reduceLE,Int.reduceNeg,Int.reduceAdd,Int.reduceSub,Int.reduceMul,Int.reduceGE,Int.reduceGT,endO,mcL,mcO]
 refine draw_vc (by kernel_rfl) (mkTab_ok _ _) (of_decide_eq_true rfl) (of_decide_eq_true rfl) ?_
 repeat (first | simp (maxSteps:=2000000) only [go_sem,↓reduceIte,Nat.reduceLT,Nat.reduceLeDiff,Nat.reduceAdd,Nat.reduceSub,Nat.reduceMul,Nat.reduceEqDiff,reduceCtorEq,Int.reduceToNat,Int.reduceEq,Int.reduceBEq,Int.reduceBNe,Int.reduceLT,Int.reduceLE,Int.reduceNeg,Int.reduceAdd,Int.reduceSub,Int.reduceMul,Int.reduceGE,Int.reduceGT,endO] | rw [dr_cons])
 refine dcallV (.c (.v (.int .i64 1))) _ (fun E=>rfl) (fun E a w' _=>by have:=obj_Z op w';rw [ho] at this;exact this) ?_
 repeat (first | simp (maxSteps:=2000000) only [go_sem,↓reduceIte,Nat.reduceLT,Nat.reduceLeDiff,Nat.reduceAdd,Nat.reduceSub,Nat.reduceMul,Nat.reduceEqDiff,reduceCtorEq,Int.reduceToNat,Int.reduceEq,Int.reduceBEq,Int.reduceBNe,Int.reduceLT,Int.reduceLE,Int.reduceNeg,Int.reduceAdd,Int.reduceSub,Int.reduceMul,Int.reduceGE,Int.reduceGT,endO] | rw [dr_cons])
 refine dcall_intro (cr_valN (.c (.ifc 90 (.sl (8,0,0) 1 0 m.cell.length none))) [8] (by simp [SV.okN,SC.okN]) (fun E a w' hs=>of_any _ _ _ _ _ 1 w')) rfl trivial trivial (fun k hk=>by cases hk) ?_
 repeat (first | simp (maxSteps:=2000000) only [go_sem,↓reduceIte,Nat.reduceLT,Nat.reduceLeDiff,Nat.reduceAdd,Nat.reduceSub,Nat.reduceMul,Nat.reduceEqDiff,reduceCtorEq,Int.reduceToNat,Int.reduceEq,Int.reduceBEq,Int.reduceBNe,Int.reduceLT,Int.reduceLE,Int.reduceNeg,Int.reduceAdd,Int.reduceSub,Int.reduceMul,Int.reduceGE,Int.reduceGT,endO] | rw [dr_cons])
 refine ⟨72,⟨by kernel_rfl,_,Try.underlying90⟩,⟨_,Try.func72,by kernel_rfl,by kernel_rfl⟩,?_⟩
 refine dcall_intro (cr_valN (.tup [(false,[.ifc 90 (.sl (8,0,0) 1 0 m.cell.length none)]),(true,[.v (.int .i64 d.2.1),.v (.int .i64 d.2.2)])]) [8] (by simp [SV.okN,ok1L,SC.okL,SC.okN]) (fun E a w' hs=>hd w' _ (own_E hs eI_ok 8 rfl))) rfl trivial trivial (fun k hk=>by cases hk) ?_
 repeat (first | simp (maxSteps:=2000000) only [go_sem,↓reduceIte,Nat.reduceLT,Nat.reduceLeDiff,Nat.reduceAdd,Nat.reduceSub,Nat.reduceMul,Nat.reduceEqDiff,reduceCtorEq,Int.reduceToNat,Int.reduceEq,Int.reduceBEq,Int.reduceBNe,Int.reduceLT,Int.reduceLE,Int.reduceNeg,Int.reduceAdd,Int.reduceSub,Int.reduceMul,Int.reduceGE,Int.reduceGT,endO] | rw [dr_cons])
 refine ⟨Or.inl trivial,Or.inr trivial,73,⟨by kernel_rfl,_,Try.underlying90⟩,⟨_,Try.func73,by kernel_rfl,by kernel_rfl⟩,?_⟩
 refine call_inline (c:=ir73) (rs:=rs73) (nt:=nt73) 1000 (mkTab_ok _ _) Try.func73 rfl (by kernel_rfl) (by kernel_rfl) rfl (by simp [okVs,SV.okN,SC.okL,SC.okN]) (of_decide_eq_true rfl) (fun E0 a0 ht0=>?_)
 simp (maxSteps:=2000000) only [ir73,nt73,rs73,go_sem,↓reduceIte,Nat.reduceLT,Nat.reduceLeDiff,Nat.reduceAdd,Nat.reduceSub,Nat.reduceMul,Nat.reduceEqDiff,reduceCtorEq,Int.reduceToNat,Int.reduceEq,Int.reduceBEq,Int.reduceBNe,Int.reduceLT,Int.reduceLE,Int.reduceNeg,Int.reduceAdd,Int.reduceSub,Int.reduceMul,Int.reduceGE,Int.reduceGT,endO,mkI_rs]
 refine retI ht0 _ rfl (of_decide_eq_true rfl) (by simp [SV.okN,SC.okN,ok1L]) ?_
 simp (maxSteps:=2000000) only [go_sem,↓reduceIte,Nat.reduceLT,Nat.reduceLeDiff,Nat.reduceAdd,Nat.reduceSub,Nat.reduceMul,Nat.reduceEqDiff,reduceCtorEq,Int.reduceToNat,Int.reduceEq,Int.reduceBEq,Int.reduceBNe,Int.reduceLT,Int.reduceLE,Int.reduceNeg,Int.reduceAdd,Int.reduceSub,Int.reduceMul,Int.reduceGE,Int.reduceGT,endO]
 refine draw_vc (by kernel_rfl) (mkTab_ok _ _) (of_decide_eq_true rfl) (of_decide_eq_true rfl) ?_
 repeat (first | simp (maxSteps:=2000000) only [go_sem,↓reduceIte,Nat.reduceLT,Nat.reduceLeDiff,Nat.reduceAdd,Nat.reduceSub,Nat.reduceMul,Nat.reduceEqDiff,reduceCtorEq,Int.reduceToNat,Int.reduceEq,Int.reduceBEq,Int.reduceBNe,Int.reduceLT,Int.reduceLE,Int.reduceNeg,Int.reduceAdd,Int.reduceSub,Int.reduceMul,Int.reduceGE,Int.reduceGT,endO] | rw [dr_cons])
 refine ⟨Or.inr trivial,Or.inr trivial,?_⟩
 exact ret5 (m:=m) 8 9 10 11 12 (d3L_ren 8 9 10 11 12 m d.2.1 d.2.2 0) rfl (fun _ _=>rfl) rfl (fun _ _=>rfl) rfl (fun _ _=>rfl) rfl (fun _ _=>rfl) rfl (fun _ _=>rfl) (by decide)
set_option maxRecDepth 100000 in
set_option maxHeartbeats 4000000 in
theorem mDoN_stack {w:World} {v:Value} {m:MC} (op arg data:Int) (d:List Int×Int×Int) (h:Cont w v m) (hok:MC.okR m) (hm:mayB m=true) (ho:objOf op=2)
  (hd:∀ (w' : World) v',OwnE w' 0 3 eI 1 v' m.stack→Calls Try.prog 76 #[v',.int .i64 op,.int .i64 arg,.int .i64 data] w' (RetDoN w' 91 3 eI 1 d)) :
  Calls Try.prog 25 #[v,.int .i64 op,.int .i64 arg,.int .i64 data] w (RetN w 5 (d3L ({ m with stack:=d.1 },d.2) 0) (mcO { m with stack:=d.1 })):=by
 obtain ⟨v0,v1,v2,v3,v4,rfl,h'⟩:=id h
 refine enterC (A:=[]) (c:=ir25) (rs:=rs25) (nt:=nt25) h [.agg (mcS 0),.c (.v (.int .i64 op)),.c (.v (.int .i64 arg)),.c (.v (.int .i64 data))] _ Try.func25 rfl (by kernel_rfl) (by kernel_rfl) rfl (fun E' h0=>by
  simp [mcS,SV.den,SC.den] at h0 ⊢
  simp [h0]) (of_decide_eq_true rfl) ?_
 simp (maxSteps:=2000000) only [ir25,nt25,rs25,go_sem,↓reduceIte,Nat.reduceLT,Nat.reduceLeDiff,Nat.reduceAdd,Nat.reduceSub,Nat.reduceMul,Nat.reduceEqDiff,reduceCtorEq,Int.reduceToNat,Int.reduceEq,Int.reduceBEq,Int.reduceBNe,Int.reduceLT,Int.reduceLE,Int.reduceNeg,Int.reduceAdd,Int.reduceSub,Int.reduceMul,Int.reduceGE,Int.reduceGT,endO,mcS,mcA]
 have hr:refN m op=0:=by unfold refN;rw [if_neg (by rw [hm];simp),if_neg (by rw [ho];decide)]
 refine callV (.c (.v (.int .i64 0))) _ (fun E=>rfl) (fun E a w' hs=>by have:=refused_any (w:=w') op (cont_at hs 0 rfl rfl rfl rfl rfl);rw [hr] at this;exact this) ?_
 simp (maxSteps:=2000000) only [go_sem,↓reduceIte,Nat.reduceLT,Nat.reduceLeDiff,Nat.reduceAdd,Nat.reduceSub,Nat.reduceMul,Nat.reduceEqDiff,reduceCtorEq,Int.reduceToNat,Int.reduceEq,Int.reduceBEq,Int.reduceBNe,Int.reduceLT,Int.reduceLE,Int.reduceNeg,Int.reduceAdd,Int.reduceSub,Int.reduceMul,Int.reduceGE,Int.reduceGT,endO]
 refine callN 5 (fun b=>.agg (mcL b m)) (mcO m) (fun E a w' hs=>copied_N (cont_at hs 0 rfl rfl rfl rfl rfl) hok) ?_
 simp (maxSteps:=2000000) only [go_sem,↓reduceIte,Nat.reduceLT,Nat.reduceLeDiff,Nat.reduceAdd,Nat.reduceSub,Nat.reduceMul,Nat.reduceEqDiff,reduceCtorEq,Int.reduceToNat,Int.reduceEq,Int.reduceBEq,Int.reduceBNe,Int.reduceLT,Int.reduceLE,Int.reduceNeg,Int.reduceAdd,Int.reduceSub,Int.reduceMul,Int.reduceGE,Int.reduceGT,endO,mcL,mcO]
 refine draw_vc (by kernel_rfl) (mkTab_ok _ _) (of_decide_eq_true rfl) (of_decide_eq_true rfl) ?_
 repeat (first | simp (maxSteps:=2000000) only [go_sem,↓reduceIte,Nat.reduceLT,Nat.reduceLeDiff,Nat.reduceAdd,Nat.reduceSub,Nat.reduceMul,Nat.reduceEqDiff,reduceCtorEq,Int.reduceToNat,Int.reduceEq,Int.reduceBEq,Int.reduceBNe,Int.reduceLT,Int.reduceLE,Int.reduceNeg,Int.reduceAdd,Int.reduceSub,Int.reduceMul,Int.reduceGE,Int.reduceGT,endO] | rw [dr_cons])
 refine dcallV (.c (.v (.int .i64 2))) _ (fun E=>rfl) (fun E a w' _=>by have:=obj_Z op w';rw [ho] at this;exact this) ?_
 repeat (first | simp (maxSteps:=2000000) only [go_sem,↓reduceIte,Nat.reduceLT,Nat.reduceLeDiff,Nat.reduceAdd,Nat.reduceSub,Nat.reduceMul,Nat.reduceEqDiff,reduceCtorEq,Int.reduceToNat,Int.reduceEq,Int.reduceBEq,Int.reduceBNe,Int.reduceLT,Int.reduceLE,Int.reduceNeg,Int.reduceAdd,Int.reduceSub,Int.reduceMul,Int.reduceGE,Int.reduceGT,endO] | rw [dr_cons])
 refine dcall_intro (cr_valN (.c (.ifc 91 (.sl (9,0,0) 1 0 m.stack.length none))) [9] (by simp [SV.okN,SC.okN]) (fun E a w' hs=>of_any _ _ _ _ _ 2 w')) rfl trivial trivial (fun k hk=>by cases hk) ?_
 repeat (first | simp (maxSteps:=2000000) only [go_sem,↓reduceIte,Nat.reduceLT,Nat.reduceLeDiff,Nat.reduceAdd,Nat.reduceSub,Nat.reduceMul,Nat.reduceEqDiff,reduceCtorEq,Int.reduceToNat,Int.reduceEq,Int.reduceBEq,Int.reduceBNe,Int.reduceLT,Int.reduceLE,Int.reduceNeg,Int.reduceAdd,Int.reduceSub,Int.reduceMul,Int.reduceGE,Int.reduceGT,endO] | rw [dr_cons])
 refine ⟨76,⟨by kernel_rfl,_,Try.underlying91⟩,⟨_,Try.func76,by kernel_rfl,by kernel_rfl⟩,?_⟩
 refine dcallN 1 (doT 91 1 d.1.length d.2.1 d.2.2) (lsO 3 1 eI d.1 0) (fun E a w' hs=>(hd w' _ (own_E hs eI_ok 9 rfl)).mono fun e w2 he=>retN_doN eI_ok he) ⟨⟨Nat.le_refl _,Nat.lt_succ_self _⟩,trivial⟩ ?_
 repeat (first | simp (maxSteps:=2000000) only [go_sem,↓reduceIte,Nat.reduceLT,Nat.reduceLeDiff,Nat.reduceAdd,Nat.reduceSub,Nat.reduceMul,Nat.reduceEqDiff,reduceCtorEq,Int.reduceToNat,Int.reduceEq,Int.reduceBEq,Int.reduceBNe,Int.reduceLT,Int.reduceLE,Int.reduceNeg,Int.reduceAdd,Int.reduceSub,Int.reduceMul,Int.reduceGE,Int.reduceGT,endO,doT,lsO] | rw [dr_cons])
 refine ⟨Or.inl trivial,Or.inr trivial,77,⟨by kernel_rfl,_,Try.underlying91⟩,⟨_,Try.func77,by kernel_rfl,by kernel_rfl⟩,?_⟩
 refine call_inline (c:=ir77) (rs:=rs77) (nt:=nt77) 1000 (mkTab_ok _ _) Try.func77 rfl (by kernel_rfl) (by kernel_rfl) rfl (by simp [okVs,SV.okN,SC.okL,SC.okN]) (of_decide_eq_true rfl) (fun E0 a0 ht0=>?_)
 simp (maxSteps:=2000000) only [ir77,nt77,rs77,go_sem,↓reduceIte,Nat.reduceLT,Nat.reduceLeDiff,Nat.reduceAdd,Nat.reduceSub,Nat.reduceMul,Nat.reduceEqDiff,reduceCtorEq,Int.reduceToNat,Int.reduceEq,Int.reduceBEq,Int.reduceBNe,Int.reduceLT,Int.reduceLE,Int.reduceNeg,Int.reduceAdd,Int.reduceSub,Int.reduceMul,Int.reduceGE,Int.reduceGT,endO,mkI_rs]
 refine retI ht0 _ rfl (of_decide_eq_true rfl) (by simp [SV.okN,SC.okN,ok1L]) ?_
 simp (maxSteps:=2000000) only [go_sem,↓reduceIte,Nat.reduceLT,Nat.reduceLeDiff,Nat.reduceAdd,Nat.reduceSub,Nat.reduceMul,Nat.reduceEqDiff,reduceCtorEq,Int.reduceToNat,Int.reduceEq,Int.reduceBEq,Int.reduceBNe,Int.reduceLT,Int.reduceLE,Int.reduceNeg,Int.reduceAdd,Int.reduceSub,Int.reduceMul,Int.reduceGE,Int.reduceGT,endO]
 refine draw_vc (by kernel_rfl) (mkTab_ok _ _) (of_decide_eq_true rfl) (of_decide_eq_true rfl) ?_
 repeat (first | simp (maxSteps:=2000000) only [go_sem,↓reduceIte,Nat.reduceLT,Nat.reduceLeDiff,Nat.reduceAdd,Nat.reduceSub,Nat.reduceMul,Nat.reduceEqDiff,reduceCtorEq,Int.reduceToNat,Int.reduceEq,Int.reduceBEq,Int.reduceBNe,Int.reduceLT,Int.reduceLE,Int.reduceNeg,Int.reduceAdd,Int.reduceSub,Int.reduceMul,Int.reduceGE,Int.reduceGT,endO] | rw [dr_cons])
 refine ⟨Or.inr trivial,Or.inr trivial,?_⟩
 exact ret5 (m:={ m with stack:=d.1 }) 8 14 10 11 12 (d3L_ren 8 14 10 11 12 { m with stack:=d.1 } d.2.1 d.2.2 0) rfl (fun _ _=>rfl) rfl (fun _ _=>rfl) rfl (fun _ _=>rfl) rfl (fun _ _=>rfl) rfl (fun _ _=>rfl) (by decide)
set_option maxRecDepth 100000 in
set_option maxHeartbeats 4000000 in
theorem mDoS_stack {w:World} {v:Value} {m:MC} (op arg data:Int) (d:List Int×Int×Int) (h:Cont w v m) (hok:MC.okR m) (hm:mayB m=true) (ho:objOf op=2)
  (hd:∀ (w' : World) v',OwnE w' 0 3 eI 1 v' m.stack→Calls Try.prog 76 #[v',.int .i64 op,.int .i64 arg,.int .i64 data] w' (RetDoS w' 91 v' d)) :
  Calls Try.prog 25 #[v,.int .i64 op,.int .i64 arg,.int .i64 data] w (RetN w 5 (d3L (m,d.2) 0) (mcO m)):=by
 obtain ⟨v0,v1,v2,v3,v4,rfl,h'⟩:=id h
 refine enterC (A:=[]) (c:=ir25) (rs:=rs25) (nt:=nt25) h [.agg (mcS 0),.c (.v (.int .i64 op)),.c (.v (.int .i64 arg)),.c (.v (.int .i64 data))] _ Try.func25 rfl (by kernel_rfl) (by kernel_rfl) rfl (fun E' h0=>by
  simp [mcS,SV.den,SC.den] at h0 ⊢
  simp [h0]) (of_decide_eq_true rfl) ?_
 simp (maxSteps:=2000000) only [ir25,nt25,rs25,go_sem,↓reduceIte,Nat.reduceLT,Nat.reduceLeDiff,Nat.reduceAdd,Nat.reduceSub,Nat.reduceMul,Nat.reduceEqDiff,reduceCtorEq,Int.reduceToNat,Int.reduceEq,Int.reduceBEq,Int.reduceBNe,Int.reduceLT,Int.reduceLE,Int.reduceNeg,Int.reduceAdd,Int.reduceSub,Int.reduceMul,Int.reduceGE,Int.reduceGT,endO,mcS,mcA]
 have hr:refN m op=0:=by unfold refN;rw [if_neg (by rw [hm];simp),if_neg (by rw [ho];decide)]
 refine callV (.c (.v (.int .i64 0))) _ (fun E=>rfl) (fun E a w' hs=>by have:=refused_any (w:=w') op (cont_at hs 0 rfl rfl rfl rfl rfl);rw [hr] at this;exact this) ?_
 simp (maxSteps:=2000000) only [go_sem,↓reduceIte,Nat.reduceLT,Nat.reduceLeDiff,Nat.reduceAdd,Nat.reduceSub,Nat.reduceMul,Nat.reduceEqDiff,reduceCtorEq,Int.reduceToNat,Int.reduceEq,Int.reduceBEq,Int.reduceBNe,Int.reduceLT,Int.reduceLE,Int.reduceNeg,Int.reduceAdd,Int.reduceSub,Int.reduceMul,Int.reduceGE,Int.reduceGT,endO]
 refine callN 5 (fun b=>.agg (mcL b m)) (mcO m) (fun E a w' hs=>copied_N (cont_at hs 0 rfl rfl rfl rfl rfl) hok) ?_
 simp (maxSteps:=2000000) only [go_sem,↓reduceIte,Nat.reduceLT,Nat.reduceLeDiff,Nat.reduceAdd,Nat.reduceSub,Nat.reduceMul,Nat.reduceEqDiff,reduceCtorEq,Int.reduceToNat,Int.reduceEq,Int.reduceBEq,Int.reduceBNe,Int.reduceLT,Int.reduceLE,Int.reduceNeg,Int.reduceAdd,Int.reduceSub,Int.reduceMul,Int.reduceGE,Int.reduceGT,endO,mcL,mcO]
 refine draw_vc (by kernel_rfl) (mkTab_ok _ _) (of_decide_eq_true rfl) (of_decide_eq_true rfl) ?_
 repeat (first | simp (maxSteps:=2000000) only [go_sem,↓reduceIte,Nat.reduceLT,Nat.reduceLeDiff,Nat.reduceAdd,Nat.reduceSub,Nat.reduceMul,Nat.reduceEqDiff,reduceCtorEq,Int.reduceToNat,Int.reduceEq,Int.reduceBEq,Int.reduceBNe,Int.reduceLT,Int.reduceLE,Int.reduceNeg,Int.reduceAdd,Int.reduceSub,Int.reduceMul,Int.reduceGE,Int.reduceGT,endO] | rw [dr_cons])
 refine dcallV (.c (.v (.int .i64 2))) _ (fun E=>rfl) (fun E a w' _=>by have:=obj_Z op w';rw [ho] at this;exact this) ?_
 repeat (first | simp (maxSteps:=2000000) only [go_sem,↓reduceIte,Nat.reduceLT,Nat.reduceLeDiff,Nat.reduceAdd,Nat.reduceSub,Nat.reduceMul,Nat.reduceEqDiff,reduceCtorEq,Int.reduceToNat,Int.reduceEq,Int.reduceBEq,Int.reduceBNe,Int.reduceLT,Int.reduceLE,Int.reduceNeg,Int.reduceAdd,Int.reduceSub,Int.reduceMul,Int.reduceGE,Int.reduceGT,endO] | rw [dr_cons])
 refine dcall_intro (cr_valN (.c (.ifc 91 (.sl (9,0,0) 1 0 m.stack.length none))) [9] (by simp [SV.okN,SC.okN]) (fun E a w' hs=>of_any _ _ _ _ _ 2 w')) rfl trivial trivial (fun k hk=>by cases hk) ?_
 repeat (first | simp (maxSteps:=2000000) only [go_sem,↓reduceIte,Nat.reduceLT,Nat.reduceLeDiff,Nat.reduceAdd,Nat.reduceSub,Nat.reduceMul,Nat.reduceEqDiff,reduceCtorEq,Int.reduceToNat,Int.reduceEq,Int.reduceBEq,Int.reduceBNe,Int.reduceLT,Int.reduceLE,Int.reduceNeg,Int.reduceAdd,Int.reduceSub,Int.reduceMul,Int.reduceGE,Int.reduceGT,endO] | rw [dr_cons])
 refine ⟨76,⟨by kernel_rfl,_,Try.underlying91⟩,⟨_,Try.func76,by kernel_rfl,by kernel_rfl⟩,?_⟩
 refine dcall_intro (cr_valN (.tup [(false,[.ifc 91 (.sl (9,0,0) 1 0 m.stack.length none)]),(true,[.v (.int .i64 d.2.1),.v (.int .i64 d.2.2)])]) [9] (by simp [SV.okN,ok1L,SC.okL,SC.okN]) (fun E a w' hs=>hd w' _ (own_E hs eI_ok 9 rfl))) rfl trivial trivial (fun k hk=>by cases hk) ?_
 repeat (first | simp (maxSteps:=2000000) only [go_sem,↓reduceIte,Nat.reduceLT,Nat.reduceLeDiff,Nat.reduceAdd,Nat.reduceSub,Nat.reduceMul,Nat.reduceEqDiff,reduceCtorEq,Int.reduceToNat,Int.reduceEq,Int.reduceBEq,Int.reduceBNe,Int.reduceLT,Int.reduceLE,Int.reduceNeg,Int.reduceAdd,Int.reduceSub,Int.reduceMul,Int.reduceGE,Int.reduceGT,endO] | rw [dr_cons])
 refine ⟨Or.inl trivial,Or.inr trivial,77,⟨by kernel_rfl,_,Try.underlying91⟩,⟨_,Try.func77,by kernel_rfl,by kernel_rfl⟩,?_⟩
 refine call_inline (c:=ir77) (rs:=rs77) (nt:=nt77) 1000 (mkTab_ok _ _) Try.func77 rfl (by kernel_rfl) (by kernel_rfl) rfl (by simp [okVs,SV.okN,SC.okL,SC.okN]) (of_decide_eq_true rfl) (fun E0 a0 ht0=>?_)
 simp (maxSteps:=2000000) only [ir77,nt77,rs77,go_sem,↓reduceIte,Nat.reduceLT,Nat.reduceLeDiff,Nat.reduceAdd,Nat.reduceSub,Nat.reduceMul,Nat.reduceEqDiff,reduceCtorEq,Int.reduceToNat,Int.reduceEq,Int.reduceBEq,Int.reduceBNe,Int.reduceLT,Int.reduceLE,Int.reduceNeg,Int.reduceAdd,Int.reduceSub,Int.reduceMul,Int.reduceGE,Int.reduceGT,endO,mkI_rs]
 refine retI ht0 _ rfl (of_decide_eq_true rfl) (by simp [SV.okN,SC.okN,ok1L]) ?_
 simp (maxSteps:=2000000) only [go_sem,↓reduceIte,Nat.reduceLT,Nat.reduceLeDiff,Nat.reduceAdd,Nat.reduceSub,Nat.reduceMul,Nat.reduceEqDiff,reduceCtorEq,Int.reduceToNat,Int.reduceEq,Int.reduceBEq,Int.reduceBNe,Int.reduceLT,Int.reduceLE,Int.reduceNeg,Int.reduceAdd,Int.reduceSub,Int.reduceMul,Int.reduceGE,Int.reduceGT,endO]
 refine draw_vc (by kernel_rfl) (mkTab_ok _ _) (of_decide_eq_true rfl) (of_decide_eq_true rfl) ?_
 repeat (first | simp (maxSteps:=2000000) only [go_sem,↓reduceIte,Nat.reduceLT,Nat.reduceLeDiff,Nat.reduceAdd,Nat.reduceSub,Nat.reduceMul,Nat.reduceEqDiff,reduceCtorEq,Int.reduceToNat,Int.reduceEq,Int.reduceBEq,Int.reduceBNe,Int.reduceLT,Int.reduceLE,Int.reduceNeg,Int.reduceAdd,Int.reduceSub,Int.reduceMul,Int.reduceGE,Int.reduceGT,endO] | rw [dr_cons])
 refine ⟨Or.inr trivial,Or.inr trivial,?_⟩
 exact ret5 (m:=m) 8 9 10 11 12 (d3L_ren 8 9 10 11 12 m d.2.1 d.2.2 0) rfl (fun _ _=>rfl) rfl (fun _ _=>rfl) rfl (fun _ _=>rfl) rfl (fun _ _=>rfl) rfl (fun _ _=>rfl) (by decide)
set_option maxRecDepth 100000 in
set_option maxHeartbeats 4000000 in
theorem mDoO_stack {w:World} {v:Value} {m:MC} (op arg data:Int) (d:List Int×Int×Int) (h:Cont w v m) (hok:MC.okR m) (hm:mayB m=true) (ho:objOf op=2)
  (hd:∀ (w' : World) v',OwnE w' 0 3 eI 1 v' m.stack→Calls Try.prog 76 #[v',.int .i64 op,.int .i64 arg,.int .i64 data] w' (RetDoO w' 91 d)) :
  Calls Try.prog 25 #[v,.int .i64 op,.int .i64 arg,.int .i64 data] w (fun r w2=>∃ ba:Addr,RetN w 5 (d3X1 ba ({ m with stack:=[] },d.2) 0) (mcX1 { m with stack:=[] }) r w2):=by
 obtain ⟨v0,v1,v2,v3,v4,rfl,h'⟩:=id h
 refine enterC (A:=[]) (c:=ir25) (rs:=rs25) (nt:=nt25) h [.agg (mcS 0),.c (.v (.int .i64 op)),.c (.v (.int .i64 arg)),.c (.v (.int .i64 data))] _ Try.func25 rfl (by kernel_rfl) (by kernel_rfl) rfl (fun E' h0=>by
  simp [mcS,SV.den,SC.den] at h0 ⊢
  simp [h0]) (of_decide_eq_true rfl) ?_
 simp (maxSteps:=2000000) only [ir25,nt25,rs25,go_sem,↓reduceIte,Nat.reduceLT,Nat.reduceLeDiff,Nat.reduceAdd,Nat.reduceSub,Nat.reduceMul,Nat.reduceEqDiff,reduceCtorEq,Int.reduceToNat,Int.reduceEq,Int.reduceBEq,Int.reduceBNe,Int.reduceLT,Int.reduceLE,Int.reduceNeg,Int.reduceAdd,Int.reduceSub,Int.reduceMul,Int.reduceGE,Int.reduceGT,endO,mcS,mcA]
 have hr:refN m op=0:=by unfold refN;rw [if_neg (by rw [hm];simp),if_neg (by rw [ho];decide)]
 refine callV (.c (.v (.int .i64 0))) _ (fun E=>rfl) (fun E a w' hs=>by have:=refused_any (w:=w') op (cont_at hs 0 rfl rfl rfl rfl rfl);rw [hr] at this;exact this) ?_
 simp (maxSteps:=2000000) only [go_sem,↓reduceIte,Nat.reduceLT,Nat.reduceLeDiff,Nat.reduceAdd,Nat.reduceSub,Nat.reduceMul,Nat.reduceEqDiff,reduceCtorEq,Int.reduceToNat,Int.reduceEq,Int.reduceBEq,Int.reduceBNe,Int.reduceLT,Int.reduceLE,Int.reduceNeg,Int.reduceAdd,Int.reduceSub,Int.reduceMul,Int.reduceGE,Int.reduceGT,endO]
 refine callN 5 (fun b=>.agg (mcL b m)) (mcO m) (fun E a w' hs=>copied_N (cont_at hs 0 rfl rfl rfl rfl rfl) hok) ?_
 simp (maxSteps:=2000000) only [go_sem,↓reduceIte,Nat.reduceLT,Nat.reduceLeDiff,Nat.reduceAdd,Nat.reduceSub,Nat.reduceMul,Nat.reduceEqDiff,reduceCtorEq,Int.reduceToNat,Int.reduceEq,Int.reduceBEq,Int.reduceBNe,Int.reduceLT,Int.reduceLE,Int.reduceNeg,Int.reduceAdd,Int.reduceSub,Int.reduceMul,Int.reduceGE,Int.reduceGT,endO,mcL,mcO]
 refine draw_vc (by kernel_rfl) (mkTab_ok _ _) (of_decide_eq_true rfl) (of_decide_eq_true rfl) ?_
 repeat (first | simp (maxSteps:=2000000) only [go_sem,↓reduceIte,Nat.reduceLT,Nat.reduceLeDiff,Nat.reduceAdd,Nat.reduceSub,Nat.reduceMul,Nat.reduceEqDiff,reduceCtorEq,Int.reduceToNat,Int.reduceEq,Int.reduceBEq,Int.reduceBNe,Int.reduceLT,Int.reduceLE,Int.reduceNeg,Int.reduceAdd,Int.reduceSub,Int.reduceMul,Int.reduceGE,Int.reduceGT,endO] | rw [dr_cons])
 refine dcallV (.c (.v (.int .i64 2))) _ (fun E=>rfl) (fun E a w' _=>by have:=obj_Z op w';rw [ho] at this;exact this) ?_
 repeat (first | simp (maxSteps:=2000000) only [go_sem,↓reduceIte,Nat.reduceLT,Nat.reduceLeDiff,Nat.reduceAdd,Nat.reduceSub,Nat.reduceMul,Nat.reduceEqDiff,reduceCtorEq,Int.reduceToNat,Int.reduceEq,Int.reduceBEq,Int.reduceBNe,Int.reduceLT,Int.reduceLE,Int.reduceNeg,Int.reduceAdd,Int.reduceSub,Int.reduceMul,Int.reduceGE,Int.reduceGT,endO] | rw [dr_cons])
 refine dcall_intro (cr_valN (.c (.ifc 91 (.sl (9,0,0) 1 0 m.stack.length none))) [9] (by simp [SV.okN,SC.okN]) (fun E a w' hs=>of_any _ _ _ _ _ 2 w')) rfl trivial trivial (fun k hk=>by cases hk) ?_
 repeat (first | simp (maxSteps:=2000000) only [go_sem,↓reduceIte,Nat.reduceLT,Nat.reduceLeDiff,Nat.reduceAdd,Nat.reduceSub,Nat.reduceMul,Nat.reduceEqDiff,reduceCtorEq,Int.reduceToNat,Int.reduceEq,Int.reduceBEq,Int.reduceBNe,Int.reduceLT,Int.reduceLE,Int.reduceNeg,Int.reduceAdd,Int.reduceSub,Int.reduceMul,Int.reduceGE,Int.reduceGT,endO] | rw [dr_cons])
 refine ⟨76,⟨by kernel_rfl,_,Try.underlying91⟩,⟨_,Try.func76,by kernel_rfl,by kernel_rfl⟩,?_⟩
 refine dcallN 1 (doX 91 d.2.1 d.2.2) oddO (fun E a w' hs=>(hd w' _ (own_E hs eI_ok 9 rfl)).mono fun e w2 he=>retN_doO he) ⟨⟨Nat.le_refl _,Nat.lt_succ_self _⟩,trivial⟩ ?_
 repeat (first | simp (maxSteps:=2000000) only [go_sem,↓reduceIte,Nat.reduceLT,Nat.reduceLeDiff,Nat.reduceAdd,Nat.reduceSub,Nat.reduceMul,Nat.reduceEqDiff,reduceCtorEq,Int.reduceToNat,Int.reduceEq,Int.reduceBEq,Int.reduceBNe,Int.reduceLT,Int.reduceLE,Int.reduceNeg,Int.reduceAdd,Int.reduceSub,Int.reduceMul,Int.reduceGE,Int.reduceGT,endO,doX,oddO] | rw [dr_cons])
 refine ⟨Or.inl trivial,Or.inr trivial,77,⟨by kernel_rfl,_,Try.underlying91⟩,⟨_,Try.func77,by kernel_rfl,by kernel_rfl⟩,?_⟩
 refine call_inline (c:=ir77) (rs:=rs77) (nt:=nt77) 1000 (mkTab_ok _ _) Try.func77 rfl (by kernel_rfl) (by kernel_rfl) rfl (by simp [okVs,SV.okN,SC.okL,SC.okN]) (of_decide_eq_true rfl) (fun E0 a0 ht0=>?_)
 simp (maxSteps:=2000000) only [ir77,nt77,rs77,go_sem,↓reduceIte,Nat.reduceLT,Nat.reduceLeDiff,Nat.reduceAdd,Nat.reduceSub,Nat.reduceMul,Nat.reduceEqDiff,reduceCtorEq,Int.reduceToNat,Int.reduceEq,Int.reduceBEq,Int.reduceBNe,Int.reduceLT,Int.reduceLE,Int.reduceNeg,Int.reduceAdd,Int.reduceSub,Int.reduceMul,Int.reduceGE,Int.reduceGT,endO,mkI_rs]
 refine retI ht0 _ rfl (of_decide_eq_true rfl) (by simp [SV.okN,SC.okN,ok1L]) ?_
 simp (maxSteps:=2000000) only [go_sem,↓reduceIte,Nat.reduceLT,Nat.reduceLeDiff,Nat.reduceAdd,Nat.reduceSub,Nat.reduceMul,Nat.reduceEqDiff,reduceCtorEq,Int.reduceToNat,Int.reduceEq,Int.reduceBEq,Int.reduceBNe,Int.reduceLT,Int.reduceLE,Int.reduceNeg,Int.reduceAdd,Int.reduceSub,Int.reduceMul,Int.reduceGE,Int.reduceGT,endO]
 refine draw_vc (by kernel_rfl) (mkTab_ok _ _) (of_decide_eq_true rfl) (of_decide_eq_true rfl) ?_
 repeat (first | simp (maxSteps:=2000000) only [go_sem,↓reduceIte,Nat.reduceLT,Nat.reduceLeDiff,Nat.reduceAdd,Nat.reduceSub,Nat.reduceMul,Nat.reduceEqDiff,reduceCtorEq,Int.reduceToNat,Int.reduceEq,Int.reduceBEq,Int.reduceBNe,Int.reduceLT,Int.reduceLE,Int.reduceNeg,Int.reduceAdd,Int.reduceSub,Int.reduceMul,Int.reduceGE,Int.reduceGT,endO] | rw [dr_cons])
 refine ⟨Or.inr trivial,Or.inr trivial,?_⟩
 refine retX 14 rfl (fun ba=>.tup [(true,[.sl (8,0,0) 1 0 m.cell.length none,.v (.slice (some ba) 0 0),.sl (10,0,0) 1 0 m.queue.length none,.sl (11,0,0) 1 0 m.set.length none,.sl (12,0,0) 2 0 m.table.length none]),(true,[.v (.int .i64 d.2.1),.v (.int .i64 d.2.2)]),(false,[.v (.int .i64 0)])]) (fun ba E hE=>by simp [SV.den,den1,SC.den,hE]) (fun ba=>?_)
 exact retX1 (m:={ m with stack:=[] }) 8 9 10 11 12 ba rfl rfl rfl rfl (by decide)
set_option maxRecDepth 100000 in
set_option maxHeartbeats 4000000 in
theorem mDoN_queue {w:World} {v:Value} {m:MC} (op arg data:Int) (d:List Int×Int×Int) (h:Cont w v m) (hok:MC.okR m) (hm:mayB m=true) (ho:objOf op=3)
  (hd:∀ (w' : World) v',OwnE w' 0 3 eI 1 v' m.queue→Calls Try.prog 79 #[v',.int .i64 op,.int .i64 arg,.int .i64 data] w' (RetDoN w' 92 3 eI 1 d)) :
  Calls Try.prog 25 #[v,.int .i64 op,.int .i64 arg,.int .i64 data] w (RetN w 5 (d3L ({ m with queue:=d.1 },d.2) 0) (mcO { m with queue:=d.1 })):=by
 obtain ⟨v0,v1,v2,v3,v4,rfl,h'⟩:=id h
 refine enterC (A:=[]) (c:=ir25) (rs:=rs25) (nt:=nt25) h [.agg (mcS 0),.c (.v (.int .i64 op)),.c (.v (.int .i64 arg)),.c (.v (.int .i64 data))] _ Try.func25 rfl (by kernel_rfl) (by kernel_rfl) rfl (fun E' h0=>by
  simp [mcS,SV.den,SC.den] at h0 ⊢
  simp [h0]) (of_decide_eq_true rfl) ?_
 simp (maxSteps:=2000000) only [ir25,nt25,rs25,go_sem,↓reduceIte,Nat.reduceLT,Nat.reduceLeDiff,Nat.reduceAdd,Nat.reduceSub,Nat.reduceMul,Nat.reduceEqDiff,reduceCtorEq,Int.reduceToNat,Int.reduceEq,Int.reduceBEq,Int.reduceBNe,Int.reduceLT,Int.reduceLE,Int.reduceNeg,Int.reduceAdd,Int.reduceSub,Int.reduceMul,Int.reduceGE,Int.reduceGT,endO,mcS,mcA]
 have hr:refN m op=0:=by unfold refN;rw [if_neg (by rw [hm];simp),if_neg (by rw [ho];decide)]
 refine callV (.c (.v (.int .i64 0))) _ (fun E=>rfl) (fun E a w' hs=>by have:=refused_any (w:=w') op (cont_at hs 0 rfl rfl rfl rfl rfl);rw [hr] at this;exact this) ?_
 simp (maxSteps:=2000000) only [go_sem,↓reduceIte,Nat.reduceLT,Nat.reduceLeDiff,Nat.reduceAdd,Nat.reduceSub,Nat.reduceMul,Nat.reduceEqDiff,reduceCtorEq,Int.reduceToNat,Int.reduceEq,Int.reduceBEq,Int.reduceBNe,Int.reduceLT,Int.reduceLE,Int.reduceNeg,Int.reduceAdd,Int.reduceSub,Int.reduceMul,Int.reduceGE,Int.reduceGT,endO]
 refine callN 5 (fun b=>.agg (mcL b m)) (mcO m) (fun E a w' hs=>copied_N (cont_at hs 0 rfl rfl rfl rfl rfl) hok) ?_
 simp (maxSteps:=2000000) only [go_sem,↓reduceIte,Nat.reduceLT,Nat.reduceLeDiff,Nat.reduceAdd,Nat.reduceSub,Nat.reduceMul,Nat.reduceEqDiff,reduceCtorEq,Int.reduceToNat,Int.reduceEq,Int.reduceBEq,Int.reduceBNe,Int.reduceLT,Int.reduceLE,Int.reduceNeg,Int.reduceAdd,Int.reduceSub,Int.reduceMul,Int.reduceGE,Int.reduceGT,endO,mcL,mcO]
 refine draw_vc (by kernel_rfl) (mkTab_ok _ _) (of_decide_eq_true rfl) (of_decide_eq_true rfl) ?_
 repeat (first | simp (maxSteps:=2000000) only [go_sem,↓reduceIte,Nat.reduceLT,Nat.reduceLeDiff,Nat.reduceAdd,Nat.reduceSub,Nat.reduceMul,Nat.reduceEqDiff,reduceCtorEq,Int.reduceToNat,Int.reduceEq,Int.reduceBEq,Int.reduceBNe,Int.reduceLT,Int.reduceLE,Int.reduceNeg,Int.reduceAdd,Int.reduceSub,Int.reduceMul,Int.reduceGE,Int.reduceGT,endO] | rw [dr_cons])
 refine dcallV (.c (.v (.int .i64 3))) _ (fun E=>rfl) (fun E a w' _=>by have:=obj_Z op w';rw [ho] at this;exact this) ?_
 repeat (first | simp (maxSteps:=2000000) only [go_sem,↓reduceIte,Nat.reduceLT,Nat.reduceLeDiff,Nat.reduceAdd,Nat.reduceSub,Nat.reduceMul,Nat.reduceEqDiff,reduceCtorEq,Int.reduceToNat,Int.reduceEq,Int.reduceBEq,Int.reduceBNe,Int.reduceLT,Int.reduceLE,Int.reduceNeg,Int.reduceAdd,Int.reduceSub,Int.reduceMul,Int.reduceGE,Int.reduceGT,endO] | rw [dr_cons])
 refine dcall_intro (cr_valN (.c (.ifc 92 (.sl (10,0,0) 1 0 m.queue.length none))) [10] (by simp [SV.okN,SC.okN]) (fun E a w' hs=>of_any _ _ _ _ _ 3 w')) rfl trivial trivial (fun k hk=>by cases hk) ?_
 repeat (first | simp (maxSteps:=2000000) only [go_sem,↓reduceIte,Nat.reduceLT,Nat.reduceLeDiff,Nat.reduceAdd,Nat.reduceSub,Nat.reduceMul,Nat.reduceEqDiff,reduceCtorEq,Int.reduceToNat,Int.reduceEq,Int.reduceBEq,Int.reduceBNe,Int.reduceLT,Int.reduceLE,Int.reduceNeg,Int.reduceAdd,Int.reduceSub,Int.reduceMul,Int.reduceGE,Int.reduceGT,endO] | rw [dr_cons])
 refine ⟨79,⟨by kernel_rfl,_,Try.underlying92⟩,⟨_,Try.func79,by kernel_rfl,by kernel_rfl⟩,?_⟩
 refine dcallN 1 (doT 92 1 d.1.length d.2.1 d.2.2) (lsO 3 1 eI d.1 0) (fun E a w' hs=>(hd w' _ (own_E hs eI_ok 10 rfl)).mono fun e w2 he=>retN_doN eI_ok he) ⟨⟨Nat.le_refl _,Nat.lt_succ_self _⟩,trivial⟩ ?_
 repeat (first | simp (maxSteps:=2000000) only [go_sem,↓reduceIte,Nat.reduceLT,Nat.reduceLeDiff,Nat.reduceAdd,Nat.reduceSub,Nat.reduceMul,Nat.reduceEqDiff,reduceCtorEq,Int.reduceToNat,Int.reduceEq,Int.reduceBEq,Int.reduceBNe,Int.reduceLT,Int.reduceLE,Int.reduceNeg,Int.reduceAdd,Int.reduceSub,Int.reduceMul,Int.reduceGE,Int.reduceGT,endO,doT,lsO] | rw [dr_cons])
 refine ⟨Or.inl trivial,Or.inr trivial,80,⟨by kernel_rfl,_,Try.underlying92⟩,⟨_,Try.func80,by kernel_rfl,by kernel_rfl⟩,?_⟩
 refine call_inline (c:=ir80) (rs:=rs80) (nt:=nt80) 1000 (mkTab_ok _ _) Try.func80 rfl (by kernel_rfl) (by kernel_rfl) rfl (by simp [okVs,SV.okN,SC.okL,SC.okN]) (of_decide_eq_true rfl) (fun E0 a0 ht0=>?_)
 simp (maxSteps:=2000000) only [ir80,nt80,rs80,go_sem,↓reduceIte,Nat.reduceLT,Nat.reduceLeDiff,Nat.reduceAdd,Nat.reduceSub,Nat.reduceMul,Nat.reduceEqDiff,reduceCtorEq,Int.reduceToNat,Int.reduceEq,Int.reduceBEq,Int.reduceBNe,Int.reduceLT,Int.reduceLE,Int.reduceNeg,Int.reduceAdd,Int.reduceSub,Int.reduceMul,Int.reduceGE,Int.reduceGT,endO,mkI_rs]
 refine retI ht0 _ rfl (of_decide_eq_true rfl) (by simp [SV.okN,SC.okN,ok1L]) ?_
 simp (maxSteps:=2000000) only [go_sem,↓reduceIte,Nat.reduceLT,Nat.reduceLeDiff,Nat.reduceAdd,Nat.reduceSub,Nat.reduceMul,Nat.reduceEqDiff,reduceCtorEq,Int.reduceToNat,Int.reduceEq,Int.reduceBEq,Int.reduceBNe,Int.reduceLT,Int.reduceLE,Int.reduceNeg,Int.reduceAdd,Int.reduceSub,Int.reduceMul,Int.reduceGE,Int.reduceGT,endO]
 refine draw_vc (by kernel_rfl) (mkTab_ok _ _) (of_decide_eq_true rfl) (of_decide_eq_true rfl) ?_
 repeat (first | simp (maxSteps:=2000000) only [go_sem,↓reduceIte,Nat.reduceLT,Nat.reduceLeDiff,Nat.reduceAdd,Nat.reduceSub,Nat.reduceMul,Nat.reduceEqDiff,reduceCtorEq,Int.reduceToNat,Int.reduceEq,Int.reduceBEq,Int.reduceBNe,Int.reduceLT,Int.reduceLE,Int.reduceNeg,Int.reduceAdd,Int.reduceSub,Int.reduceMul,Int.reduceGE,Int.reduceGT,endO] | rw [dr_cons])
 refine ⟨Or.inr trivial,Or.inr trivial,?_⟩
 exact ret5 (m:={ m with queue:=d.1 }) 8 9 14 11 12 (d3L_ren 8 9 14 11 12 { m with queue:=d.1 } d.2.1 d.2.2 0) rfl (fun _ _=>rfl) rfl (fun _ _=>rfl) rfl (fun _ _=>rfl) rfl (fun _ _=>rfl) rfl (fun _ _=>rfl) (by decide)
set_option maxRecDepth 100000 in
set_option maxHeartbeats 4000000 in
theorem mDoS_queue {w:World} {v:Value} {m:MC} (op arg data:Int) (d:List Int×Int×Int) (h:Cont w v m) (hok:MC.okR m) (hm:mayB m=true) (ho:objOf op=3)
  (hd:∀ (w' : World) v',OwnE w' 0 3 eI 1 v' m.queue→Calls Try.prog 79 #[v',.int .i64 op,.int .i64 arg,.int .i64 data] w' (RetDoS w' 92 v' d)) :
  Calls Try.prog 25 #[v,.int .i64 op,.int .i64 arg,.int .i64 data] w (RetN w 5 (d3L (m,d.2) 0) (mcO m)):=by
 obtain ⟨v0,v1,v2,v3,v4,rfl,h'⟩:=id h
 refine enterC (A:=[]) (c:=ir25) (rs:=rs25) (nt:=nt25) h [.agg (mcS 0),.c (.v (.int .i64 op)),.c (.v (.int .i64 arg)),.c (.v (.int .i64 data))] _ Try.func25 rfl (by kernel_rfl) (by kernel_rfl) rfl (fun E' h0=>by
  simp [mcS,SV.den,SC.den] at h0 ⊢
  simp [h0]) (of_decide_eq_true rfl) ?_
 simp (maxSteps:=2000000) only [ir25,nt25,rs25,go_sem,↓reduceIte,Nat.reduceLT,Nat.reduceLeDiff,Nat.reduceAdd,Nat.reduceSub,Nat.reduceMul,Nat.reduceEqDiff,reduceCtorEq,Int.reduceToNat,Int.reduceEq,Int.reduceBEq,Int.reduceBNe,Int.reduceLT,Int.reduceLE,Int.reduceNeg,Int.reduceAdd,Int.reduceSub,Int.reduceMul,Int.reduceGE,Int.reduceGT,endO,mcS,mcA]
 have hr:refN m op=0:=by unfold refN;rw [if_neg (by rw [hm];simp),if_neg (by rw [ho];decide)]
 refine callV (.c (.v (.int .i64 0))) _ (fun E=>rfl) (fun E a w' hs=>by have:=refused_any (w:=w') op (cont_at hs 0 rfl rfl rfl rfl rfl);rw [hr] at this;exact this) ?_
 simp (maxSteps:=2000000) only [go_sem,↓reduceIte,Nat.reduceLT,Nat.reduceLeDiff,Nat.reduceAdd,Nat.reduceSub,Nat.reduceMul,Nat.reduceEqDiff,reduceCtorEq,Int.reduceToNat,Int.reduceEq,Int.reduceBEq,Int.reduceBNe,Int.reduceLT,Int.reduceLE,Int.reduceNeg,Int.reduceAdd,Int.reduceSub,Int.reduceMul,Int.reduceGE,Int.reduceGT,endO]
 refine callN 5 (fun b=>.agg (mcL b m)) (mcO m) (fun E a w' hs=>copied_N (cont_at hs 0 rfl rfl rfl rfl rfl) hok) ?_
 simp (maxSteps:=2000000) only [go_sem,↓reduceIte,Nat.reduceLT,Nat.reduceLeDiff,Nat.reduceAdd,Nat.reduceSub,Nat.reduceMul,Nat.reduceEqDiff,reduceCtorEq,Int.reduceToNat,Int.reduceEq,Int.reduceBEq,Int.reduceBNe,Int.reduceLT,Int.reduceLE,Int.reduceNeg,Int.reduceAdd,Int.reduceSub,Int.reduceMul,Int.reduceGE,Int.reduceGT,endO,mcL,mcO]
 refine draw_vc (by kernel_rfl) (mkTab_ok _ _) (of_decide_eq_true rfl) (of_decide_eq_true rfl) ?_
 repeat (first | simp (maxSteps:=2000000) only [go_sem,↓reduceIte,Nat.reduceLT,Nat.reduceLeDiff,Nat.reduceAdd,Nat.reduceSub,Nat.reduceMul,Nat.reduceEqDiff,reduceCtorEq,Int.reduceToNat,Int.reduceEq,Int.reduceBEq,Int.reduceBNe,Int.reduceLT,Int.reduceLE,Int.reduceNeg,Int.reduceAdd,Int.reduceSub,Int.reduceMul,Int.reduceGE,Int.reduceGT,endO] | rw [dr_cons])
 refine dcallV (.c (.v (.int .i64 3))) _ (fun E=>rfl) (fun E a w' _=>by have:=obj_Z op w';rw [ho] at this;exact this) ?_
 repeat (first | simp (maxSteps:=2000000) only [go_sem,↓reduceIte,Nat.reduceLT,Nat.reduceLeDiff,Nat.reduceAdd,Nat.reduceSub,Nat.reduceMul,Nat.reduceEqDiff,reduceCtorEq,Int.reduceToNat,Int.reduceEq,Int.reduceBEq,Int.reduceBNe,Int.reduceLT,Int.reduceLE,Int.reduceNeg,Int.reduceAdd,Int.reduceSub,Int.reduceMul,Int.reduceGE,Int.reduceGT,endO] | rw [dr_cons])
 refine dcall_intro (cr_valN (.c (.ifc 92 (.sl (10,0,0) 1 0 m.queue.length none))) [10] (by simp [SV.okN,SC.okN]) (fun E a w' hs=>of_any _ _ _ _ _ 3 w')) rfl trivial trivial (fun k hk=>by cases hk) ?_
 repeat (first | simp (maxSteps:=2000000) only [go_sem,↓reduceIte,Nat.reduceLT,Nat.reduceLeDiff,Nat.reduceAdd,Nat.reduceSub,Nat.reduceMul,Nat.reduceEqDiff,reduceCtorEq,Int.reduceToNat,Int.reduceEq,Int.reduceBEq,Int.reduceBNe,Int.reduceLT,Int.reduceLE,Int.reduceNeg,Int.reduceAdd,Int.reduceSub,Int.reduceMul,Int.reduceGE,Int.reduceGT,endO] | rw [dr_cons])
 refine ⟨79,⟨by kernel_rfl,_,Try.underlying92⟩,⟨_,Try.func79,by kernel_rfl,by kernel_rfl⟩,?_⟩
 refine dcall_intro (cr_valN (.tup [(false,[.ifc 92 (.sl (10,0,0) 1 0 m.queue.length none)]),(true,[.v (.int .i64 d.2.1),.v (.int .i64 d.2.2)])]) [10] (by simp [SV.okN,ok1L,SC.okL,SC.okN]) (fun E a w' hs=>hd w' _ (own_E hs eI_ok 10 rfl))) rfl trivial trivial (fun k hk=>by cases hk) ?_
 repeat (first | simp (maxSteps:=2000000) only [go_sem,↓reduceIte,Nat.reduceLT,Nat.reduceLeDiff,Nat.reduceAdd,Nat.reduceSub,Nat.reduceMul,Nat.reduceEqDiff,reduceCtorEq,Int.reduceToNat,Int.reduceEq,Int.reduceBEq,Int.reduceBNe,Int.reduceLT,Int.reduceLE,Int.reduceNeg,Int.reduceAdd,Int.reduceSub,Int.reduceMul,Int.reduceGE,Int.reduceGT,endO] | rw [dr_cons])
 refine ⟨Or.inl trivial,Or.inr trivial,80,⟨by kernel_rfl,_,Try.underlying92⟩,⟨_,Try.func80,by kernel_rfl,by kernel_rfl⟩,?_⟩
 refine call_inline (c:=ir80) (rs:=rs80) (nt:=nt80) 1000 (mkTab_ok _ _) Try.func80 rfl (by kernel_rfl) (by kernel_rfl) rfl (by simp [okVs,SV.okN,SC.okL,SC.okN]) (of_decide_eq_true rfl) (fun E0 a0 ht0=>?_)
 simp (maxSteps:=2000000) only [ir80,nt80,rs80,go_sem,↓reduceIte,Nat.reduceLT,Nat.reduceLeDiff,Nat.reduceAdd,Nat.reduceSub,Nat.reduceMul,Nat.reduceEqDiff,reduceCtorEq,Int.reduceToNat,Int.reduceEq,Int.reduceBEq,Int.reduceBNe,Int.reduceLT,Int.reduceLE,Int.reduceNeg,Int.reduceAdd,Int.reduceSub,Int.reduceMul,Int.reduceGE,Int.reduceGT,endO,mkI_rs]
 refine retI ht0 _ rfl (of_decide_eq_true rfl) (by simp [SV.okN,SC.okN,ok1L]) ?_
 simp (maxSteps:=2000000) only [go_sem,↓reduceIte,Nat.reduceLT,Nat.reduceLeDiff,Nat.reduceAdd,Nat.reduceSub,Nat.reduceMul,Nat.reduceEqDiff,reduceCtorEq,Int.reduceToNat,Int.reduceEq,Int.reduceBEq,Int.reduceBNe,Int.reduceLT,Int.reduceLE,Int.reduceNeg,Int.reduceAdd,Int.reduceSub,Int.reduceMul,Int.reduceGE,Int.reduceGT,endO]
 refine draw_vc (by kernel_rfl) (mkTab_ok _ _) (of_decide_eq_true rfl) (of_decide_eq_true rfl) ?_
 repeat (first | simp (maxSteps:=2000000) only [go_sem,↓reduceIte,Nat.reduceLT,Nat.reduceLeDiff,Nat.reduceAdd,Nat.reduceSub,Nat.reduceMul,Nat.reduceEqDiff,reduceCtorEq,Int.reduceToNat,Int.reduceEq,Int.reduceBEq,Int.reduceBNe,Int.reduceLT,Int.reduceLE,Int.reduceNeg,Int.reduceAdd,Int.reduceSub,Int.reduceMul,Int.reduceGE,Int.reduceGT,endO] | rw [dr_cons])
 refine ⟨Or.inr trivial,Or.inr trivial,?_⟩
 exact ret5 (m:=m) 8 9 10 11 12 (d3L_ren 8 9 10 11 12 m d.2.1 d.2.2 0) rfl (fun _ _=>rfl) rfl (fun _ _=>rfl) rfl (fun _ _=>rfl) rfl (fun _ _=>rfl) rfl (fun _ _=>rfl) (by decide)
set_option maxRecDepth 100000 in
set_option maxHeartbeats 4000000 in
theorem mDoO_queue {w:World} {v:Value} {m:MC} (op arg data:Int) (d:List Int×Int×Int) (h:Cont w v m) (hok:MC.okR m) (hm:mayB m=true) (ho:objOf op=3)
  (hd:∀ (w' : World) v',OwnE w' 0 3 eI 1 v' m.queue→Calls Try.prog 79 #[v',.int .i64 op,.int .i64 arg,.int .i64 data] w' (RetDoO w' 92 d)) :
  Calls Try.prog 25 #[v,.int .i64 op,.int .i64 arg,.int .i64 data] w (fun r w2=>∃ ba:Addr,RetN w 5 (d3X2 ba ({ m with queue:=[] },d.2) 0) (mcX2 { m with queue:=[] }) r w2):=by
 obtain ⟨v0,v1,v2,v3,v4,rfl,h'⟩:=id h
 refine enterC (A:=[]) (c:=ir25) (rs:=rs25) (nt:=nt25) h [.agg (mcS 0),.c (.v (.int .i64 op)),.c (.v (.int .i64 arg)),.c (.v (.int .i64 data))] _ Try.func25 rfl (by kernel_rfl) (by kernel_rfl) rfl (fun E' h0=>by
  simp [mcS,SV.den,SC.den] at h0 ⊢
  simp [h0]) (of_decide_eq_true rfl) ?_
 simp (maxSteps:=2000000) only [ir25,nt25,rs25,go_sem,↓reduceIte,Nat.reduceLT,Nat.reduceLeDiff,Nat.reduceAdd,Nat.reduceSub,Nat.reduceMul,Nat.reduceEqDiff,reduceCtorEq,Int.reduceToNat,Int.reduceEq,Int.reduceBEq,Int.reduceBNe,Int.reduceLT,Int.reduceLE,Int.reduceNeg,Int.reduceAdd,Int.reduceSub,Int.reduceMul,Int.reduceGE,Int.reduceGT,endO,mcS,mcA]
 have hr:refN m op=0:=by unfold refN;rw [if_neg (by rw [hm];simp),if_neg (by rw [ho];decide)]
 refine callV (.c (.v (.int .i64 0))) _ (fun E=>rfl) (fun E a w' hs=>by have:=refused_any (w:=w') op (cont_at hs 0 rfl rfl rfl rfl rfl);rw [hr] at this;exact this) ?_
 simp (maxSteps:=2000000) only [go_sem,↓reduceIte,Nat.reduceLT,Nat.reduceLeDiff,Nat.reduceAdd,Nat.reduceSub,Nat.reduceMul,Nat.reduceEqDiff,reduceCtorEq,Int.reduceToNat,Int.reduceEq,Int.reduceBEq,Int.reduceBNe,Int.reduceLT,Int.reduceLE,Int.reduceNeg,Int.reduceAdd,Int.reduceSub,Int.reduceMul,Int.reduceGE,Int.reduceGT,endO]
 refine callN 5 (fun b=>.agg (mcL b m)) (mcO m) (fun E a w' hs=>copied_N (cont_at hs 0 rfl rfl rfl rfl rfl) hok) ?_
 simp (maxSteps:=2000000) only [go_sem,↓reduceIte,Nat.reduceLT,Nat.reduceLeDiff,Nat.reduceAdd,Nat.reduceSub,Nat.reduceMul,Nat.reduceEqDiff,reduceCtorEq,Int.reduceToNat,Int.reduceEq,Int.reduceBEq,Int.reduceBNe,Int.reduceLT,Int.reduceLE,Int.reduceNeg,Int.reduceAdd,Int.reduceSub,Int.reduceMul,Int.reduceGE,Int.reduceGT,endO,mcL,mcO]
 refine draw_vc (by kernel_rfl) (mkTab_ok _ _) (of_decide_eq_true rfl) (of_decide_eq_true rfl) ?_
 repeat (first | simp (maxSteps:=2000000) only [go_sem,↓reduceIte,Nat.reduceLT,Nat.reduceLeDiff,Nat.reduceAdd,Nat.reduceSub,Nat.reduceMul,Nat.reduceEqDiff,reduceCtorEq,Int.reduceToNat,Int.reduceEq,Int.reduceBEq,Int.reduceBNe,Int.reduceLT,Int.reduceLE,Int.reduceNeg,Int.reduceAdd,Int.reduceSub,Int.reduceMul,Int.reduceGE,Int.reduceGT,endO] | rw [dr_cons])
 refine dcallV (.c (.v (.int .i64 3))) _ (fun E=>rfl) (fun E a w' _=>by have:=obj_Z op w';rw [ho] at this;exact this) ?_
 repeat (first | simp (maxSteps:=2000000) only [go_sem,↓reduceIte,Nat.reduceLT,Nat.reduceLeDiff,Nat.reduceAdd,Nat.reduceSub,Nat.reduceMul,Nat.reduceEqDiff,reduceCtorEq,Int.reduceToNat,Int.reduceEq,Int.reduceBEq,Int.reduceBNe,Int.reduceLT,Int.reduceLE,Int.reduceNeg,Int.reduceAdd,Int.reduceSub,Int.reduceMul,Int.reduceGE,Int.reduceGT,endO] | rw [dr_cons])
 refine dcall_intro (cr_valN (.c (.ifc 92 (.sl (10,0,0) 1 0 m.queue.length none))) [10] (by simp [SV.okN,SC.okN]) (fun E a w' hs=>of_any _ _ _ _ _ 3 w')) rfl trivial trivial (fun k hk=>by cases hk) ?_
 repeat (first | simp (maxSteps:=2000000) only [go_sem,↓reduceIte,Nat.reduceLT,Nat.reduceLeDiff,Nat.reduceAdd,Nat.reduceSub,Nat.reduceMul,Nat.reduceEqDiff,reduceCtorEq,Int.reduceToNat,Int.reduceEq,Int.reduceBEq,Int.reduceBNe,Int.reduceLT,Int.reduceLE,Int.reduceNeg,Int.reduceAdd,Int.reduceSub,Int.reduceMul,Int.reduceGE,Int.reduceGT,endO] | rw [dr_cons])
 refine ⟨79,⟨by kernel_rfl,_,Try.underlying92⟩,⟨_,Try.func79,by kernel_rfl,by kernel_rfl⟩,?_⟩
 refine dcallN 1 (doX 92 d.2.1 d.2.2) oddO (fun E a w' hs=>(hd w' _ (own_E hs eI_ok 10 rfl)).mono fun e w2 he=>retN_doO he) ⟨⟨Nat.le_refl _,Nat.lt_succ_self _⟩,trivial⟩ ?_
 repeat (first | simp (maxSteps:=2000000) only [go_sem,↓reduceIte,Nat.reduceLT,Nat.reduceLeDiff,Nat.reduceAdd,Nat.reduceSub,Nat.reduceMul,Nat.reduceEqDiff,reduceCtorEq,Int.reduceToNat,Int.reduceEq,Int.reduceBEq,Int.reduceBNe,Int.reduceLT,Int.reduceLE,Int.reduceNeg,Int.reduceAdd,Int.reduceSub,Int.reduceMul,Int.reduceGE,Int.reduceGT,endO,doX,oddO] | rw [dr_cons])
 refine ⟨Or.inl trivial,Or.inr trivial,80,⟨by kernel_rfl,_,Try.underlying92⟩,⟨_,Try.func80,by kernel_rfl,by kernel_rfl⟩,?_⟩
 refine call_inline (c:=ir80) (rs:=rs80) (nt:=nt80) 1000 (mkTab_ok _ _) Try.func80 rfl (by kernel_rfl) (by kernel_rfl) rfl (by simp [okVs,SV.okN,SC.okL,SC.okN]) (of_decide_eq_true rfl) (fun E0 a0 ht0=>?_)
 simp (maxSteps:=2000000) only [ir80,nt80,rs80,go_sem,↓reduceIte,Nat.reduceLT,Nat.reduceLeDiff,Nat.reduceAdd,Nat.reduceSub,Nat.reduceMul,Nat.reduceEqDiff,reduceCtorEq,Int.reduceToNat,Int.reduceEq,Int.reduceBEq,Int.reduceBNe,Int.reduceLT,Int.reduceLE,Int.reduceNeg,Int.reduceAdd,Int.reduceSub,Int.reduceMul,Int.reduceGE,Int.reduceGT,endO,mkI_rs]
 refine retI ht0 _ rfl (of_decide_eq_true rfl) (by simp [SV.okN,SC.okN,ok1L]) ?_
 simp (maxSteps:=2000000) only [go_sem,↓reduceIte,Nat.reduceLT,Nat.reduceLeDiff,Nat.reduceAdd,Nat.reduceSub,Nat.reduceMul,Nat.reduceEqDiff,reduceCtorEq,Int.reduceToNat,Int.reduceEq,Int.reduceBEq,Int.reduceBNe,Int.reduceLT,Int.reduceLE,Int.reduceNeg,Int.reduceAdd,Int.reduceSub,Int.reduceMul,Int.reduceGE,Int.reduceGT,endO]
 refine draw_vc (by kernel_rfl) (mkTab_ok _ _) (of_decide_eq_true rfl) (of_decide_eq_true rfl) ?_
 repeat (first | simp (maxSteps:=2000000) only [go_sem,↓reduceIte,Nat.reduceLT,Nat.reduceLeDiff,Nat.reduceAdd,Nat.reduceSub,Nat.reduceMul,Nat.reduceEqDiff,reduceCtorEq,Int.reduceToNat,Int.reduceEq,Int.reduceBEq,Int.reduceBNe,Int.reduceLT,Int.reduceLE,Int.reduceNeg,Int.reduceAdd,Int.reduceSub,Int.reduceMul,Int.reduceGE,Int.reduceGT,endO] | rw [dr_cons])
 refine ⟨Or.inr trivial,Or.inr trivial,?_⟩
 refine retX 14 rfl (fun ba=>.tup [(true,[.sl (8,0,0) 1 0 m.cell.length none,.sl (9,0,0) 1 0 m.stack.length none,.v (.slice (some ba) 0 0),.sl (11,0,0) 1 0 m.set.length none,.sl (12,0,0) 2 0 m.table.length none]),(true,[.v (.int .i64 d.2.1),.v (.int .i64 d.2.2)]),(false,[.v (.int .i64 0)])]) (fun ba E hE=>by simp [SV.den,den1,SC.den,hE]) (fun ba=>?_)
 exact retX2 (m:={ m with queue:=[] }) 8 9 10 11 12 ba rfl rfl rfl rfl (by decide)
set_option maxRecDepth 100000 in
set_option maxHeartbeats 4000000 in
theorem mDoN_set {w:World} {v:Value} {m:MC} (op arg data:Int) (d:List Int×Int×Int) (h:Cont w v m) (hok:MC.okR m) (hm:mayB m=true) (ho:objOf op=4)
  (hd:∀ (w' : World) v',OwnE w' 0 3 eI 1 v' m.set→Calls Try.prog 82 #[v',.int .i64 op,.int .i64 arg,.int .i64 data] w' (RetDoN w' 93 3 eI 1 d)) :
  Calls Try.prog 25 #[v,.int .i64 op,.int .i64 arg,.int .i64 data] w (RetN w 5 (d3L ({ m with set:=d.1 },d.2) 0) (mcO { m with set:=d.1 })):=by
 obtain ⟨v0,v1,v2,v3,v4,rfl,h'⟩:=id h
 refine enterC (A:=[]) (c:=ir25) (rs:=rs25) (nt:=nt25) h [.agg (mcS 0),.c (.v (.int .i64 op)),.c (.v (.int .i64 arg)),.c (.v (.int .i64 data))] _ Try.func25 rfl (by kernel_rfl) (by kernel_rfl) rfl (fun E' h0=>by
  simp [mcS,SV.den,SC.den] at h0 ⊢
  simp [h0]) (of_decide_eq_true rfl) ?_
 simp (maxSteps:=2000000) only [ir25,nt25,rs25,go_sem,↓reduceIte,Nat.reduceLT,Nat.reduceLeDiff,Nat.reduceAdd,Nat.reduceSub,Nat.reduceMul,Nat.reduceEqDiff,reduceCtorEq,Int.reduceToNat,Int.reduceEq,Int.reduceBEq,Int.reduceBNe,Int.reduceLT,Int.reduceLE,Int.reduceNeg,Int.reduceAdd,Int.reduceSub,Int.reduceMul,Int.reduceGE,Int.reduceGT,endO,mcS,mcA]
 have hr:refN m op=0:=by unfold refN;rw [if_neg (by rw [hm];simp),if_neg (by rw [ho];decide)]
 refine callV (.c (.v (.int .i64 0))) _ (fun E=>rfl) (fun E a w' hs=>by have:=refused_any (w:=w') op (cont_at hs 0 rfl rfl rfl rfl rfl);rw [hr] at this;exact this) ?_
 simp (maxSteps:=2000000) only [go_sem,↓reduceIte,Nat.reduceLT,Nat.reduceLeDiff,Nat.reduceAdd,Nat.reduceSub,Nat.reduceMul,Nat.reduceEqDiff,reduceCtorEq,Int.reduceToNat,Int.reduceEq,Int.reduceBEq,Int.reduceBNe,Int.reduceLT,Int.reduceLE,Int.reduceNeg,Int.reduceAdd,Int.reduceSub,Int.reduceMul,Int.reduceGE,Int.reduceGT,endO]
 refine callN 5 (fun b=>.agg (mcL b m)) (mcO m) (fun E a w' hs=>copied_N (cont_at hs 0 rfl rfl rfl rfl rfl) hok) ?_
 simp (maxSteps:=2000000) only [go_sem,↓reduceIte,Nat.reduceLT,Nat.reduceLeDiff,Nat.reduceAdd,Nat.reduceSub,Nat.reduceMul,Nat.reduceEqDiff,reduceCtorEq,Int.reduceToNat,Int.reduceEq,Int.reduceBEq,Int.reduceBNe,Int.reduceLT,Int.reduceLE,Int.reduceNeg,Int.reduceAdd,Int.reduceSub,Int.reduceMul,Int.reduceGE,Int.reduceGT,endO,mcL,mcO]
 refine draw_vc (by kernel_rfl) (mkTab_ok _ _) (of_decide_eq_true rfl) (of_decide_eq_true rfl) ?_
 repeat (first | simp (maxSteps:=2000000) only [go_sem,↓reduceIte,Nat.reduceLT,Nat.reduceLeDiff,Nat.reduceAdd,Nat.reduceSub,Nat.reduceMul,Nat.reduceEqDiff,reduceCtorEq,Int.reduceToNat,Int.reduceEq,Int.reduceBEq,Int.reduceBNe,Int.reduceLT,Int.reduceLE,Int.reduceNeg,Int.reduceAdd,Int.reduceSub,Int.reduceMul,Int.reduceGE,Int.reduceGT,endO] | rw [dr_cons])
 refine dcallV (.c (.v (.int .i64 4))) _ (fun E=>rfl) (fun E a w' _=>by have:=obj_Z op w';rw [ho] at this;exact this) ?_
 repeat (first | simp (maxSteps:=2000000) only [go_sem,↓reduceIte,Nat.reduceLT,Nat.reduceLeDiff,Nat.reduceAdd,Nat.reduceSub,Nat.reduceMul,Nat.reduceEqDiff,reduceCtorEq,Int.reduceToNat,Int.reduceEq,Int.reduceBEq,Int.reduceBNe,Int.reduceLT,Int.reduceLE,Int.reduceNeg,Int.reduceAdd,Int.reduceSub,Int.reduceMul,Int.reduceGE,Int.reduceGT,endO] | rw [dr_cons])
 refine dcall_intro (cr_valN (.c (.ifc 93 (.sl (11,0,0) 1 0 m.set.length none))) [11] (by simp [SV.okN,SC.okN]) (fun E a w' hs=>of_any _ _ _ _ _ 4 w')) rfl trivial trivial (fun k hk=>by cases hk) ?_
 repeat (first | simp (maxSteps:=2000000) only [go_sem,↓reduceIte,Nat.reduceLT,Nat.reduceLeDiff,Nat.reduceAdd,Nat.reduceSub,Nat.reduceMul,Nat.reduceEqDiff,reduceCtorEq,Int.reduceToNat,Int.reduceEq,Int.reduceBEq,Int.reduceBNe,Int.reduceLT,Int.reduceLE,Int.reduceNeg,Int.reduceAdd,Int.reduceSub,Int.reduceMul,Int.reduceGE,Int.reduceGT,endO] | rw [dr_cons])
 refine ⟨82,⟨by kernel_rfl,_,Try.underlying93⟩,⟨_,Try.func82,by kernel_rfl,by kernel_rfl⟩,?_⟩
 refine dcallN 1 (doT 93 1 d.1.length d.2.1 d.2.2) (lsO 3 1 eI d.1 0) (fun E a w' hs=>(hd w' _ (own_E hs eI_ok 11 rfl)).mono fun e w2 he=>retN_doN eI_ok he) ⟨⟨Nat.le_refl _,Nat.lt_succ_self _⟩,trivial⟩ ?_
 repeat (first | simp (maxSteps:=2000000) only [go_sem,↓reduceIte,Nat.reduceLT,Nat.reduceLeDiff,Nat.reduceAdd,Nat.reduceSub,Nat.reduceMul,Nat.reduceEqDiff,reduceCtorEq,Int.reduceToNat,Int.reduceEq,Int.reduceBEq,Int.reduceBNe,Int.reduceLT,Int.reduceLE,Int.reduceNeg,Int.reduceAdd,Int.reduceSub,Int.reduceMul,Int.reduceGE,Int.reduceGT,endO,doT,lsO] | rw [dr_cons])
 refine ⟨Or.inl trivial,Or.inr trivial,84,⟨by kernel_rfl,_,Try.underlying93⟩,⟨_,Try.func84,by kernel_rfl,by kernel_rfl⟩,?_⟩
 refine call_inline (c:=ir84) (rs:=rs84) (nt:=nt84) 1000 (mkTab_ok _ _) Try.func84 rfl (by kernel_rfl) (by kernel_rfl) rfl (by simp [okVs,SV.okN,SC.okL,SC.okN]) (of_decide_eq_true rfl) (fun E0 a0 ht0=>?_)
 simp (maxSteps:=2000000) only [ir84,nt84,rs84,go_sem,↓reduceIte,Nat.reduceLT,Nat.reduceLeDiff,Nat.reduceAdd,Nat.reduceSub,Nat.reduceMul,Nat.reduceEqDiff,reduceCtorEq,Int.reduceToNat,Int.reduceEq,Int.reduceBEq,Int.reduceBNe,Int.reduceLT,Int.reduceLE,Int.reduceNeg,Int.reduceAdd,Int.reduceSub,Int.reduceMul,Int.reduceGE,Int.reduceGT,endO,mkI_rs]
 refine retI ht0 _ rfl (of_decide_eq_true rfl) (by simp [SV.okN,SC.okN,ok1L]) ?_
 simp (maxSteps:=2000000) only [go_sem,↓reduceIte,Nat.reduceLT,Nat.reduceLeDiff,Nat.reduceAdd,Nat.reduceSub,Nat.reduceMul,Nat.reduceEqDiff,reduceCtorEq,Int.reduceToNat,Int.reduceEq,Int.reduceBEq,Int.reduceBNe,Int.reduceLT,Int.reduceLE,Int.reduceNeg,Int.reduceAdd,Int.reduceSub,Int.reduceMul,Int.reduceGE,Int.reduceGT,endO]
 refine draw_vc (by kernel_rfl) (mkTab_ok _ _) (of_decide_eq_true rfl) (of_decide_eq_true rfl) ?_
 repeat (first | simp (maxSteps:=2000000) only [go_sem,↓reduceIte,Nat.reduceLT,Nat.reduceLeDiff,Nat.reduceAdd,Nat.reduceSub,Nat.reduceMul,Nat.reduceEqDiff,reduceCtorEq,Int.reduceToNat,Int.reduceEq,Int.reduceBEq,Int.reduceBNe,Int.reduceLT,Int.reduceLE,Int.reduceNeg,Int.reduceAdd,Int.reduceSub,Int.reduceMul,Int.reduceGE,Int.reduceGT,endO] | rw [dr_cons])
 refine ⟨Or.inr trivial,Or.inr trivial,?_⟩
 exact ret5 (m:={ m with set:=d.1 }) 8 9 10 14 12 (d3L_ren 8 9 10 14 12 { m with set:=d.1 } d.2.1 d.2.2 0) rfl (fun _ _=>rfl) rfl (fun _ _=>rfl) rfl (fun _ _=>rfl) rfl (fun _ _=>rfl) rfl (fun _ _=>rfl) (by decide)
set_option maxRecDepth 100000 in
set_option maxHeartbeats 4000000 in
theorem mDoS_set {w:World} {v:Value} {m:MC} (op arg data:Int) (d:List Int×Int×Int) (h:Cont w v m) (hok:MC.okR m) (hm:mayB m=true) (ho:objOf op=4)
  (hd:∀ (w' : World) v',OwnE w' 0 3 eI 1 v' m.set→Calls Try.prog 82 #[v',.int .i64 op,.int .i64 arg,.int .i64 data] w' (RetDoS w' 93 v' d)) :
  Calls Try.prog 25 #[v,.int .i64 op,.int .i64 arg,.int .i64 data] w (RetN w 5 (d3L (m,d.2) 0) (mcO m)):=by
 obtain ⟨v0,v1,v2,v3,v4,rfl,h'⟩:=id h
 refine enterC (A:=[]) (c:=ir25) (rs:=rs25) (nt:=nt25) h [.agg (mcS 0),.c (.v (.int .i64 op)),.c (.v (.int .i64 arg)),.c (.v (.int .i64 data))] _ Try.func25 rfl (by kernel_rfl) (by kernel_rfl) rfl (fun E' h0=>by
  simp [mcS,SV.den,SC.den] at h0 ⊢
  simp [h0]) (of_decide_eq_true rfl) ?_
 simp (maxSteps:=2000000) only [ir25,nt25,rs25,go_sem,↓reduceIte,Nat.reduceLT,Nat.reduceLeDiff,Nat.reduceAdd,Nat.reduceSub,Nat.reduceMul,Nat.reduceEqDiff,reduceCtorEq,Int.reduceToNat,Int.reduceEq,Int.reduceBEq,Int.reduceBNe,Int.reduceLT,Int.reduceLE,Int.reduceNeg,Int.reduceAdd,Int.reduceSub,Int.reduceMul,Int.reduceGE,Int.reduceGT,endO,mcS,mcA]
 have hr:refN m op=0:=by unfold refN;rw [if_neg (by rw [hm];simp),if_neg (by rw [ho];decide)]
 refine callV (.c (.v (.int .i64 0))) _ (fun E=>rfl) (fun E a w' hs=>by have:=refused_any (w:=w') op (cont_at hs 0 rfl rfl rfl rfl rfl);rw [hr] at this;exact this) ?_
 simp (maxSteps:=2000000) only [go_sem,↓reduceIte,Nat.reduceLT,Nat.reduceLeDiff,Nat.reduceAdd,Nat.reduceSub,Nat.reduceMul,Nat.reduceEqDiff,reduceCtorEq,Int.reduceToNat,Int.reduceEq,Int.reduceBEq,Int.reduceBNe,Int.reduceLT,Int.reduceLE,Int.reduceNeg,Int.reduceAdd,Int.reduceSub,Int.reduceMul,Int.reduceGE,Int.reduceGT,endO]
 refine callN 5 (fun b=>.agg (mcL b m)) (mcO m) (fun E a w' hs=>copied_N (cont_at hs 0 rfl rfl rfl rfl rfl) hok) ?_
 simp (maxSteps:=2000000) only [go_sem,↓reduceIte,Nat.reduceLT,Nat.reduceLeDiff,Nat.reduceAdd,Nat.reduceSub,Nat.reduceMul,Nat.reduceEqDiff,reduceCtorEq,Int.reduceToNat,Int.reduceEq,Int.reduceBEq,Int.reduceBNe,Int.reduceLT,Int.reduceLE,Int.reduceNeg,Int.reduceAdd,Int.reduceSub,Int.reduceMul,Int.reduceGE,Int.reduceGT,endO,mcL,mcO]
 refine draw_vc (by kernel_rfl) (mkTab_ok _ _) (of_decide_eq_true rfl) (of_decide_eq_true rfl) ?_
 repeat (first | simp (maxSteps:=2000000) only [go_sem,↓reduceIte,Nat.reduceLT,Nat.reduceLeDiff,Nat.reduceAdd,Nat.reduceSub,Nat.reduceMul,Nat.reduceEqDiff,reduceCtorEq,Int.reduceToNat,Int.reduceEq,Int.reduceBEq,Int.reduceBNe,Int.reduceLT,Int.reduceLE,Int.reduceNeg,Int.reduceAdd,Int.reduceSub,Int.reduceMul,Int.reduceGE,Int.reduceGT,endO] | rw [dr_cons])
 refine dcallV (.c (.v (.int .i64 4))) _ (fun E=>rfl) (fun E a w' _=>by have:=obj_Z op w';rw [ho] at this;exact this) ?_
 repeat (first | simp (maxSteps:=2000000) only [go_sem,↓reduceIte,Nat.reduceLT,Nat.reduceLeDiff,Nat.reduceAdd,Nat.reduceSub,Nat.reduceMul,Nat.reduceEqDiff,reduceCtorEq,Int.reduceToNat,Int.reduceEq,Int.reduceBEq,Int.reduceBNe,Int.reduceLT,Int.reduceLE,Int.reduceNeg,Int.reduceAdd,Int.reduceSub,Int.reduceMul,Int.reduceGE,Int.reduceGT,endO] | rw [dr_cons])
 refine dcall_intro (cr_valN (.c (.ifc 93 (.sl (11,0,0) 1 0 m.set.length none))) [11] (by simp [SV.okN,SC.okN]) (fun E a w' hs=>of_any _ _ _ _ _ 4 w')) rfl trivial trivial (fun k hk=>by cases hk) ?_
 repeat (first | simp (maxSteps:=2000000) only [go_sem,↓reduceIte,Nat.reduceLT,Nat.reduceLeDiff,Nat.reduceAdd,Nat.reduceSub,Nat.reduceMul,Nat.reduceEqDiff,reduceCtorEq,Int.reduceToNat,Int.reduceEq,Int.reduceBEq,Int.reduceBNe,Int.reduceLT,Int.reduceLE,Int.reduceNeg,Int.reduceAdd,Int.reduceSub,Int.reduceMul,Int.reduceGE,Int.reduceGT,endO] | rw [dr_cons])
 refine ⟨82,⟨by kernel_rfl,_,Try.underlying93⟩,⟨_,Try.func82,by kernel_rfl,by kernel_rfl⟩,?_⟩
 refine dcall_intro (cr_valN (.tup [(false,[.ifc 93 (.sl (11,0,0) 1 0 m.set.length none)]),(true,[.v (.int .i64 d.2.1),.v (.int .i64 d.2.2)])]) [11] (by simp [SV.okN,ok1L,SC.okL,SC.okN]) (fun E a w' hs=>hd w' _ (own_E hs eI_ok 11 rfl))) rfl trivial trivial (fun k hk=>by cases hk) ?_
 repeat (first | simp (maxSteps:=2000000) only [go_sem,↓reduceIte,Nat.reduceLT,Nat.reduceLeDiff,Nat.reduceAdd,Nat.reduceSub,Nat.reduceMul,Nat.reduceEqDiff,reduceCtorEq,Int.reduceToNat,Int.reduceEq,Int.reduceBEq,Int.reduceBNe,Int.reduceLT,Int.reduceLE,Int.reduceNeg,Int.reduceAdd,Int.reduceSub,Int.reduceMul,Int.reduceGE,Int.reduceGT,endO] | rw [dr_cons])
 refine ⟨Or.inl trivial,Or.inr trivial,84,⟨by kernel_rfl,_,Try.underlying93⟩,⟨_,Try.func84,by kernel_rfl,by kernel_rfl⟩,?_⟩
 refine call_inline (c:=ir84) (rs:=rs84) (nt:=nt84) 1000 (mkTab_ok _ _) Try.func84 rfl (by kernel_rfl) (by kernel_rfl) rfl (by simp [okVs,SV.okN,SC.okL,SC.okN]) (of_decide_eq_true rfl) (fun E0 a0 ht0=>?_)
 simp (maxSteps:=2000000) only [ir84,nt84,rs84,go_sem,↓reduceIte,Nat.reduceLT,Nat.reduceLeDiff,Nat.reduceAdd,Nat.reduceSub,Nat.reduceMul,Nat.reduceEqDiff,reduceCtorEq,Int.reduceToNat,Int.reduceEq,Int.reduceBEq,Int.reduceBNe,Int.reduceLT,Int.reduceLE,Int.reduceNeg,Int.reduceAdd,Int.reduceSub,Int.reduceMul,Int.reduceGE,Int.reduceGT,endO,mkI_rs]
 refine retI ht0 _ rfl (of_decide_eq_true rfl) (by simp [SV.okN,SC.okN,ok1L]) ?_
 simp (maxSteps:=2000000) only [go_sem,↓reduceIte,Nat.reduceLT,Nat.reduceLeDiff,Nat.reduceAdd,Nat.reduceSub,Nat.reduceMul,Nat.reduceEqDiff,reduceCtorEq,Int.reduceToNat,Int.reduceEq,Int.reduceBEq,Int.reduceBNe,Int.reduceLT,Int.reduceLE,Int.reduceNeg,Int.reduceAdd,Int.reduceSub,Int.reduceMul,Int.reduceGE,Int.reduceGT,endO]
 refine draw_vc (by kernel_rfl) (mkTab_ok _ _) (of_decide_eq_true rfl) (of_decide_eq_true rfl) ?_
 repeat (first | simp (maxSteps:=2000000) only [go_sem,↓reduceIte,Nat.reduceLT,Nat.reduceLeDiff,Nat.reduceAdd,Nat.reduceSub,Nat.reduceMul,Nat.reduceEqDiff,reduceCtorEq,Int.reduceToNat,Int.reduceEq,Int.reduceBEq,Int.reduceBNe,Int.reduceLT,Int.reduceLE,Int.reduceNeg,Int.reduceAdd,Int.reduceSub,Int.reduceMul,Int.reduceGE,Int.reduceGT,endO] | rw [dr_cons])
 refine ⟨Or.inr trivial,Or.inr trivial,?_⟩
 exact ret5 (m:=m) 8 9 10 11 12 (d3L_ren 8 9 10 11 12 m d.2.1 d.2.2 0) rfl (fun _ _=>rfl) rfl (fun _ _=>rfl) rfl (fun _ _=>rfl) rfl (fun _ _=>rfl) rfl (fun _ _=>rfl) (by decide)
set_option maxRecDepth 100000 in
set_option maxHeartbeats 4000000 in
theorem mDoN_table {w:World} {v:Value} {m:MC} (op arg data:Int) (d:List (Int×Int)×Int×Int) (h:Cont w v m) (hok:MC.okR m) (hm:mayB m=true) (ho:objOf op=5)
  (hd:∀ (w' : World) v',OwnE w' 0 76 eP 2 v' m.table→Calls Try.prog 97 #[v',.int .i64 op,.int .i64 arg,.int .i64 data] w' (RetDoN w' 94 76 eP 2 d)) :
  Calls Try.prog 25 #[v,.int .i64 op,.int .i64 arg,.int .i64 data] w (RetN w 5 (d3L ({ m with table:=d.1 },d.2) 0) (mcO { m with table:=d.1 })):=by
 obtain ⟨v0,v1,v2,v3,v4,rfl,h'⟩:=id h
 refine enterC (A:=[]) (c:=ir25) (rs:=rs25) (nt:=nt25) h [.agg (mcS 0),.c (.v (.int .i64 op)),.c (.v (.int .i64 arg)),.c (.v (.int .i64 data))] _ Try.func25 rfl (by kernel_rfl) (by kernel_rfl) rfl (fun E' h0=>by
  simp [mcS,SV.den,SC.den] at h0 ⊢
  simp [h0]) (of_decide_eq_true rfl) ?_
 simp (maxSteps:=2000000) only [ir25,nt25,rs25,go_sem,↓reduceIte,Nat.reduceLT,Nat.reduceLeDiff,Nat.reduceAdd,Nat.reduceSub,Nat.reduceMul,Nat.reduceEqDiff,reduceCtorEq,Int.reduceToNat,Int.reduceEq,Int.reduceBEq,Int.reduceBNe,Int.reduceLT,Int.reduceLE,Int.reduceNeg,Int.reduceAdd,Int.reduceSub,Int.reduceMul,Int.reduceGE,Int.reduceGT,endO,mcS,mcA]
 have hr:refN m op=0:=by unfold refN;rw [if_neg (by rw [hm];simp),if_neg (by rw [ho];decide)]
 refine callV (.c (.v (.int .i64 0))) _ (fun E=>rfl) (fun E a w' hs=>by have:=refused_any (w:=w') op (cont_at hs 0 rfl rfl rfl rfl rfl);rw [hr] at this;exact this) ?_
 simp (maxSteps:=2000000) only [go_sem,↓reduceIte,Nat.reduceLT,Nat.reduceLeDiff,Nat.reduceAdd,Nat.reduceSub,Nat.reduceMul,Nat.reduceEqDiff,reduceCtorEq,Int.reduceToNat,Int.reduceEq,Int.reduceBEq,Int.reduceBNe,Int.reduceLT,Int.reduceLE,Int.reduceNeg,Int.reduceAdd,Int.reduceSub,Int.reduceMul,Int.reduceGE,Int.reduceGT,endO]
 refine callN 5 (fun b=>.agg (mcL b m)) (mcO m) (fun E a w' hs=>copied_N (cont_at hs 0 rfl rfl rfl rfl rfl) hok) ?_
 simp (maxSteps:=2000000) only [go_sem,↓reduceIte,Nat.reduceLT,Nat.reduceLeDiff,Nat.reduceAdd,Nat.reduceSub,Nat.reduceMul,Nat.reduceEqDiff,reduceCtorEq,Int.reduceToNat,Int.reduceEq,Int.reduceBEq,Int.reduceBNe,Int.reduceLT,Int.reduceLE,Int.reduceNeg,Int.reduceAdd,Int.reduceSub,Int.reduceMul,Int.reduceGE,Int.reduceGT,endO,mcL,mcO]
 refine draw_vc (by kernel_rfl) (mkTab_ok _ _) (of_decide_eq_true rfl) (of_decide_eq_true rfl) ?_
 repeat (first | simp (maxSteps:=2000000) only [go_sem,↓reduceIte,Nat.reduceLT,Nat.reduceLeDiff,Nat.reduceAdd,Nat.reduceSub,Nat.reduceMul,Nat.reduceEqDiff,reduceCtorEq,Int.reduceToNat,Int.reduceEq,Int.reduceBEq,Int.reduceBNe,Int.reduceLT,Int.reduceLE,Int.reduceNeg,Int.reduceAdd,Int.reduceSub,Int.reduceMul,Int.reduceGE,Int.reduceGT,endO] | rw [dr_cons])
 refine dcallV (.c (.v (.int .i64 5))) _ (fun E=>rfl) (fun E a w' _=>by have:=obj_Z op w';rw [ho] at this;exact this) ?_
 repeat (first | simp (maxSteps:=2000000) only [go_sem,↓reduceIte,Nat.reduceLT,Nat.reduceLeDiff,Nat.reduceAdd,Nat.reduceSub,Nat.reduceMul,Nat.reduceEqDiff,reduceCtorEq,Int.reduceToNat,Int.reduceEq,Int.reduceBEq,Int.reduceBNe,Int.reduceLT,Int.reduceLE,Int.reduceNeg,Int.reduceAdd,Int.reduceSub,Int.reduceMul,Int.reduceGE,Int.reduceGT,endO] | rw [dr_cons])
 refine dcall_intro (cr_valN (.c (.ifc 94 (.sl (12,0,0) 2 0 m.table.length none))) [12] (by simp [SV.okN,SC.okN]) (fun E a w' hs=>of_any _ _ _ _ _ 5 w')) rfl trivial trivial (fun k hk=>by cases hk) ?_
 repeat (first | simp (maxSteps:=2000000) only [go_sem,↓reduceIte,Nat.reduceLT,Nat.reduceLeDiff,Nat.reduceAdd,Nat.reduceSub,Nat.reduceMul,Nat.reduceEqDiff,reduceCtorEq,Int.reduceToNat,Int.reduceEq,Int.reduceBEq,Int.reduceBNe,Int.reduceLT,Int.reduceLE,Int.reduceNeg,Int.reduceAdd,Int.reduceSub,Int.reduceMul,Int.reduceGE,Int.reduceGT,endO] | rw [dr_cons])
 refine ⟨97,⟨by kernel_rfl,_,Try.underlying94⟩,⟨_,Try.func97,by kernel_rfl,by kernel_rfl⟩,?_⟩
 refine dcallN 1 (doT 94 2 d.1.length d.2.1 d.2.2) (lsO 76 2 eP d.1 (0,0)) (fun E a w' hs=>(hd w' _ (own_E hs eP_ok 12 rfl)).mono fun e w2 he=>retN_doN eP_ok he) ⟨⟨Nat.le_refl _,Nat.lt_succ_self _⟩,trivial⟩ ?_
 repeat (first | simp (maxSteps:=2000000) only [go_sem,↓reduceIte,Nat.reduceLT,Nat.reduceLeDiff,Nat.reduceAdd,Nat.reduceSub,Nat.reduceMul,Nat.reduceEqDiff,reduceCtorEq,Int.reduceToNat,Int.reduceEq,Int.reduceBEq,Int.reduceBNe,Int.reduceLT,Int.reduceLE,Int.reduceNeg,Int.reduceAdd,Int.reduceSub,Int.reduceMul,Int.reduceGE,Int.reduceGT,endO,doT,lsO] | rw [dr_cons])
 refine ⟨Or.inl trivial,Or.inr trivial,99,⟨by kernel_rfl,_,Try.underlying94⟩,⟨_,Try.func99,by kernel_rfl,by kernel_rfl⟩,?_⟩
 refine call_inline (c:=ir99) (rs:=rs99) (nt:=nt99) 1000 (mkTab_ok _ _) Try.func99 rfl (by kernel_rfl) (by kernel_rfl) rfl (by simp [okVs,SV.okN,SC.okL,SC.okN]) (of_decide_eq_true rfl) (fun E0 a0 ht0=>?_)
 simp (maxSteps:=2000000) only [ir99,nt99,rs99,go_sem,↓reduceIte,Nat.reduceLT,Nat.reduceLeDiff,Nat.reduceAdd,Nat.reduceSub,Nat.reduceMul,Nat.reduceEqDiff,reduceCtorEq,Int.reduceToNat,Int.reduceEq,Int.reduceBEq,Int.reduceBNe,Int.reduceLT,Int.reduceLE,Int.reduceNeg,Int.reduceAdd,Int.reduceSub,Int.reduceMul,Int.reduceGE,Int.reduceGT,endO,mkI_rs]
 refine retI ht0 _ rfl (of_decide_eq_true rfl) (by simp [SV.okN,SC.okN,ok1L]) ?_
 simp (maxSteps:=2000000) only [go_sem,↓reduceIte,Nat.reduceLT,Nat.reduceLeDiff,Nat.reduceAdd,Nat.reduceSub,Nat.reduceMul,Nat.reduceEqDiff,reduceCtorEq,Int.reduceToNat,Int.reduceEq,Int.reduceBEq,Int.reduceBNe,Int.reduceLT,Int.reduceLE,Int.reduceNeg,Int.reduceAdd,Int.reduceSub,Int.reduceMul,Int.reduceGE,Int.reduceGT,endO]
 refine draw_vc (by kernel_rfl) (mkTab_ok _ _) (of_decide_eq_true rfl) (of_decide_eq_true rfl) ?_
 repeat (first | simp (maxSteps:=2000000) only [go_sem,↓reduceIte,Nat.reduceLT,Nat.reduceLeDiff,Nat.reduceAdd,Nat.reduceSub,Nat.reduceMul,Nat.reduceEqDiff,reduceCtorEq,Int.reduceToNat,Int.reduceEq,Int.reduceBEq,Int.reduceBNe,Int.reduceLT,Int.reduceLE,Int.reduceNeg,Int.reduceAdd,Int.reduceSub,Int.reduceMul,Int.reduceGE,Int.reduceGT,endO] | rw [dr_cons])
 refine ⟨Or.inr trivial,Or.inr trivial,?_⟩
 exact ret5 (m:={ m with table:=d.1 }) 8 9 10 11 14 (d3L_ren 8 9 10 11 14 { m with table:=d.1 } d.2.1 d.2.2 0) rfl (fun _ _=>rfl) rfl (fun _ _=>rfl) rfl (fun _ _=>rfl) rfl (fun _ _=>rfl) rfl (fun _ _=>rfl) (by decide)
set_option maxRecDepth 100000 in
set_option maxHeartbeats 4000000 in
theorem mDoS_table {w:World} {v:Value} {m:MC} (op arg data:Int) (d:List (Int×Int)×Int×Int) (h:Cont w v m) (hok:MC.okR m) (hm:mayB m=true) (ho:objOf op=5)
  (hd:∀ (w' : World) v',OwnE w' 0 76 eP 2 v' m.table→Calls Try.prog 97 #[v',.int .i64 op,.int .i64 arg,.int .i64 data] w' (RetDoS w' 94 v' d)) :
  Calls Try.prog 25 #[v,.int .i64 op,.int .i64 arg,.int .i64 data] w (RetN w 5 (d3L (m,d.2) 0) (mcO m)):=by
 obtain ⟨v0,v1,v2,v3,v4,rfl,h'⟩:=id h
 refine enterC (A:=[]) (c:=ir25) (rs:=rs25) (nt:=nt25) h [.agg (mcS 0),.c (.v (.int .i64 op)),.c (.v (.int .i64 arg)),.c (.v (.int .i64 data))] _ Try.func25 rfl (by kernel_rfl) (by kernel_rfl) rfl (fun E' h0=>by
  simp [mcS,SV.den,SC.den] at h0 ⊢
  simp [h0]) (of_decide_eq_true rfl) ?_
 simp (maxSteps:=2000000) only [ir25,nt25,rs25,go_sem,↓reduceIte,Nat.reduceLT,Nat.reduceLeDiff,Nat.reduceAdd,Nat.reduceSub,Nat.reduceMul,Nat.reduceEqDiff,reduceCtorEq,Int.reduceToNat,Int.reduceEq,Int.reduceBEq,Int.reduceBNe,Int.reduceLT,Int.reduceLE,Int.reduceNeg,Int.reduceAdd,Int.reduceSub,Int.reduceMul,Int.reduceGE,Int.reduceGT,endO,mcS,mcA]
 have hr:refN m op=0:=by unfold refN;rw [if_neg (by rw [hm];simp),if_neg (by rw [ho];decide)]
 refine callV (.c (.v (.int .i64 0))) _ (fun E=>rfl) (fun E a w' hs=>by have:=refused_any (w:=w') op (cont_at hs 0 rfl rfl rfl rfl rfl);rw [hr] at this;exact this) ?_
 simp (maxSteps:=2000000) only [go_sem,↓reduceIte,Nat.reduceLT,Nat.reduceLeDiff,Nat.reduceAdd,Nat.reduceSub,Nat.reduceMul,Nat.reduceEqDiff,reduceCtorEq,Int.reduceToNat,Int.reduceEq,Int.reduceBEq,Int.reduceBNe,Int.reduceLT,Int.reduceLE,Int.reduceNeg,Int.reduceAdd,Int.reduceSub,Int.reduceMul,Int.reduceGE,Int.reduceGT,endO]
 refine callN 5 (fun b=>.agg (mcL b m)) (mcO m) (fun E a w' hs=>copied_N (cont_at hs 0 rfl rfl rfl rfl rfl) hok) ?_
 simp (maxSteps:=2000000) only [go_sem,↓reduceIte,Nat.reduceLT,Nat.reduceLeDiff,Nat.reduceAdd,Nat.reduceSub,Nat.reduceMul,Nat.reduceEqDiff,reduceCtorEq,Int.reduceToNat,Int.reduceEq,Int.reduceBEq,Int.reduceBNe,Int.reduceLT,Int.reduceLE,Int.reduceNeg,Int.reduceAdd,Int.reduceSub,Int.reduceMul,Int.reduceGE,Int.reduceGT,endO,mcL,mcO]
 refine draw_vc (by kernel_rfl) (mkTab_ok _ _) (of_decide_eq_true rfl) (of_decide_eq_true rfl) ?_
 repeat (first | simp (maxSteps:=2000000) only [go_sem,↓reduceIte,Nat.reduceLT,Nat.reduceLeDiff,Nat.reduceAdd,Nat.reduceSub,Nat.reduceMul,Nat.reduceEqDiff,reduceCtorEq,Int.reduceToNat,Int.reduceEq,Int.reduceBEq,Int.reduceBNe,Int.reduceLT,Int.reduceLE,Int.reduceNeg,Int.reduceAdd,Int.reduceSub,Int.reduceMul,Int.reduceGE,Int.reduceGT,endO] | rw [dr_cons])
 refine dcallV (.c (.v (.int .i64 5))) _ (fun E=>rfl) (fun E a w' _=>by have:=obj_Z op w';rw [ho] at this;exact this) ?_
 repeat (first | simp (maxSteps:=2000000) only [go_sem,↓reduceIte,Nat.reduceLT,Nat.reduceLeDiff,Nat.reduceAdd,Nat.reduceSub,Nat.reduceMul,Nat.reduceEqDiff,reduceCtorEq,Int.reduceToNat,Int.reduceEq,Int.reduceBEq,Int.reduceBNe,Int.reduceLT,Int.reduceLE,Int.reduceNeg,Int.reduceAdd,Int.reduceSub,Int.reduceMul,Int.reduceGE,Int.reduceGT,endO] | rw [dr_cons])
 refine dcall_intro (cr_valN (.c (.ifc 94 (.sl (12,0,0) 2 0 m.table.length none))) [12] (by simp [SV.okN,SC.okN]) (fun E a w' hs=>of_any _ _ _ _ _ 5 w')) rfl trivial trivial (fun k hk=>by cases hk) ?_
 repeat (first | simp (maxSteps:=2000000) only [go_sem,↓reduceIte,Nat.reduceLT,Nat.reduceLeDiff,Nat.reduceAdd,Nat.reduceSub,Nat.reduceMul,Nat.reduceEqDiff,reduceCtorEq,Int.reduceToNat,Int.reduceEq,Int.reduceBEq,Int.reduceBNe,Int.reduceLT,Int.reduceLE,Int.reduceNeg,Int.reduceAdd,Int.reduceSub,Int.reduceMul,Int.reduceGE,Int.reduceGT,endO] | rw [dr_cons])
 refine ⟨97,⟨by kernel_rfl,_,Try.underlying94⟩,⟨_,Try.func97,by kernel_rfl,by kernel_rfl⟩,?_⟩
 refine dcall_intro (cr_valN (.tup [(false,[.ifc 94 (.sl (12,0,0) 2 0 m.table.length none)]),(true,[.v (.int .i64 d.2.1),.v (.int .i64 d.2.2)])]) [12] (by simp [SV.okN,ok1L,SC.okL,SC.okN]) (fun E a w' hs=>hd w' _ (own_E hs eP_ok 12 rfl))) rfl trivial trivial (fun k hk=>by cases hk) ?_
 repeat (first | simp (maxSteps:=2000000) only [go_sem,↓reduceIte,Nat.reduceLT,Nat.reduceLeDiff,Nat.reduceAdd,Nat.reduceSub,Nat.reduceMul,Nat.reduceEqDiff,reduceCtorEq,Int.reduceToNat,Int.reduceEq,Int.reduceBEq,Int.reduceBNe,Int.reduceLT,Int.reduceLE,Int.reduceNeg,Int.reduceAdd,Int.reduceSub,Int.reduceMul,Int.reduceGE,Int.reduceGT,endO] | rw [dr_cons])
 refine ⟨Or.inl trivial,Or.inr trivial,99,⟨by kernel_rfl,_,Try.underlying94⟩,⟨_,Try.func99,by kernel_rfl,by kernel_rfl⟩,?_⟩
 refine call_inline (c:=ir99) (rs:=rs99) (nt:=nt99) 1000 (mkTab_ok _ _) Try.func99 rfl (by kernel_rfl) (by kernel_rfl) rfl (by simp [okVs,SV.okN,SC.okL,SC.okN]) (of_decide_eq_true rfl) (fun E0 a0 ht0=>?_)
 simp (maxSteps:=2000000) only [ir99,nt99,rs99,go_sem,↓reduceIte,Nat.reduceLT,Nat.reduceLeDiff,Nat.reduceAdd,Nat.reduceSub,Nat.reduceMul,Nat.reduceEqDiff,reduceCtorEq,Int.reduceToNat,Int.reduceEq,Int.reduceBEq,Int.reduceBNe,Int.reduceLT,Int.reduceLE,Int.reduceNeg,Int.reduceAdd,Int.reduceSub,Int.reduceMul,Int.reduceGE,Int.reduceGT,endO,mkI_rs]
 refine retI ht0 _ rfl (of_decide_eq_true rfl) (by simp [SV.okN,SC.okN,ok1L]) ?_
 simp (maxSteps:=2000000) only [go_sem,↓reduceIte,Nat.reduceLT,Nat.reduceLeDiff,Nat.reduceAdd,Nat.reduceSub,Nat.reduceMul,Nat.reduceEqDiff,reduceCtorEq,Int.reduceToNat,Int.reduceEq,Int.reduceBEq,Int.reduceBNe,Int.reduceLT,Int.reduceLE,Int.reduceNeg,Int.reduceAdd,Int.reduceSub,Int.reduceMul,Int.reduceGE,Int.reduceGT,endO]
 refine draw_vc (by kernel_rfl) (mkTab_ok _ _) (of_decide_eq_true rfl) (of_decide_eq_true rfl) ?_
 repeat (first | simp (maxSteps:=2000000) only [go_sem,↓reduceIte,Nat.reduceLT,Nat.reduceLeDiff,Nat.reduceAdd,Nat.reduceSub,Nat.reduceMul,Nat.reduceEqDiff,reduceCtorEq,Int.reduceToNat,Int.reduceEq,Int.reduceBEq,Int.reduceBNe,Int.reduceLT,Int.reduceLE,Int.reduceNeg,Int.reduceAdd,Int.reduceSub,Int.reduceMul,Int.reduceGE,Int.reduceGT,endO] | rw [dr_cons])
 refine ⟨Or.inr trivial,Or.inr trivial,?_⟩
 exact ret5 (m:=m) 8 9 10 11 12 (d3L_ren 8 9 10 11 12 m d.2.1 d.2.2 0) rfl (fun _ _=>rfl) rfl (fun _ _=>rfl) rfl (fun _ _=>rfl) rfl (fun _ _=>rfl) rfl (fun _ _=>rfl) (by decide)
end Go.Proofs.Ytgljbdcamagdbaa.Z
