/- WitnessFreshSaid: what its proof is made of. No condition. -/
import Derived.Test.YtkjeedlkkpgopaaPkWitnessFreshAL
set_option linter.unusedSimpArgs false
set_option linter.unusedVariables false
namespace Go.Proofs.Ytkjeedlkkpgopaa.Z
open Go Go.RowKit
theorem objW (op:Int) (w:World):Calls Try.prog 59 #[.int .i64 op] w (RetV w (.int .i64 (objOf op))):=(mObject op w).mono fun e w' h=>⟨h.1,h.2 ▸ Below.refl _ _⟩
def ir42:IR:=(.seq (.ops [⟨(some 1),(.box 53 (.t 0)),none⟩,⟨(some 2),(.mv (.k (.c (.v (.bool false))))),none⟩]) (.kill [0,2,3,4,5,6,7,8,9,10,11] (.seq (.ops [⟨(some 3),(.fa 1 (.t 1)),none⟩,⟨(some 4),(.ld false 1 (.t 3)),none⟩,⟨(some 5),(.call 59 [(.t 4)]),none⟩,⟨(some 6),(.bin .neq (.t 5) (.k (.c (.v (.int .i64 0))))),none⟩,⟨(some 2),(.mv (.t 6)),none⟩]) (.kill [1,3,4,5,6] .ret))))
def rs42:List RS:=[(.t 2)]
def nt42:Nat:=7
set_option maxRecDepth 100000 in
set_option maxHeartbeats 400000 in
theorem counts_calls (w:World) (c:Cl):Calls Try.prog 42 #[.agg c.enc.toArray] w (RetV w (.bool (objOf c.op != 0))):=by
 refine enter0 (A:=[]) (c:=ir42) (rs:=rs42) (nt:=nt42) [clA c] _ Try.func42 rfl (by kernel_rfl) (by kernel_rfl) rfl (fun E'=>by simp [clA,SV.den,SC.den,Cl.enc,iv]) (of_decide_eq_true rfl) ?_
 simp (maxSteps:=2000000) only [ir42,nt42,rs42,go_sem,↓reduceIte,Nat.reduceLT,Nat.reduceLeDiff,Nat.reduceAdd,Nat.reduceSub,Nat.reduceMul,Nat.reduceEqDiff,reduceCtorEq,Int.reduceToNat,Int.reduceEq,Int.reduceBEq,Int.reduceBNe,Int.reduceLT,Int.reduceLE,Int.reduceNeg,Int.reduceAdd,Int.reduceSub,Int.reduceMul,Int.reduceGE,Int.reduceGT,Cl.enc,iv,endO,clA]
 refine callV (.c (.v (.int .i64 (objOf c.op)))) _ (fun E=>rfl) (fun E a w' hs=>objW c.op w') ?_
 simp (maxSteps:=2000000) only [go_sem,↓reduceIte,Nat.reduceLT,Nat.reduceLeDiff,Nat.reduceAdd,Nat.reduceSub,Nat.reduceMul,Nat.reduceEqDiff,reduceCtorEq,Int.reduceToNat,Int.reduceEq,Int.reduceBEq,Int.reduceBNe,Int.reduceLT,Int.reduceLE,Int.reduceNeg,Int.reduceAdd,Int.reduceSub,Int.reduceMul,Int.reduceGE,Int.reduceGT,Cl.enc,iv,endO]
 exact retV fun E=>by simp [SV.den,SC.den]
theorem pt_rng {xs:List Cl} (hm:mayP xs) (hr:∀ c∈xs,c.point≤9223372036854775807) {k:Nat} (hk:k<xs.length) (hp:ptB (xs.getD k cl0)=true):0≤(xs.getD k cl0).point∧(xs.getD k cl0).point≤9223372036854775807:=by
 have h1:=hm.1.shaped k hk
 have h2:=hr _ (List.getElem_mem hk)
 have h3:xs.getD k cl0=xs[k]:=by rw [List.getD_eq_getElem?_getD,List.getElem?_eq_getElem hk];rfl
 simp only [shapedB,decide_eq_true_eq] at h1
 simp only [ptB,Bool.and_eq_true,Bool.not_eq_true',beq_eq_false_iff_ne] at hp
 have:=h1.2.1 hp.2
 rw [h3] at *
 exact ⟨by omega,h2⟩
def ir22:IR:=(.seq (.ops [⟨(some 1),(.box 22 (.t 0)),none⟩,⟨(some 2),(.mv (.k (.c (.v (.slice none 0 0))))),none⟩,⟨(some 3),(.mv (.k (.c (.v (.int .i64 0))))),none⟩]) (.kill [0,2,3,4,5,6,7,8,9,10,11] (.seq (.seq (.ops [⟨(some 7),(.ld false 1 (.t 1)),none⟩,⟨(some 8),(.call 15 [(.t 7)]),none⟩,⟨(some 9),(.un .not (.t 8)),none⟩]) (.kill [7,8] (.cond (.t 9) (.seq (.ops [⟨(some 2),(.mv (.k (.c (.v (.slice none 0 0))))),none⟩,⟨(some 3),(.mv (.k (.c (.v (.int .i64 120))))),none⟩]) (.kill [1,9] .ret)) .skip))) (.kill [2,3,9] (.seq (.ops [⟨(some 4),(.mv (.k (.c (.v (.slice none 0 0))))),none⟩]) (.seq (.seq (.ops [⟨(some 10),(.ld false 1 (.t 1)),none⟩,⟨(some 11),(.len (.t 10)),none⟩,⟨(some 12),(.mv (.k (.c (.v (.int .i64 0))))),none⟩]) (.blk 0 (.loop (.seq (.ops [⟨(some 13),(.bin .lss (.t 12) (.t 11)),none⟩]) (.kill [5,6,14,15,16,17,18,19,20,21,22,23,24,25,26,27,28] (.seq (.cond (.t 13) .skip (.exit 0)) (.kill [13] (.seq (.blk 1 (.seq (.ops [⟨(some 14),(.mv (.t 12)),none⟩,⟨(some 15),(.ia 9 (.t 10) (.t 12)),none⟩,⟨(some 16),(.ld true 9 (.t 15)),none⟩,⟨(some 6),(.new 53 [(.v (.int .i64 0)),(.v (.int .i64 0)),(.v (.int .i64 0)),(.v (.int .i64 0)),(.v (.int .i64 0)),(.v (.int .i64 0)),(.v (.int .i64 0)),(.v (.int .i64 0)),(.v (.int .i64 0))]),none⟩,⟨(some 5),(.mv (.t 14)),none⟩,⟨none,(.st 9 (.t 6) (.t 16)),none⟩]) (.kill [14,15,16] (.seq (.ops [⟨(some 17),(.ld true 9 (.t 6)),none⟩,⟨(some 18),(.call 42 [(.t 17)]),none⟩,⟨(some 19),(.mv (.t 18)),none⟩,⟨(some 20),(.fa 6 (.t 6)),(some (19,true))⟩,⟨(some 21),(.ld false 1 (.t 20)),(some (19,true))⟩,⟨(some 22),(.bin .neq (.t 21) (.k (.c (.v (.int .i64 (-1)))))),(some (19,true))⟩,⟨(some 23),(.pick (.t 19) (.t 22) (.k (.c (.v (.bool false))))),none⟩]) (.kill [6,17,18,19,20,21,22] (.cond (.t 23) (.ops [⟨(some 24),(.mv (.t 4)),none⟩,⟨(some 25),(.mv (.t 5)),none⟩,⟨(some 26),(.mkSl 3 1 1 [(.v (.int .i64 0))] [(0,(1,(.t 25)))]),none⟩,⟨(some 27),(.app 3 1 8 [(.v (.int .i64 0))] (.t 24) (.t 26)),none⟩,⟨(some 4),(.mv (.t 27)),none⟩]) .skip)))))) (.kill [5,6,14,15,16,17,18,19,20,21,22,23,24,25,26,27] (.ops [⟨(some 28),(.bin .add (.t 12) (.k (.c (.v (.int .i64 1))))),none⟩,⟨(some 12),(.mv (.t 28)),none⟩])))))))))) (.kill [5,6,10,11,12,13,14,15,16,17,18,19,20,21,22,23,24,25,26,27,28] (.seq (.ops [⟨(some 29),(.mv (.t 4)),none⟩,⟨(some 30),(.mfn (.func 44) [] [(.t 1)]),none⟩,⟨(some 31),(.call 43 [(.t 29),(.t 30)]),none⟩]) (.kill [1,29,30,31] (.seq (.ops [⟨(some 32),(.mv (.t 4)),none⟩,⟨(some 2),(.mv (.t 32)),none⟩,⟨(some 3),(.mv (.k (.c (.v (.int .i64 0))))),none⟩]) (.kill [4,32] .ret)))))))))))
def rs22:List RS:=[(.t 2),(.t 3)]
def nt22:Nat:=33
noncomputable def ptsV (xs:List Cl):List Int:=if mayQ xs=true then ptsL xs else []
set_option maxRecDepth 100000 in
set_option maxHeartbeats 400000 in
theorem points_calls (w:World) (v:Value) (xs:List Cl) (hsz:xs.length * 72≤140737488355328) (hr:∀ c∈xs,c.point≤9223372036854775807) (h:Arr w Cl.enc 9 v xs):Calls Try.prog 22 #[v] w (RetN w 1 (leT 1 (ptsV xs).length (if mayQ xs=true then 0 else 120)) (lsO 3 1 eI (ptsV xs) 0)):=by
 refine enter1 (A:=[]) (c:=ir22) (rs:=rs22) (nt:=nt22) cl0 cl_ok h [.c (.xv (0,0,0))] _ Try.func22 rfl (by kernel_rfl) (by kernel_rfl) rfl (fun E' h0=>by simp [SV.den,SC.den,h0]) (of_decide_eq_true rfl) ?_
 simp (maxSteps:=2000000) only [ir22,nt22,rs22,go_sem,↓reduceIte,Nat.reduceLT,Nat.reduceLeDiff,Nat.reduceAdd,Nat.reduceSub,Nat.reduceMul,Nat.reduceEqDiff,reduceCtorEq,Int.reduceToNat,Int.reduceEq,Int.reduceBEq,Int.reduceBNe,Int.reduceLT,Int.reduceLE,Int.reduceNeg,Int.reduceAdd,Int.reduceSub,Int.reduceMul,Int.reduceGE,Int.reduceGT,Cl.enc,iv,endO]
 refine callV (.c (.bo (mayQ xs))) _ (fun E=>rfl) (fun E a w' hs=>mayW w' _ xs (arr_at (d:=cl0) hs 0 rfl)) ?_
 simp (maxSteps:=2000000) only [go_sem,↓reduceIte,Nat.reduceLT,Nat.reduceLeDiff,Nat.reduceAdd,Nat.reduceSub,Nat.reduceMul,Nat.reduceEqDiff,reduceCtorEq,Int.reduceToNat,Int.reduceEq,Int.reduceBEq,Int.reduceBNe,Int.reduceLT,Int.reduceLE,Int.reduceNeg,Int.reduceAdd,Int.reduceSub,Int.reduceMul,Int.reduceGE,Int.reduceGT,Cl.enc,iv,endO]
 refine both (fun hm=>?_) (fun hm=>?_)
 ·rw [Bool.not_eq_true'] at hm
  have e1:ptsV xs=[]:=by simp [ptsV,hm]
  rw [e1]
  simp only [hm,Bool.false_eq_true,if_false]
  exact retNE
 ·rw [Bool.not_eq_false'] at hm
  have e1:ptsV xs=ptsL xs:=by simp [ptsV,hm]
  rw [e1]
  simp only [hm,if_true]
  refine loopI (ι:={ i:Nat // i≤xs.length }) (fun i=>⟨33,[(1,.c (.ptr (1,0,0) 0)),(4,.c (.sl (2,0,0) 1 0 (pks xs i.1).length none)),(10,.c (.xv (0,0,0))),(11,.c (.v (.int .i64 (xs.length:Nat)))),(12,.c (.v (.int .i64 (i.1:Nat))))],
   [(1,.one (.bk [.xv (0,0,0)] 22)),(2,.one (.ar (pks xs i.1).length 1 (ats eI (pks xs i.1) 0) 3))],[(0,.one (arrOf Cl.enc 9 xs cl0))],[],3⟩)
   (fun i=>xs.length - i.1) ⟨0,by omega⟩ ?_ ?_
  ·refine le_tr (le_nilown (tmps':=[(1,.c (.ptr (1,0,0) 0)),(4,.c (.sl (2,0,0) 1 0 0 none)),(10,.c (.xv (0,0,0))),(11,.c (.v (.int .i64 xs.length))),(12,.c (.v (.int .i64 0)))]) 1 3 (ats eI [] 0) (by simp [TmpsNil,look]) rfl) ?_
   exact (le_ren id rfl rfl (by simp [TmpsLe,look,SV.ren,SC.ren,idσ,SV.okN,SC.okN,pks]) (by simp [OwnLe,BlkLeO,BlkLe,atN,look,Fm.get,idσ,SC.renL,SC.ren,SC.okL,SC.okN,pks]) (by simp [ArrsLe,ArrLeO,atN,look,Fm.get,idσ,arrLe_of,arrLe_0]) rfl)
  rintro ⟨i,hi⟩
  simp (maxSteps:=2000000) only [go_sem,↓reduceIte,Nat.reduceLT,Nat.reduceLeDiff,Nat.reduceAdd,Nat.reduceSub,Nat.reduceMul,Nat.reduceEqDiff,reduceCtorEq,Int.reduceToNat,Int.reduceEq,Int.reduceBEq,Int.reduceBNe,Int.reduceLT,Int.reduceLE,Int.reduceNeg,Int.reduceAdd,Int.reduceSub,Int.reduceMul,Int.reduceGE,Int.reduceGT,Cl.enc,iv,endO]
  refine both (fun hlt=>?_) (fun hge=>?_)
  ·rw [decide_eq_true_eq] at hlt
   have hlt:i<xs.length:=by omega
   have hpl:=pks_len xs i
   repeat (with_reducible refine And.intro (by first | (simp only [maxLen];omega) | omega | decide | (simp;done) | (simp [maxLen];omega)) ?_)
   generalize hci:xs.getD i cl0=ci
   refine callV (.c (.bo (objOf ci.op != 0))) _ (fun E=>rfl) (fun E a w' _=>counts_calls w' ci) ?_
   simp (maxSteps:=2000000) only [go_sem,↓reduceIte,Nat.reduceLT,Nat.reduceLeDiff,Nat.reduceAdd,Nat.reduceSub,Nat.reduceMul,Nat.reduceEqDiff,reduceCtorEq,Int.reduceToNat,Int.reduceEq,Int.reduceBEq,Int.reduceBNe,Int.reduceLT,Int.reduceLE,Int.reduceNeg,Int.reduceAdd,Int.reduceSub,Int.reduceMul,Int.reduceGE,Int.reduceGT,Cl.enc,iv,endO]
   rw [wr_succ (by omega)]
   refine both (fun hb=>?_) (fun hb=>?_)
   ·have hp:pks xs (i+1)=pks xs i++[(i:Int)]:=by
     simp only [pks]
     rw [if_pos (by rw [hci];simp only [ptB,b_decR,b_decL,bt_ite,bf_ite,bt_dec,bf_dec,bt_int,bf_int,bt_nint,bf_nint,bt_bool,bf_bool,bt_nbool,bf_nbool,bt_not,bf_not,bt_and,bf_and,bt_or,bf_or,Bool.false_eq_true,Bool.true_eq_false,Bool.not_eq_true,Bool.not_eq_false,reduceCtorEq,false_iff,true_iff,iff_false,iff_true,and_true,true_and,and_false,false_and,or_true,true_or,or_false,false_or,not_true_eq_false,not_false_eq_true,ne_eq] at hb ⊢;omega)]
    repeat (with_reducible refine And.intro (by first | (simp only [maxLen];omega) | omega | decide | (simp;done) | (simp [maxLen];omega)) ?_)
    refine backI ⟨i+1,by omega⟩ (by simp only;omega) (le_ren (fun k=>if k=2 then 5 else k) rfl rfl (by simp [TmpsLe,look,SV.ren,SC.ren,SC.renL,idσ,SV.okN,SC.okN,hp]) ⟨⟨of_decide_eq_true rfl,(by simp [BlkLeO,atN,look,Fm.get,idσ,BlkLe,SC.renL,SC.ren,SC.okL,SC.okN])⟩,⟨of_decide_eq_true rfl,arLe_of (by simp [hp]) (ats_push hp rfl (fun e he=>rfl) rfl)⟩,trivial⟩ (by simp [ArrsLe,ArrLeO,atN,look,Fm.get,idσ,arrLe_of,arrLe_0]) rfl)
   ·have hp:pks xs (i+1)=pks xs i:=by
     simp only [pks]
     rw [if_neg (by rw [hci];simp only [ptB,b_decR,b_decL,bt_ite,bf_ite,bt_dec,bf_dec,bt_int,bf_int,bt_nint,bf_nint,bt_bool,bf_bool,bt_nbool,bf_nbool,bt_not,bf_not,bt_and,bf_and,bt_or,bf_or,Bool.false_eq_true,Bool.true_eq_false,Bool.not_eq_true,Bool.not_eq_false,reduceCtorEq,false_iff,true_iff,iff_false,iff_true,and_true,true_and,and_false,false_and,or_true,true_or,or_false,false_or,not_true_eq_false,not_false_eq_true,ne_eq] at hb ⊢;omega)]
    refine backI ⟨i+1,by omega⟩ (by simp only;omega) (le_ren id rfl rfl (by simp [TmpsLe,look,SV.ren,SC.ren,SC.renL,idσ,SV.okN,SC.okN,hp]) ⟨⟨of_decide_eq_true rfl,(by simp [BlkLeO,atN,look,Fm.get,idσ,BlkLe,SC.renL,SC.ren,SC.okL,SC.okN])⟩,⟨of_decide_eq_true rfl,arLe_of (by simp [hp]) (fun e he=>by rw [hp])⟩,trivial⟩ (by simp [ArrsLe,ArrLeO,atN,look,Fm.get,idσ,arrLe_of,arrLe_0]) rfl)
  ·rw [decide_eq_false_iff_not] at hge
   have hin:i=xs.length:=by omega
   subst hin
   have hpl:=pks_len xs xs.length
   refine call_intro (f:=43) (cr_sort (ρ:=sortPts_ren) (C:=mkC Try.prog [] w rs22 (RetN w 1 (leT 1 (ptsL xs).length 0) (lsO 3 1 eI (ptsL xs) 0))) (i:=2) (ty:=3) (g:=44) (cap:=none) (cl:=[.ptr (1,0,0) 0]) (zs:=ptsL xs) sortPts (Kp xs) rfl (by omega) (enters_of Try.func44 (by kernel_rfl) rfl) (fun l hp hs=>ptsL_uniq (mayQ_iff.1 hm) hp hs) (fun E a w' hs W hW x hx y hy=>?_)) (fun k hk=>by rw [List.mem_singleton] at hk;subst hk;exact Nat.lt_succ_self 2) ?_
   ·obtain ⟨H,hH,hF⟩:=hs.mem
    have hat1:atN ([(1,.one (.bk [.xv (0,0,0)] 22)),(2,.one (.ar (pks xs xs.length).length 1 (ats eI (pks xs xs.length) 0) 3))]:Own) (1,0,0)=some (.bk [.xv (0,0,0)] 22):=rfl
    have hat2:atN ([(1,.one (.bk [.xv (0,0,0)] 22)),(2,.one (.ar (pks xs xs.length).length 1 (ats eI (pks xs xs.length) 0) 3))]:Own) (2,0,0)=some (.ar (pks xs xs.length).length 1 (ats eI (pks xs xs.length) 0) 3):=rfl
    have d1:=hH.den _ _ hat1
    have d2:=hH.den _ _ hat2
    have hpos:0<(pks xs xs.length).length:=List.length_pos_of_mem hx
    simp only [Blk.den] at d1 d2
    rcases d2 with ⟨_,_,h0,_⟩ | ⟨_,_,_,cells,d2,_⟩
    ·omega
    have hne:E.ρ (1,0,0)≠E.ρ (2,0,0):=fun e=>by
     have:=hH.disj _ _ _ _ hat1 hat2 (by decide) (E.ρ (1,0,0))
     rw [d1,d2,← e] at this
     simp [sing] at this
    have hold:=hF W fun n hn hfr=>hW n hn fun e=>by
     have:=hfr _ _ hat2
     rw [d2,e] at this
     simp [sing] at this
    obtain ⟨ba,cap,g1,g2,g3,g4⟩:=arr_of (hold.1 (0,0,0) _ rfl)
    obtain ⟨k,hk,rfl,hkb⟩:=mem_pks.1 hx
    obtain ⟨l,hl,rfl,hlb⟩:=mem_pks.1 hy
    rcases g4 with g4 | ⟨blk,off,rfl,g4⟩
    ·rw [g4] at hk;simp at hk
    obtain ⟨c1,_⟩:=hH.sub _ _ hat1 (E.ρ (1,0,0)) _ (by rw [d1];simp [sing];rfl)
    have hlt:E.ρ (1,0,0)<w'.heap.size:=(Array.getElem?_eq_some_iff.1 c1).1
    have k1:=g4 k (xs.getD k cl0) (by rw [List.getD_eq_getElem?_getD,List.getElem?_eq_getElem hk];rfl) 6 (iv (xs.getD k cl0).point) rfl
    have k2:=g4 l (xs.getD l cl0) (by rw [List.getD_eq_getElem?_getD,List.getElem?_eq_getElem hl];rfl) 6 (iv (xs.getD l cl0).point) rfl
    have hcl:=closure0 W (E.ρ (1,0,0)) blk off xs.length cap (k:Int) (l:Int) (xs.getD k cl0).point (xs.getD l cl0).point (by
     unfold World.cell?
     simp only [hW _ hlt hne,c1,List.map_cons,List.map_nil,SC.den,g1]
     rfl) (by omega) (by omega) k1 k2
    have b1:=pt_rng (mayQ_iff.1 hm) hr hk hkb
    have b2:=pt_rng (mayQ_iff.1 hm) hr hl hlb
    rw [wr64 (by omega) (by omega)] at hcl
    simp only [Kp,Int.toNat_natCast,SC.denL,SC.den]
    exact hcl
   ·simp (maxSteps:=2000000) only [go_sem,↓reduceIte,Nat.reduceLT,Nat.reduceLeDiff,Nat.reduceAdd,Nat.reduceSub,Nat.reduceMul,Nat.reduceEqDiff,reduceCtorEq,Int.reduceToNat,Int.reduceEq,Int.reduceBEq,Int.reduceBNe,Int.reduceLT,Int.reduceLE,Int.reduceNeg,Int.reduceAdd,Int.reduceSub,Int.reduceMul,Int.reduceGE,Int.reduceGT,Cl.enc,iv,endO]
    have:=(ptsL_perm xs).length_eq
    exact retLE 2 _ _ rfl (by omega) (by omega) (fun e he=>rfl)
structure PtI (xs:List Cl) where
 i:Nat
 L:List Int
 hi:i≤xs.length
 perm:L.Perm (pks xs i)
 srt:ptSorted xs L
theorem PtI.len {xs:List Cl} (p:PtI xs):p.L.length≤p.i:=by rw [p.perm.length_eq];exact pks_len _ _
theorem PtI.at_ {xs:List Cl} (p:PtI xs) {j:Nat} (h:j<p.L.length):∃ k:Nat,k<p.i∧p.L.getD j 0=k:=by
 have:p.L.getD j 0∈p.L:=by rw [List.getD_eq_getElem?_getD,List.getElem?_eq_getElem h];exact List.getElem_mem h
 obtain ⟨k,h1,h2,_⟩:=mem_pks.1 (p.perm.mem_iff.1 this)
 exact ⟨k,h1,h2⟩
end Go.Proofs.Ytkjeedlkkpgopaa.Z
namespace Go.Proofs.Ytkjeedlkkpgopaa.Z
open Go Go.RowKit
theorem enterC {P:Program} {A:List Nat} {f nt:Nat} {fn:Func} {x:Code} {c:IR} {w:World} {rs:List RS} {R:Ending→World→Prop} {v:Value} {m:MC} (h:Cont w v m) (sc:List SV) (args:Array Value)
  (hf:P.funcs[f]? = some fn) (hb:fn.body=some x) (hc:compC (mkTab P A) x=some c.strip) (hr:compR (mkTab P A).T fn.results.toList=some rs) (hn:fn.ntmps=nt)
  (hargs:∀ E' : Env,(SV.agg (mcS 0)).den E' = v→(sc.map (SV.den E')).toArray=args) (hnt:sc.length≤nt)
  (hex:exec (mkC P A w rs R) 1000 [.code c] ⟨nt,enumT 0 sc,[],mcA 0 m,[],5⟩):Calls P f args w R:=by
 obtain ⟨v0,v1,v2,v3,v4,rfl,h0,h1,h2,h3,h4⟩:=h
 have hone:OneC ⟨fun _=>0,fun _=>0,fun _=>false,fun x=>fiv v0 v1 v2 v3 v4 x.1⟩:=fun x=>by
  simp only [fiv]
  split
  ·exact arr_one h0
  ·exact arr_one h1
  ·exact arr_one h2
  ·exact arr_one h3
  ·exact arr_one h4
 refine calls_sym (c:=c) (C:=mkC P A w rs R) 1000 sc ⟨fun _=>0,fun _=>0,fun _=>false,fun x=>fiv v0 v1 v2 v3 v4 x.1⟩ [] _ [] 5 nt args (mkTab_ok _ _) hf hb hc hr hn rfl rfl hone (fun E' hE'=>hargs E' ?_) hnt (fun E' hE'=>inOk_arrs fun w' hw' x A hA=>?_) hex
 all_goals have e0:E'.χ (0,0,0)=v0:=(hE' (0,0,0) (by decide)).2.2.2
 all_goals have e1:E'.χ (1,0,0)=v1:=(hE' (1,0,0) (by decide)).2.2.2
 all_goals have e2:E'.χ (2,0,0)=v2:=(hE' (2,0,0) (by decide)).2.2.2
 all_goals have e3:E'.χ (3,0,0)=v3:=(hE' (3,0,0) (by decide)).2.2.2
 all_goals have e4:E'.χ (4,0,0)=v4:=(hE' (4,0,0) (by decide)).2.2.2
 ·simp [mcS,SV.den,SC.den,e0,e1,e2,e3,e4]
 ·rcases atN_one hA with ⟨rfl,rfl⟩ | hA
  ·exact arr1 eI_ok e0 h0 hw'
  rcases atN_one hA with ⟨rfl,rfl⟩ | hA
  ·exact arr1 eI_ok e1 h1 hw'
  rcases atN_one hA with ⟨rfl,rfl⟩ | hA
  ·exact arr1 eI_ok e2 h2 hw'
  rcases atN_one hA with ⟨rfl,rfl⟩ | hA
  ·exact arr1 eI_ok e3 h3 hw'
  rcases atN_one hA with ⟨rfl,rfl⟩ | hA
  ·exact arr1 eP_ok e4 h4 hw'
  exact (atN_nil hA).elim
def MC.okR (m:MC):Prop:=m.ok 1∧(m.stack.length+1) * 8≤140737488355328
end Go.Proofs.Ytkjeedlkkpgopaa.Z
namespace Go.Proofs.Ytkjeedlkkpgopaa.Z
open Go Go.RowKit
def fullB (op:Int):Bool:=decide (op=22∨op=30∨op=40∨op=50∨op=60)
def allowM (m:MC) (c:Cl):MC×Bool :=
 if c.kind=0 then ((doM m c.op c.arg c.data).1,true) else if c.kind=4 then (if fullB c.op=true then (m,true) else (mc0,false)) else
  if c.kind=(doM m c.op c.arg c.data).2.1∧c.val=(doM m c.op c.arg c.data).2.2 then ((doM m c.op c.arg c.data).1,true) else (mc0,false)
theorem rdN_nw {C:Ctx} {S:St} {α:Type} {enc:α→List Value} {s:Nat} {xs:List α} {d:α} {L:List (Nat×Fm ArrF)} (i:Nat) (hf:NwL C.B L∈S.facts) (hi:atN L (i,0,0)=some (arrOf enc s xs d)):RdN C S (.xv (i,0,0)) (arrOf enc s xs d):=fun E a w' hs=>by
 have hn:=(holds_of hs.sat).2 _ hf
 have tr:∀ {w'' : World} {E2:Env} {x:Nm},E2.χ x=E.χ (i,0,0)→ArrAt E w'' (i,0,0) (arrOf enc s xs d)→ArrAt E2 w'' x (arrOf enc s xs d):=fun {w'' E2 x} hx h=>by
  obtain ⟨ba,cap,h1,h2,h3,h4⟩:=h
  refine ⟨ba,cap,hx.trans h1,h2,h3,?_⟩
  rcases h4 with h4 | ⟨b,off,h5,h7,h6⟩
  ·exact Or.inl h4
  ·refine Or.inr ⟨b,off,h5,h7,fun k hk=>⟨(h6 k hk).1,fun j u hu=>?_⟩⟩
   have:=(h6 k hk).2 j u hu
   simp only [arrOf,List.getElem?_map,Option.map_eq_some_iff] at hu
   obtain ⟨u',_,rfl⟩:=hu
   rw [den_v] at this ⊢
   exact this
 refine ⟨?_,fun w'' hw'' E2 x hx=>tr (by rw [hx,den_xv]) (hn w'' hw'' _ _ hi)⟩
 obtain ⟨ba,cap,h1,_⟩:=hn w' (fun _ _ _=>rfl) _ _ hi
 rw [den_xv,h1]
 rfl
def alT (p:MC×Bool) (b:Nat):SV:=.tup [(true,mcS b),(false,[.bo p.2]),(false,[.v (.int .i64 0)])]
theorem alT_ok (c0 c1 c2 c3 c4 x:SC) (p:MC×Bool) (hx:∀ E,x.den E = .bool p.2):∀ b (E E2:Env),E2.χ (b,0,0)=c0.den E→E2.χ (b+1,0,0)=c1.den E→E2.χ (b+2,0,0)=c2.den E→E2.χ (b+3,0,0)=c3.den E→E2.χ (b+4,0,0)=c4.den E →
  (SV.tup [(true,[c0,c1,c2,c3,c4]),(false,[x]),(false,[.v (.int .i64 0)])]).den E=(alT p b).den E2:=fun b E E2 e0 e1 e2 e3 e4=>by
 simp [alT,mcS,SV.den,den1,SC.den,e0,e1,e2,e3,e4,hx]
def ir68:IR:=(.seq (.ops [⟨(some 2),(.box 70 (.t 0)),none⟩,⟨(some 3),(.box 53 (.t 1)),none⟩,⟨(some 4),(.new 70 [(.v (.slice none 0 0)),(.v (.slice none 0 0)),(.v (.slice none 0 0)),(.v (.slice none 0 0)),(.v (.slice none 0 0))]),none⟩,⟨(some 5),(.mv (.k (.c (.v (.bool false))))),none⟩,⟨(some 6),(.mv (.k (.c (.v (.int .i64 0))))),none⟩]) (.kill [0,1,5,6,7,8,9,10,11] (.seq (.ops [⟨(some 11),(.ld true 5 (.t 2)),none⟩,⟨(some 12),(.fa 1 (.t 3)),none⟩,⟨(some 13),(.ld false 1 (.t 12)),none⟩,⟨(some 14),(.fa 2 (.t 3)),none⟩,⟨(some 15),(.ld false 1 (.t 14)),none⟩,⟨(some 16),(.fa 3 (.t 3)),none⟩,⟨(some 17),(.ld false 1 (.t 16)),none⟩,⟨(some 18),(.call 86 [(.t 11),(.t 13),(.t 15),(.t 17)]),none⟩,⟨(some 10),(.mv (.t 18)),none⟩,⟨(some 19),(.ext 0 (.t 10)),none⟩,⟨(some 20),(.ext 1 (.t 10)),none⟩,⟨(some 21),(.ext 2 (.t 10)),none⟩,⟨(some 7),(.new 70 [(.v (.slice none 0 0)),(.v (.slice none 0 0)),(.v (.slice none 0 0)),(.v (.slice none 0 0)),(.v (.slice none 0 0))]),none⟩,⟨(some 8),(.new 51 [(.v (.int .i64 0)),(.v (.int .i64 0))]),none⟩,⟨none,(.st 5 (.t 7) (.t 19)),none⟩,⟨none,(.st 2 (.t 8) (.t 20)),none⟩,⟨(some 9),(.mv (.t 21)),none⟩]) (.kill [10,11,12,13,14,15,16,17,18,19,20,21] (.seq (.seq (.ops [⟨(some 22),(.mv (.t 9)),none⟩,⟨(some 23),(.bin .neq (.t 22) (.k (.c (.v (.int .i64 0))))),none⟩]) (.kill [22] (.cond (.t 23) (.seq (.ops [⟨(some 24),(.build [(.v (.slice none 0 0)),(.v (.slice none 0 0)),(.v (.slice none 0 0)),(.v (.slice none 0 0)),(.v (.slice none 0 0))] []),none⟩,⟨(some 25),(.mv (.t 9)),none⟩,⟨none,(.st 5 (.t 4) (.t 24)),none⟩,⟨(some 5),(.mv (.k (.c (.v (.bool false))))),none⟩,⟨(some 6),(.mv (.t 25)),none⟩]) (.kill [2,3,7,8,9,23,24,25] .ret)) .skip))) (.kill [5,6,9,23] (.seq (.blk 0 (.seq (.ops [⟨(some 27),(.fa 7 (.t 3)),none⟩,⟨(some 28),(.fa 0 (.t 27)),none⟩,⟨(some 29),(.ld false 1 (.t 28)),none⟩,⟨(some 30),(.bin .eql (.t 29) (.k (.c (.v (.int .i64 0))))),none⟩,⟨(some 26),(.mv (.t 30)),none⟩]) (.kill [27,28,29,30] (.cond (.t 26) (.seq (.ops [⟨(some 31),(.ld true 5 (.t 7)),none⟩,⟨none,(.st 5 (.t 4) (.t 31)),none⟩,⟨(some 5),(.mv (.k (.c (.v (.bool true))))),none⟩,⟨(some 6),(.mv (.k (.c (.v (.int .i64 0))))),none⟩]) (.kill [2,3,7,8,26,31] .ret)) (.seq (.ops [⟨(some 33),(.fa 7 (.t 3)),none⟩,⟨(some 34),(.fa 0 (.t 33)),none⟩,⟨(some 35),(.ld false 1 (.t 34)),none⟩,⟨(some 36),(.bin .eql (.t 35) (.k (.c (.v (.int .i64 4))))),none⟩,⟨(some 32),(.mv (.t 36)),none⟩]) (.kill [26,33,34,35,36] (.cond (.t 32) (.seq (.seq (.draw [(⟨(some 37),(.ld true 5 (.t 2)),none⟩,([],[38,39,40,42,43])),(⟨(some 38),(.fa 1 (.t 3)),none⟩,([0],[37,42,43])),(⟨(some 39),(.ld false 1 (.t 38)),none⟩,([0],[37,42,43])),(⟨(some 40),(.call 59 [(.t 39)]),none⟩,([0],[37,42,43])),(⟨(some 41),(.call 88 [(.t 37),(.t 40)]),none⟩,([],[42,43])),(⟨(some 42),(.fa 1 (.t 3)),none⟩,([0,1,2,3,4],[37,38,39,40,41])),(⟨(some 43),(.ld false 1 (.t 42)),none⟩,([0,1,2,3,4],[37,38,39,40,41])),(⟨(some 44),(.call 87 [(.t 41),(.t 43)]),none⟩,([],[]))]) (.kill [3,7,8,32,37,38,39,40,41,42,43] (.cond (.t 44) (.seq (.ops [⟨(some 45),(.ld true 5 (.t 2)),none⟩,⟨(some 46),(.call 89 [(.t 45)]),none⟩,⟨none,(.st 5 (.t 4) (.t 46)),none⟩,⟨(some 5),(.mv (.k (.c (.v (.bool true))))),none⟩,⟨(some 6),(.mv (.k (.c (.v (.int .i64 0))))),none⟩]) (.kill [2,44,45,46] .ret)) .skip))) (.kill [2,5,6,44] (.seq (.ops [⟨(some 47),(.build [(.v (.slice none 0 0)),(.v (.slice none 0 0)),(.v (.slice none 0 0)),(.v (.slice none 0 0)),(.v (.slice none 0 0))] []),none⟩,⟨none,(.st 5 (.t 4) (.t 47)),none⟩,⟨(some 5),(.mv (.k (.c (.v (.bool false))))),none⟩,⟨(some 6),(.mv (.k (.c (.v (.int .i64 0))))),none⟩]) (.kill [47] .ret)))) (.seq (.ops [⟨(some 49),(.fa 7 (.t 3)),none⟩,⟨(some 50),(.ld true 2 (.t 49)),none⟩,⟨(some 51),(.ld true 2 (.t 8)),none⟩,⟨(some 52),(.eqa false [true,true] (.t 50) (.t 51)),none⟩,⟨(some 48),(.mv (.t 52)),none⟩]) (.kill [2,3,8,32,49,50,51,52] (.cond (.t 48) (.seq (.ops [⟨(some 53),(.ld true 5 (.t 7)),none⟩,⟨none,(.st 5 (.t 4) (.t 53)),none⟩,⟨(some 5),(.mv (.k (.c (.v (.bool true))))),none⟩,⟨(some 6),(.mv (.k (.c (.v (.int .i64 0))))),none⟩]) (.kill [7,48,53] .ret)) .skip)))))))))) (.kill [2,3,5,6,7,8,26,27,28,29,30,31,32,33,34,35,36,37,38,39,40,41,42,43,44,45,46,47,48,49,50,51,52,53] (.seq (.ops [⟨(some 54),(.build [(.v (.slice none 0 0)),(.v (.slice none 0 0)),(.v (.slice none 0 0)),(.v (.slice none 0 0)),(.v (.slice none 0 0))] []),none⟩,⟨none,(.st 5 (.t 4) (.t 54)),none⟩,⟨(some 5),(.mv (.k (.c (.v (.bool false))))),none⟩,⟨(some 6),(.mv (.k (.c (.v (.int .i64 0))))),none⟩]) (.kill [54] .ret))))))))))
def rs68:List RS:=[(.cell 4 true 5),(.t 5),(.t 6)]
def nt68:Nat:=55
theorem mcR_id (m:MC) (b:Nat):∀ x A',atN (mcR m b) x=some A'→NewIds b 5 x.1:=fun x A' hx=>by
 simp only [mcR,mcA] at hx
 rcases atN_one hx with ⟨rfl,_⟩ | hx
 ·exact ⟨by simp,by simp⟩
 rcases atN_one hx with ⟨rfl,_⟩ | hx
 ·exact ⟨by simp,by simp⟩
 rcases atN_one hx with ⟨rfl,_⟩ | hx
 ·exact ⟨by simp,by simp⟩
 rcases atN_one hx with ⟨rfl,_⟩ | hx
 ·exact ⟨by simp,by simp⟩
 rcases atN_one hx with ⟨rfl,_⟩ | hx
 ·exact ⟨by simp,by simp⟩
 exact (atN_nil hx).elim
theorem full1 {op:Int} (h:objOf op=1):fullB op=(op == 22):=by
 unfold fullB;unfold objOf at h;repeat' split at h
 all_goals first | omega | (rw [Bool.eq_iff_iff];simp;omega)
theorem full2 {op:Int} (h:objOf op=2):fullB op=(op == 30):=by
 unfold fullB;unfold objOf at h;repeat' split at h
 all_goals first | omega | (rw [Bool.eq_iff_iff];simp;omega)
theorem full3 {op:Int} (h:objOf op=3):fullB op=(op == 40):=by
 unfold fullB;unfold objOf at h;repeat' split at h
 all_goals first | omega | (rw [Bool.eq_iff_iff];simp;omega)
theorem full4 {op:Int} (h:objOf op=4):fullB op=(op == 50 || op == 60):=by
 unfold fullB;unfold objOf at h;repeat' split at h
 all_goals first | omega | (rw [Bool.eq_iff_iff];simp;omega)
theorem full5 {op:Int} (h:objOf op=5):fullB op=(op == 50 || op == 60):=by
 unfold fullB;unfold objOf at h;repeat' split at h
 all_goals first | omega | (rw [Bool.eq_iff_iff];simp;omega)
theorem mcopy_Z {v:Value} {m:MC} {w:World} (h:Cont w v m) (hok:m.ok 0):Calls Try.prog 89 #[v] w (RetB w (fun _=>True) 5 cT (mcR m)):=by
 obtain ⟨x0,x1,x2,x3,x4,rfl,g0,g1,g2,g3,g4⟩:=h
 refine (mCopied (m:=m) ⟨_,_,_,_,_,rfl,g0,g1,g2,g3,g4⟩ hok).mono ?_
 rintro e w' ⟨v',rfl,hown,hb⟩
 refine ⟨_,rfl,hb,fun b=>?_⟩
 obtain ⟨N,h1,h2⟩:=retB_D hown b
 refine ⟨N,h1,fun E2 hE=>?_⟩
 obtain ⟨h3,h4⟩:=h2 E2 hE
 exact ⟨h3,fun w'' _ hw''=>h4 w'' hw''⟩
set_option maxRecDepth 100000 in
set_option maxHeartbeats 400000 in
theorem al_Z {w:World} {v:Value} {m:MC} (c:Cl) (h:Cont w v m) (hok:MC.okR m) (hm:mayB m=true) (ho:objOf c.op≠0):Calls Try.prog 68 #[v,.agg c.enc.toArray] w (RetB w (fun _=>True) 5 (alT (allowM m c)) (mcR (allowM m c).1)):=by
 refine enterC (A:=[]) (c:=ir68) (rs:=rs68) (nt:=nt68) h [.agg (mcS 0),.agg c.sc] _ Try.func68 rfl (by kernel_rfl) (by kernel_rfl) rfl (fun E' h0=>by rw [List.map_cons,h0];simp [SV.den,SC.den,Cl.sc,Cl.enc]) (of_decide_eq_true rfl) ?_
 simp (maxSteps:=2000000) only [ir68,nt68,rs68,go_sem,↓reduceIte,Nat.reduceLT,Nat.reduceLeDiff,Nat.reduceAdd,Nat.reduceSub,Nat.reduceMul,Nat.reduceEqDiff,reduceCtorEq,Int.reduceToNat,Int.reduceEq,Int.reduceBEq,Int.reduceBNe,Int.reduceLT,Int.reduceLE,Int.reduceNeg,Int.reduceAdd,Int.reduceSub,Int.reduceMul,Int.reduceGE,Int.reduceGT,endO,mcS,mcA,Cl.sc,iv]
 refine callF 5 (d3T (doM m c.op c.arg c.data) 0) (mcR (doM m c.op c.arg c.data).1) (fun x A' hx=>?_) (fun E a w' hs=>do_Z c.op c.arg c.data (cont_at hs 0 rfl rfl rfl rfl rfl) hok.1 hm ho) ?_
 ·exact mcR_id _ _ x A' hx
 simp (maxSteps:=2000000) only [go_sem,↓reduceIte,Nat.reduceLT,Nat.reduceLeDiff,Nat.reduceAdd,Nat.reduceSub,Nat.reduceMul,Nat.reduceEqDiff,reduceCtorEq,Int.reduceToNat,Int.reduceEq,Int.reduceBEq,Int.reduceBNe,Int.reduceLT,Int.reduceLE,Int.reduceNeg,Int.reduceAdd,Int.reduceSub,Int.reduceMul,Int.reduceGE,Int.reduceGT,endO,d3T,mcS,mcR,mcA]
 have hB:(mkC Try.prog [] w rs68 (RetB w (fun _=>True) 5 (alT (allowM m c)) (mcR (allowM m c).1))).B=w.heap.size:=rfl
 refine both (fun hk=>?_) (fun hk=>?_)
 ·have hk:c.kind=0:=by simpa using hk
  have hd:allowM m c=((doM m c.op c.arg c.data).1,true):=by simp [allowM,hk]
  rw [hd]
  exact retB5 _ _ _ _ _ (rdN_nw 8 List.mem_cons_self rfl) (rdN_nw 9 List.mem_cons_self rfl) (rdN_nw 10 List.mem_cons_self rfl) (rdN_nw 11 List.mem_cons_self rfl) (rdN_nw 12 List.mem_cons_self rfl) (alT_ok _ _ _ _ _ _ _ fun E=>by rw [den_v])
 have hk:c.kind≠0:=by simpa using hk
 refine both (fun h4=>?_) (fun h4=>?_)
 ·have h4:c.kind=4:=by simpa using h4
  have hd:allowM m c=if fullB c.op=true then (m,true) else (mc0,false):=by simp [allowM,h4]
  rw [hd]
  by_cases h1:objOf c.op=1
  ·skip
   refine draw_vc (by kernel_rfl) (mkTab_ok _ _) (of_decide_eq_true rfl) (of_decide_eq_true rfl) ?_
   repeat (first | simp (maxSteps:=2000000) only [go_sem,↓reduceIte,Nat.reduceLT,Nat.reduceLeDiff,Nat.reduceAdd,Nat.reduceSub,Nat.reduceMul,Nat.reduceEqDiff,reduceCtorEq,Int.reduceToNat,Int.reduceEq,Int.reduceBEq,Int.reduceBNe,Int.reduceLT,Int.reduceLE,Int.reduceNeg,Int.reduceAdd,Int.reduceSub,Int.reduceMul,Int.reduceGE,Int.reduceGT,endO] | rw [dr_cons])
   repeat (with_reducible refine And.intro (by first | (simp only [maxLen];omega) | omega | decide | (simp;done) | (simp [maxLen];omega)) ?_)
   refine dcallV (.c (.v (.int .i64 (objOf c.op)))) _ (fun E=>rfl) (fun E a w' _=>by
    refine (mObject c.op w').mono ?_
    rintro e w'' ⟨rfl,rfl⟩
    exact ⟨rfl,Below.refl _ _⟩) ?_
   repeat (first | simp (maxSteps:=2000000) only [go_sem,↓reduceIte,Nat.reduceLT,Nat.reduceLeDiff,Nat.reduceAdd,Nat.reduceSub,Nat.reduceMul,Nat.reduceEqDiff,reduceCtorEq,Int.reduceToNat,Int.reduceEq,Int.reduceBEq,Int.reduceBNe,Int.reduceLT,Int.reduceLE,Int.reduceNeg,Int.reduceAdd,Int.reduceSub,Int.reduceMul,Int.reduceGE,Int.reduceGT,endO] | rw [dr_cons])
   refine dcall_intro (ks:=[0]) (cr_valN (.c (.ifc 145 (.xv (0,0,0)))) [0] (List.mem_cons_self) fun E a w' hs=>by
    have:=of_any (E.χ (0,0,0)) (E.χ (1,0,0)) (E.χ (2,0,0)) (E.χ (3,0,0)) (E.χ (4,0,0)) (objOf c.op) w'
    simp [ofV,h1] at this
    simp [SV.den,SC.den,h1]
    exact this) rfl trivial trivial (fun k hk=>by cases hk) ?_
   repeat (first | simp (maxSteps:=2000000) only [go_sem,↓reduceIte,Nat.reduceLT,Nat.reduceLeDiff,Nat.reduceAdd,Nat.reduceSub,Nat.reduceMul,Nat.reduceEqDiff,reduceCtorEq,Int.reduceToNat,Int.reduceEq,Int.reduceBEq,Int.reduceBNe,Int.reduceLT,Int.reduceLE,Int.reduceNeg,Int.reduceAdd,Int.reduceSub,Int.reduceMul,Int.reduceGE,Int.reduceGT,endO] | rw [dr_cons])
   refine dcallV (.c (.bo (c.op == 22))) (.bool (c.op == 22)) (fun E=>by rw [den_c,den_b]) (fun E a w' hs=>by
    obtain ⟨ba,cap,hv,_⟩:=(holds_of hs).1 (0,0,0) _ rfl
    have:=full_cell ba m.cell.length cap c.op w'
    simp only [List.map_cons,List.map_nil,den_c,SC.den,hv,arrOf_len]
    exact this) ?_
   repeat (first | simp (maxSteps:=2000000) only [go_sem,↓reduceIte,Nat.reduceLT,Nat.reduceLeDiff,Nat.reduceAdd,Nat.reduceSub,Nat.reduceMul,Nat.reduceEqDiff,reduceCtorEq,Int.reduceToNat,Int.reduceEq,Int.reduceBEq,Int.reduceBNe,Int.reduceLT,Int.reduceLE,Int.reduceNeg,Int.reduceAdd,Int.reduceSub,Int.reduceMul,Int.reduceGE,Int.reduceGT,endO] | rw [dr_cons])
   have hf:fullB c.op=(c.op == 22):=full1 h1
   refine both (fun hf1=>?_) (fun hf1=>?_)
   ·rw [if_pos (by rw [hf];exact hf1)]
    refine callF 5 cT (mcR m) (mcR_id _ _) (fun E a w' hs=>mcopy_Z (cont_at hs 0 rfl rfl rfl rfl rfl) (hok.1.le (by decide))) ?_
    simp (maxSteps:=2000000) only [go_sem,↓reduceIte,Nat.reduceLT,Nat.reduceLeDiff,Nat.reduceAdd,Nat.reduceSub,Nat.reduceMul,Nat.reduceEqDiff,reduceCtorEq,Int.reduceToNat,Int.reduceEq,Int.reduceBEq,Int.reduceBNe,Int.reduceLT,Int.reduceLE,Int.reduceNeg,Int.reduceAdd,Int.reduceSub,Int.reduceMul,Int.reduceGE,Int.reduceGT,endO,cT,mcS,mcR,mcA]
    exact retB5 _ _ _ _ _ (rdN_nw 15 List.mem_cons_self rfl) (rdN_nw 16 List.mem_cons_self rfl) (rdN_nw 17 List.mem_cons_self rfl) (rdN_nw 18 List.mem_cons_self rfl) (rdN_nw 19 List.mem_cons_self rfl) (alT_ok _ _ _ _ _ _ _ fun E=>by rw [den_v])
   ·rw [if_neg (by rw [hf,hf1];simp)]
    exact retB5 _ _ _ _ _ rdN_nil rdN_nil rdN_nil rdN_nil rdN_nil (alT_ok _ _ _ _ _ _ _ fun E=>by rw [den_v])
  by_cases h2:objOf c.op=2
  ·skip
   refine draw_vc (by kernel_rfl) (mkTab_ok _ _) (of_decide_eq_true rfl) (of_decide_eq_true rfl) ?_
   repeat (first | simp (maxSteps:=2000000) only [go_sem,↓reduceIte,Nat.reduceLT,Nat.reduceLeDiff,Nat.reduceAdd,Nat.reduceSub,Nat.reduceMul,Nat.reduceEqDiff,reduceCtorEq,Int.reduceToNat,Int.reduceEq,Int.reduceBEq,Int.reduceBNe,Int.reduceLT,Int.reduceLE,Int.reduceNeg,Int.reduceAdd,Int.reduceSub,Int.reduceMul,Int.reduceGE,Int.reduceGT,endO] | rw [dr_cons])
   repeat (with_reducible refine And.intro (by first | (simp only [maxLen];omega) | omega | decide | (simp;done) | (simp [maxLen];omega)) ?_)
   refine dcallV (.c (.v (.int .i64 (objOf c.op)))) _ (fun E=>rfl) (fun E a w' _=>by
    refine (mObject c.op w').mono ?_
    rintro e w'' ⟨rfl,rfl⟩
    exact ⟨rfl,Below.refl _ _⟩) ?_
   repeat (first | simp (maxSteps:=2000000) only [go_sem,↓reduceIte,Nat.reduceLT,Nat.reduceLeDiff,Nat.reduceAdd,Nat.reduceSub,Nat.reduceMul,Nat.reduceEqDiff,reduceCtorEq,Int.reduceToNat,Int.reduceEq,Int.reduceBEq,Int.reduceBNe,Int.reduceLT,Int.reduceLE,Int.reduceNeg,Int.reduceAdd,Int.reduceSub,Int.reduceMul,Int.reduceGE,Int.reduceGT,endO] | rw [dr_cons])
   refine dcall_intro (ks:=[1]) (cr_valN (.c (.ifc 146 (.xv (1,0,0)))) [1] (List.mem_cons_self) fun E a w' hs=>by
    have:=of_any (E.χ (0,0,0)) (E.χ (1,0,0)) (E.χ (2,0,0)) (E.χ (3,0,0)) (E.χ (4,0,0)) (objOf c.op) w'
    simp [ofV,h2] at this
    simp [SV.den,SC.den,h2]
    exact this) rfl trivial trivial (fun k hk=>by cases hk) ?_
   repeat (first | simp (maxSteps:=2000000) only [go_sem,↓reduceIte,Nat.reduceLT,Nat.reduceLeDiff,Nat.reduceAdd,Nat.reduceSub,Nat.reduceMul,Nat.reduceEqDiff,reduceCtorEq,Int.reduceToNat,Int.reduceEq,Int.reduceBEq,Int.reduceBNe,Int.reduceLT,Int.reduceLE,Int.reduceNeg,Int.reduceAdd,Int.reduceSub,Int.reduceMul,Int.reduceGE,Int.reduceGT,endO] | rw [dr_cons])
   refine dcallV (.c (.bo (c.op == 30))) (.bool (c.op == 30)) (fun E=>by rw [den_c,den_b]) (fun E a w' hs=>by
    obtain ⟨ba,cap,hv,_⟩:=(holds_of hs).1 (1,0,0) _ rfl
    have:=full_stack ba m.stack.length cap c.op w'
    simp only [List.map_cons,List.map_nil,den_c,SC.den,hv,arrOf_len]
    exact this) ?_
   repeat (first | simp (maxSteps:=2000000) only [go_sem,↓reduceIte,Nat.reduceLT,Nat.reduceLeDiff,Nat.reduceAdd,Nat.reduceSub,Nat.reduceMul,Nat.reduceEqDiff,reduceCtorEq,Int.reduceToNat,Int.reduceEq,Int.reduceBEq,Int.reduceBNe,Int.reduceLT,Int.reduceLE,Int.reduceNeg,Int.reduceAdd,Int.reduceSub,Int.reduceMul,Int.reduceGE,Int.reduceGT,endO] | rw [dr_cons])
   have hf:fullB c.op=(c.op == 30):=full2 h2
   refine both (fun hf1=>?_) (fun hf1=>?_)
   ·rw [if_pos (by rw [hf];exact hf1)]
    refine callF 5 cT (mcR m) (mcR_id _ _) (fun E a w' hs=>mcopy_Z (cont_at hs 0 rfl rfl rfl rfl rfl) (hok.1.le (by decide))) ?_
    simp (maxSteps:=2000000) only [go_sem,↓reduceIte,Nat.reduceLT,Nat.reduceLeDiff,Nat.reduceAdd,Nat.reduceSub,Nat.reduceMul,Nat.reduceEqDiff,reduceCtorEq,Int.reduceToNat,Int.reduceEq,Int.reduceBEq,Int.reduceBNe,Int.reduceLT,Int.reduceLE,Int.reduceNeg,Int.reduceAdd,Int.reduceSub,Int.reduceMul,Int.reduceGE,Int.reduceGT,endO,cT,mcS,mcR,mcA]
    exact retB5 _ _ _ _ _ (rdN_nw 15 List.mem_cons_self rfl) (rdN_nw 16 List.mem_cons_self rfl) (rdN_nw 17 List.mem_cons_self rfl) (rdN_nw 18 List.mem_cons_self rfl) (rdN_nw 19 List.mem_cons_self rfl) (alT_ok _ _ _ _ _ _ _ fun E=>by rw [den_v])
   ·rw [if_neg (by rw [hf,hf1];simp)]
    exact retB5 _ _ _ _ _ rdN_nil rdN_nil rdN_nil rdN_nil rdN_nil (alT_ok _ _ _ _ _ _ _ fun E=>by rw [den_v])
  by_cases h3:objOf c.op=3
  ·skip
   refine draw_vc (by kernel_rfl) (mkTab_ok _ _) (of_decide_eq_true rfl) (of_decide_eq_true rfl) ?_
   repeat (first | simp (maxSteps:=2000000) only [go_sem,↓reduceIte,Nat.reduceLT,Nat.reduceLeDiff,Nat.reduceAdd,Nat.reduceSub,Nat.reduceMul,Nat.reduceEqDiff,reduceCtorEq,Int.reduceToNat,Int.reduceEq,Int.reduceBEq,Int.reduceBNe,Int.reduceLT,Int.reduceLE,Int.reduceNeg,Int.reduceAdd,Int.reduceSub,Int.reduceMul,Int.reduceGE,Int.reduceGT,endO] | rw [dr_cons])
   repeat (with_reducible refine And.intro (by first | (simp only [maxLen];omega) | omega | decide | (simp;done) | (simp [maxLen];omega)) ?_)
   refine dcallV (.c (.v (.int .i64 (objOf c.op)))) _ (fun E=>rfl) (fun E a w' _=>by
    refine (mObject c.op w').mono ?_
    rintro e w'' ⟨rfl,rfl⟩
    exact ⟨rfl,Below.refl _ _⟩) ?_
   repeat (first | simp (maxSteps:=2000000) only [go_sem,↓reduceIte,Nat.reduceLT,Nat.reduceLeDiff,Nat.reduceAdd,Nat.reduceSub,Nat.reduceMul,Nat.reduceEqDiff,reduceCtorEq,Int.reduceToNat,Int.reduceEq,Int.reduceBEq,Int.reduceBNe,Int.reduceLT,Int.reduceLE,Int.reduceNeg,Int.reduceAdd,Int.reduceSub,Int.reduceMul,Int.reduceGE,Int.reduceGT,endO] | rw [dr_cons])
   refine dcall_intro (ks:=[2]) (cr_valN (.c (.ifc 147 (.xv (2,0,0)))) [2] (List.mem_cons_self) fun E a w' hs=>by
    have:=of_any (E.χ (0,0,0)) (E.χ (1,0,0)) (E.χ (2,0,0)) (E.χ (3,0,0)) (E.χ (4,0,0)) (objOf c.op) w'
    simp [ofV,h3] at this
    simp [SV.den,SC.den,h3]
    exact this) rfl trivial trivial (fun k hk=>by cases hk) ?_
   repeat (first | simp (maxSteps:=2000000) only [go_sem,↓reduceIte,Nat.reduceLT,Nat.reduceLeDiff,Nat.reduceAdd,Nat.reduceSub,Nat.reduceMul,Nat.reduceEqDiff,reduceCtorEq,Int.reduceToNat,Int.reduceEq,Int.reduceBEq,Int.reduceBNe,Int.reduceLT,Int.reduceLE,Int.reduceNeg,Int.reduceAdd,Int.reduceSub,Int.reduceMul,Int.reduceGE,Int.reduceGT,endO] | rw [dr_cons])
   refine dcallV (.c (.bo (c.op == 40))) (.bool (c.op == 40)) (fun E=>by rw [den_c,den_b]) (fun E a w' hs=>by
    obtain ⟨ba,cap,hv,_⟩:=(holds_of hs).1 (2,0,0) _ rfl
    have:=full_queue ba m.queue.length cap c.op w'
    simp only [List.map_cons,List.map_nil,den_c,SC.den,hv,arrOf_len]
    exact this) ?_
   repeat (first | simp (maxSteps:=2000000) only [go_sem,↓reduceIte,Nat.reduceLT,Nat.reduceLeDiff,Nat.reduceAdd,Nat.reduceSub,Nat.reduceMul,Nat.reduceEqDiff,reduceCtorEq,Int.reduceToNat,Int.reduceEq,Int.reduceBEq,Int.reduceBNe,Int.reduceLT,Int.reduceLE,Int.reduceNeg,Int.reduceAdd,Int.reduceSub,Int.reduceMul,Int.reduceGE,Int.reduceGT,endO] | rw [dr_cons])
   have hf:fullB c.op=(c.op == 40):=full3 h3
   refine both (fun hf1=>?_) (fun hf1=>?_)
   ·rw [if_pos (by rw [hf];exact hf1)]
    refine callF 5 cT (mcR m) (mcR_id _ _) (fun E a w' hs=>mcopy_Z (cont_at hs 0 rfl rfl rfl rfl rfl) (hok.1.le (by decide))) ?_
    simp (maxSteps:=2000000) only [go_sem,↓reduceIte,Nat.reduceLT,Nat.reduceLeDiff,Nat.reduceAdd,Nat.reduceSub,Nat.reduceMul,Nat.reduceEqDiff,reduceCtorEq,Int.reduceToNat,Int.reduceEq,Int.reduceBEq,Int.reduceBNe,Int.reduceLT,Int.reduceLE,Int.reduceNeg,Int.reduceAdd,Int.reduceSub,Int.reduceMul,Int.reduceGE,Int.reduceGT,endO,cT,mcS,mcR,mcA]
    exact retB5 _ _ _ _ _ (rdN_nw 15 List.mem_cons_self rfl) (rdN_nw 16 List.mem_cons_self rfl) (rdN_nw 17 List.mem_cons_self rfl) (rdN_nw 18 List.mem_cons_self rfl) (rdN_nw 19 List.mem_cons_self rfl) (alT_ok _ _ _ _ _ _ _ fun E=>by rw [den_v])
   ·rw [if_neg (by rw [hf,hf1];simp)]
    exact retB5 _ _ _ _ _ rdN_nil rdN_nil rdN_nil rdN_nil rdN_nil (alT_ok _ _ _ _ _ _ _ fun E=>by rw [den_v])
  by_cases h4:objOf c.op=4
  ·skip
   refine draw_vc (by kernel_rfl) (mkTab_ok _ _) (of_decide_eq_true rfl) (of_decide_eq_true rfl) ?_
   repeat (first | simp (maxSteps:=2000000) only [go_sem,↓reduceIte,Nat.reduceLT,Nat.reduceLeDiff,Nat.reduceAdd,Nat.reduceSub,Nat.reduceMul,Nat.reduceEqDiff,reduceCtorEq,Int.reduceToNat,Int.reduceEq,Int.reduceBEq,Int.reduceBNe,Int.reduceLT,Int.reduceLE,Int.reduceNeg,Int.reduceAdd,Int.reduceSub,Int.reduceMul,Int.reduceGE,Int.reduceGT,endO] | rw [dr_cons])
   repeat (with_reducible refine And.intro (by first | (simp only [maxLen];omega) | omega | decide | (simp;done) | (simp [maxLen];omega)) ?_)
   refine dcallV (.c (.v (.int .i64 (objOf c.op)))) _ (fun E=>rfl) (fun E a w' _=>by
    refine (mObject c.op w').mono ?_
    rintro e w'' ⟨rfl,rfl⟩
    exact ⟨rfl,Below.refl _ _⟩) ?_
   repeat (first | simp (maxSteps:=2000000) only [go_sem,↓reduceIte,Nat.reduceLT,Nat.reduceLeDiff,Nat.reduceAdd,Nat.reduceSub,Nat.reduceMul,Nat.reduceEqDiff,reduceCtorEq,Int.reduceToNat,Int.reduceEq,Int.reduceBEq,Int.reduceBNe,Int.reduceLT,Int.reduceLE,Int.reduceNeg,Int.reduceAdd,Int.reduceSub,Int.reduceMul,Int.reduceGE,Int.reduceGT,endO] | rw [dr_cons])
   refine dcall_intro (ks:=[3]) (cr_valN (.c (.ifc 150 (.xv (3,0,0)))) [3] (List.mem_cons_self) fun E a w' hs=>by
    have:=of_any (E.χ (0,0,0)) (E.χ (1,0,0)) (E.χ (2,0,0)) (E.χ (3,0,0)) (E.χ (4,0,0)) (objOf c.op) w'
    simp [ofV,h4] at this
    simp [SV.den,SC.den,h4]
    exact this) rfl trivial trivial (fun k hk=>by cases hk) ?_
   repeat (first | simp (maxSteps:=2000000) only [go_sem,↓reduceIte,Nat.reduceLT,Nat.reduceLeDiff,Nat.reduceAdd,Nat.reduceSub,Nat.reduceMul,Nat.reduceEqDiff,reduceCtorEq,Int.reduceToNat,Int.reduceEq,Int.reduceBEq,Int.reduceBNe,Int.reduceLT,Int.reduceLE,Int.reduceNeg,Int.reduceAdd,Int.reduceSub,Int.reduceMul,Int.reduceGE,Int.reduceGT,endO] | rw [dr_cons])
   refine dcallV (.c (.bo (c.op == 50 || c.op == 60))) (.bool (c.op == 50 || c.op == 60)) (fun E=>by rw [den_c,den_b]) (fun E a w' hs=>by
    obtain ⟨ba,cap,hv,_⟩:=(holds_of hs).1 (3,0,0) _ rfl
    have:=full_set ba m.set.length cap c.op w'
    simp only [List.map_cons,List.map_nil,den_c,SC.den,hv,arrOf_len]
    exact this) ?_
   repeat (first | simp (maxSteps:=2000000) only [go_sem,↓reduceIte,Nat.reduceLT,Nat.reduceLeDiff,Nat.reduceAdd,Nat.reduceSub,Nat.reduceMul,Nat.reduceEqDiff,reduceCtorEq,Int.reduceToNat,Int.reduceEq,Int.reduceBEq,Int.reduceBNe,Int.reduceLT,Int.reduceLE,Int.reduceNeg,Int.reduceAdd,Int.reduceSub,Int.reduceMul,Int.reduceGE,Int.reduceGT,endO] | rw [dr_cons])
   have hf:fullB c.op=(c.op == 50 || c.op == 60):=full4 h4
   refine both (fun hf1=>?_) (fun hf1=>?_)
   ·rw [if_pos (by rw [hf];exact hf1)]
    refine callF 5 cT (mcR m) (mcR_id _ _) (fun E a w' hs=>mcopy_Z (cont_at hs 0 rfl rfl rfl rfl rfl) (hok.1.le (by decide))) ?_
    simp (maxSteps:=2000000) only [go_sem,↓reduceIte,Nat.reduceLT,Nat.reduceLeDiff,Nat.reduceAdd,Nat.reduceSub,Nat.reduceMul,Nat.reduceEqDiff,reduceCtorEq,Int.reduceToNat,Int.reduceEq,Int.reduceBEq,Int.reduceBNe,Int.reduceLT,Int.reduceLE,Int.reduceNeg,Int.reduceAdd,Int.reduceSub,Int.reduceMul,Int.reduceGE,Int.reduceGT,endO,cT,mcS,mcR,mcA]
    exact retB5 _ _ _ _ _ (rdN_nw 15 List.mem_cons_self rfl) (rdN_nw 16 List.mem_cons_self rfl) (rdN_nw 17 List.mem_cons_self rfl) (rdN_nw 18 List.mem_cons_self rfl) (rdN_nw 19 List.mem_cons_self rfl) (alT_ok _ _ _ _ _ _ _ fun E=>by rw [den_v])
   ·rw [if_neg (by rw [hf,hf1];simp)]
    exact retB5 _ _ _ _ _ rdN_nil rdN_nil rdN_nil rdN_nil rdN_nil (alT_ok _ _ _ _ _ _ _ fun E=>by rw [den_v])
  by_cases h5:objOf c.op=5
  ·skip
   refine draw_vc (by kernel_rfl) (mkTab_ok _ _) (of_decide_eq_true rfl) (of_decide_eq_true rfl) ?_
   repeat (first | simp (maxSteps:=2000000) only [go_sem,↓reduceIte,Nat.reduceLT,Nat.reduceLeDiff,Nat.reduceAdd,Nat.reduceSub,Nat.reduceMul,Nat.reduceEqDiff,reduceCtorEq,Int.reduceToNat,Int.reduceEq,Int.reduceBEq,Int.reduceBNe,Int.reduceLT,Int.reduceLE,Int.reduceNeg,Int.reduceAdd,Int.reduceSub,Int.reduceMul,Int.reduceGE,Int.reduceGT,endO] | rw [dr_cons])
   repeat (with_reducible refine And.intro (by first | (simp only [maxLen];omega) | omega | decide | (simp;done) | (simp [maxLen];omega)) ?_)
   refine dcallV (.c (.v (.int .i64 (objOf c.op)))) _ (fun E=>rfl) (fun E a w' _=>by
    refine (mObject c.op w').mono ?_
    rintro e w'' ⟨rfl,rfl⟩
    exact ⟨rfl,Below.refl _ _⟩) ?_
   repeat (first | simp (maxSteps:=2000000) only [go_sem,↓reduceIte,Nat.reduceLT,Nat.reduceLeDiff,Nat.reduceAdd,Nat.reduceSub,Nat.reduceMul,Nat.reduceEqDiff,reduceCtorEq,Int.reduceToNat,Int.reduceEq,Int.reduceBEq,Int.reduceBNe,Int.reduceLT,Int.reduceLE,Int.reduceNeg,Int.reduceAdd,Int.reduceSub,Int.reduceMul,Int.reduceGE,Int.reduceGT,endO] | rw [dr_cons])
   refine dcall_intro (ks:=[4]) (cr_valN (.c (.ifc 151 (.xv (4,0,0)))) [4] (List.mem_cons_self) fun E a w' hs=>by
    have:=of_any (E.χ (0,0,0)) (E.χ (1,0,0)) (E.χ (2,0,0)) (E.χ (3,0,0)) (E.χ (4,0,0)) (objOf c.op) w'
    simp [ofV,h5] at this
    simp [SV.den,SC.den,h5]
    exact this) rfl trivial trivial (fun k hk=>by cases hk) ?_
   repeat (first | simp (maxSteps:=2000000) only [go_sem,↓reduceIte,Nat.reduceLT,Nat.reduceLeDiff,Nat.reduceAdd,Nat.reduceSub,Nat.reduceMul,Nat.reduceEqDiff,reduceCtorEq,Int.reduceToNat,Int.reduceEq,Int.reduceBEq,Int.reduceBNe,Int.reduceLT,Int.reduceLE,Int.reduceNeg,Int.reduceAdd,Int.reduceSub,Int.reduceMul,Int.reduceGE,Int.reduceGT,endO] | rw [dr_cons])
   refine dcallV (.c (.bo (c.op == 50 || c.op == 60))) (.bool (c.op == 50 || c.op == 60)) (fun E=>by rw [den_c,den_b]) (fun E a w' hs=>by
    obtain ⟨ba,cap,hv,_⟩:=(holds_of hs).1 (4,0,0) _ rfl
    have:=full_table ba m.table.length cap c.op w'
    simp only [List.map_cons,List.map_nil,den_c,SC.den,hv,arrOf_len]
    exact this) ?_
   repeat (first | simp (maxSteps:=2000000) only [go_sem,↓reduceIte,Nat.reduceLT,Nat.reduceLeDiff,Nat.reduceAdd,Nat.reduceSub,Nat.reduceMul,Nat.reduceEqDiff,reduceCtorEq,Int.reduceToNat,Int.reduceEq,Int.reduceBEq,Int.reduceBNe,Int.reduceLT,Int.reduceLE,Int.reduceNeg,Int.reduceAdd,Int.reduceSub,Int.reduceMul,Int.reduceGE,Int.reduceGT,endO] | rw [dr_cons])
   have hf:fullB c.op=(c.op == 50 || c.op == 60):=full5 h5
   refine both (fun hf1=>?_) (fun hf1=>?_)
   ·rw [if_pos (by rw [hf];exact hf1)]
    refine callF 5 cT (mcR m) (mcR_id _ _) (fun E a w' hs=>mcopy_Z (cont_at hs 0 rfl rfl rfl rfl rfl) (hok.1.le (by decide))) ?_
    simp (maxSteps:=2000000) only [go_sem,↓reduceIte,Nat.reduceLT,Nat.reduceLeDiff,Nat.reduceAdd,Nat.reduceSub,Nat.reduceMul,Nat.reduceEqDiff,reduceCtorEq,Int.reduceToNat,Int.reduceEq,Int.reduceBEq,Int.reduceBNe,Int.reduceLT,Int.reduceLE,Int.reduceNeg,Int.reduceAdd,Int.reduceSub,Int.reduceMul,Int.reduceGE,Int.reduceGT,endO,cT,mcS,mcR,mcA]
    exact retB5 _ _ _ _ _ (rdN_nw 15 List.mem_cons_self rfl) (rdN_nw 16 List.mem_cons_self rfl) (rdN_nw 17 List.mem_cons_self rfl) (rdN_nw 18 List.mem_cons_self rfl) (rdN_nw 19 List.mem_cons_self rfl) (alT_ok _ _ _ _ _ _ _ fun E=>by rw [den_v])
   ·rw [if_neg (by rw [hf,hf1];simp)]
    exact retB5 _ _ _ _ _ rdN_nil rdN_nil rdN_nil rdN_nil rdN_nil (alT_ok _ _ _ _ _ _ _ fun E=>by rw [den_v])
  rcases objOf_six c.op with h | h | h | h | h | h
  ·exact absurd h ho
  ·exact absurd h h1
  ·exact absurd h h2
  ·exact absurd h h3
  ·exact absurd h h4
  ·exact absurd h h5
 have h4:c.kind≠4:=by simpa using h4
 refine both (fun he=>?_) (fun he=>?_)
 ·have he:c.kind=(doM m c.op c.arg c.data).2.1∧c.val=(doM m c.op c.arg c.data).2.2:=by simpa using he
  have hd:allowM m c=((doM m c.op c.arg c.data).1,true):=by unfold allowM;rw [if_neg hk,if_neg h4,if_pos he]
  rw [hd]
  exact retB5 _ _ _ _ _ (rdN_nw 8 List.mem_cons_self rfl) (rdN_nw 9 List.mem_cons_self rfl) (rdN_nw 10 List.mem_cons_self rfl) (rdN_nw 11 List.mem_cons_self rfl) (rdN_nw 12 List.mem_cons_self rfl) (alT_ok _ _ _ _ _ _ _ fun E=>by rw [den_v])
 ·have he:¬ (c.kind=(doM m c.op c.arg c.data).2.1∧c.val=(doM m c.op c.arg c.data).2.2):=by
   intro h
   rw [h.1,h.2] at he
   simp at he
  have hd:allowM m c=(mc0,false):=by unfold allowM;rw [if_neg hk,if_neg h4,if_neg he]
  rw [hd]
  exact retB5 _ _ _ _ _ rdN_nil rdN_nil rdN_nil rdN_nil rdN_nil (alT_ok _ _ _ _ _ _ _ fun E=>by rw [den_v])
end Go.Proofs.Ytkjeedlkkpgopaa.Z
namespace Go.Proofs.Ytkjeedlkkpgopaa.Z
open Go Go.RowKit Go.ChangeShapes Go.WideShapes Go.ChangeAt
def _root_.Go.Proofs.Ytkjeedlkkpgopaa.MC.upto (m:MC) (n:Nat):Prop:=m.cell.length≤n∧m.stack.length≤n∧m.queue.length≤n∧m.set.length≤n∧m.table.length≤n
theorem _root_.Go.Proofs.Ytkjeedlkkpgopaa.MC.upto.okR {m:MC} {n:Nat} (h:m.upto n) (hn:n≤4000000000000):MC.okR m:=by
 obtain ⟨h0,h1,h2,h3,h4⟩:=h
 simp only [MC.okR,MC.ok]
 omega
section
variable {H:Type} {enc:TypeId×Value→H} {w:World}
end
end Go.Proofs.Ytkjeedlkkpgopaa.Z
namespace Go.Proofs.Ytkjeedlkkpgopaa
open Go.RowKit
theorem ins_len {α:Type} (l:List α) (i:Nat) (x:α):(insAt l i x).length=l.length+1:=by
 unfold insAt
 simp only [List.length_append,List.length_take,List.length_cons,List.length_drop]
 omega
theorem del_len {α:Type} (l:List α) (i:Nat):(delAt l i).length≤l.length:=by
 unfold delAt
 simp only [List.length_append,List.length_take,List.length_drop]
 omega
theorem doCell_len (l:List Int) (op arg:Int):(doCell l op arg).1.length≤max 1 l.length:=by
 unfold doCell
 split
 ·simp only [List.length_cons,List.length_nil];omega
 ·split
  ·simp only [List.length_nil];omega
  ·simp only [List.length_cons];omega
theorem doStack_len (l:List Int) (op arg:Int):(doStack l op arg).1.length≤l.length+1:=by
 unfold doStack
 split
 ·simp
 ·split <;> simp <;> omega
theorem doQueue_len (l:List Int) (op arg:Int):(doQueue l op arg).1.length≤l.length+1:=by
 unfold doQueue
 split
 ·simp
 ·split <;> simp <;> omega
theorem doSet_len (l:List Int) (op arg:Int):(doSet l op arg).1.length≤l.length+1:=by
 unfold doSet
 have h:=del_len l (pos l arg)
 (repeat' split) <;> simp [ins_len] <;> omega
theorem doTable_len (l:List (Int×Int)) (op arg data:Int):(doTable l op arg data).1.length≤l.length+1:=by
 unfold doTable
 have h:=del_len l (pos (keys l) arg)
 (repeat' split) <;> simp [ins_len] <;> omega
theorem doSet_inc {l:List Int} {op arg:Int} (h:incB l=true):incB (doSet l op arg).1=true:=by
 unfold doSet
 split
 ·split
  ·exact h
  ·next hk=>exact inc_ins h (fun hm=>hk ((has_mem h).2 hm))
 ·split
  ·split
   ·exact inc_del h
   ·exact h
  ·split <;> exact h
theorem doTable_inc {l:List (Int×Int)} {op arg data:Int} (h:incB (keys l)=true):incB (keys (doTable l op arg data).1)=true:=by
 unfold doTable
 split
 ·split
  ·exact h
  ·next hk =>
   show incB (keys (insAt l (pos (keys l) arg) (arg,data)))=true
   rw [show keys (insAt l (pos (keys l) arg) (arg,data))=insAt (keys l) (pos (keys l) arg) arg from map_insAt _ _ _ _]
   exact inc_ins h (fun hm=>hk ((has_mem h).2 hm))
 ·split
  ·split
   ·split
    ·show incB (keys (delAt l (pos (keys l) arg)))=true
     rw [show keys (delAt l (pos (keys l) arg))=delAt (keys l) (pos (keys l) arg) from map_delAt _ _ _]
     exact inc_del h
    ·exact h
   ·exact h
  ·exact h
theorem doM_may {m:MC} {op arg data:Int} (h:mayB m=true):mayB (doM m op arg data).1=true:=by
 unfold mayB at h ⊢
 simp only [Bool.and_eq_true,decide_eq_true_eq] at h ⊢
 obtain ⟨⟨h1,h2⟩,h3⟩:=h
 have g1:=doCell_len m.cell op arg
 unfold doM
 (repeat' split) <;> simp only
 ·exact ⟨⟨by omega,h2⟩,h3⟩
 ·exact ⟨⟨h1,h2⟩,h3⟩
 ·exact ⟨⟨h1,h2⟩,h3⟩
 ·exact ⟨⟨h1,doSet_inc h2⟩,h3⟩
 ·exact ⟨⟨h1,h2⟩,doTable_inc h3⟩
end Go.Proofs.Ytkjeedlkkpgopaa
namespace Go.Proofs.Ytkjeedlkkpgopaa.Z
open Go Go.RowKit
theorem doM_upto {m:MC} {n:Nat} {op arg data:Int} (h:m.upto n):(doM m op arg data).1.upto (n+1):=by
 have h1:=doCell_len m.cell op arg
 have h2:=doStack_len m.stack op arg
 have h3:=doQueue_len m.queue op arg
 have h4:=doSet_len m.set op arg
 have h5:=doTable_len m.table op arg data
 unfold MC.upto at h ⊢
 unfold doM
 (repeat' split) <;> simp only <;> omega
theorem mc0_may:mayB mc0=true:=by decide
theorem allowM_upto {m:MC} {n:Nat} {c:Cl} (h:m.upto n):(allowM m c).1.upto (n+1):=by
 have h0:m.upto (n+1):=by obtain ⟨a,b,c,d,e⟩:=h;exact ⟨by omega,by omega,by omega,by omega,by omega⟩
 have hz:mc0.upto (n+1):=by simp [MC.upto,mc0]
 unfold allowM
 (repeat' split) <;> first | exact doM_upto h | exact h0 | exact hz
theorem allowM_may {m:MC} {c:Cl} (h:mayB m=true):mayB (allowM m c).1=true:=by
 unfold allowM
 (repeat' split) <;> first | exact doM_may h | exact h | exact mc0_may
def playM:MC→Nat→List Cl→MC×Int
 | m,_,[]=>(m,-1)
 | m,i,c :: r=>if (allowM m c).2=true then playM (allowM m c).1 (i+1) r else (m,(i:Int))
end Go.Proofs.Ytkjeedlkkpgopaa.Z
namespace Go.Proofs.Ytkjeedlkkpgopaa.Z
open Go Go.RowKit
theorem enterCL {P:Program} {A:List Nat} {f nt:Nat} {fn:Func} {x:Code} {c:IR} {w:World} {rs:List RS} {R:Ending→World→Prop} {v:Value} {m:MC} (h:Cont w v m) {α:Type} {enc:α→List Value} {s:Nat} {xs:List α} (d:α) {v' : Value} (T:EncT enc s) (h' : Arr w enc s v' xs) (sc:List SV) (args:Array Value)
  (hf:P.funcs[f]? = some fn) (hb:fn.body=some x) (hc:compC (mkTab P A) x=some c.strip) (hr:compR (mkTab P A).T fn.results.toList=some rs) (hn:fn.ntmps=nt)
  (hargs:∀ E' : Env,(SV.agg (mcS 0)).den E' = v→E'.χ (5,0,0)=v'→(sc.map (SV.den E')).toArray=args) (hnt:sc.length≤nt)
  (hex:exec (mkC P A w rs R) 1000 [.code c] ⟨nt,enumT 0 sc,[],mcA 0 m++[(5,.one (arrOf enc s xs d))],[],6⟩):Calls P f args w R:=by
 obtain ⟨v0,v1,v2,v3,v4,rfl,h0,h1,h2,h3,h4⟩:=h
 have hone:OneC ⟨fun _=>0,fun _=>0,fun _=>false,fun x=>if x.1=5 then v' else fiv v0 v1 v2 v3 v4 x.1⟩:=fun x=>by
  simp only [fiv]
  split
  ·exact arr_one h'
  split
  ·exact arr_one h0
  ·exact arr_one h1
  ·exact arr_one h2
  ·exact arr_one h3
  ·exact arr_one h4
 refine calls_sym (c:=c) (C:=mkC P A w rs R) 1000 sc ⟨fun _=>0,fun _=>0,fun _=>false,fun x=>if x.1=5 then v' else fiv v0 v1 v2 v3 v4 x.1⟩ [] _ [] 6 nt args (mkTab_ok _ _) hf hb hc hr hn rfl rfl hone (fun E' hE'=>hargs E' ?_ ?_) hnt (fun E' hE'=>inOk_arrs fun w' hw' x A hA=>?_) hex
 all_goals have e0:E'.χ (0,0,0)=v0:=(hE' (0,0,0) (by decide)).2.2.2
 all_goals have e1:E'.χ (1,0,0)=v1:=(hE' (1,0,0) (by decide)).2.2.2
 all_goals have e2:E'.χ (2,0,0)=v2:=(hE' (2,0,0) (by decide)).2.2.2
 all_goals have e3:E'.χ (3,0,0)=v3:=(hE' (3,0,0) (by decide)).2.2.2
 all_goals have e4:E'.χ (4,0,0)=v4:=(hE' (4,0,0) (by decide)).2.2.2
 all_goals have e5:E'.χ (5,0,0)=v':=(hE' (5,0,0) (by decide)).2.2.2
 ·simp [mcS,SV.den,SC.den,e0,e1,e2,e3,e4]
 ·exact e5
 ·rcases atN_one hA with ⟨rfl,rfl⟩ | hA
  ·exact arr1 eI_ok e0 h0 hw'
  rcases atN_one hA with ⟨rfl,rfl⟩ | hA
  ·exact arr1 eI_ok e1 h1 hw'
  rcases atN_one hA with ⟨rfl,rfl⟩ | hA
  ·exact arr1 eI_ok e2 h2 hw'
  rcases atN_one hA with ⟨rfl,rfl⟩ | hA
  ·exact arr1 eI_ok e3 h3 hw'
  rcases atN_one hA with ⟨rfl,rfl⟩ | hA
  ·exact arr1 eP_ok e4 h4 hw'
  rcases atN_one hA with ⟨rfl,rfl⟩ | hA
  ·exact arr1 T e5 h' hw'
  exact (atN_nil hA).elim
theorem arrOf_tr {α:Type} {enc:α→List Value} {s:Nat} {xs:List α} {d:α} {E E2:Env} {w:World} {x y:Nm} (hx:E2.χ x=E.χ y) (h:ArrAt E w y (arrOf enc s xs d)):ArrAt E2 w x (arrOf enc s xs d):=by
 obtain ⟨ba,cap,h1,h2,h3,h4⟩:=h
 refine ⟨ba,cap,hx.trans h1,h2,h3,?_⟩
 rcases h4 with h4 | ⟨b,off,h5,h7,h6⟩
 ·exact Or.inl h4
 ·refine Or.inr ⟨b,off,h5,h7,fun k hk=>⟨(h6 k hk).1,fun j u hu=>?_⟩⟩
  have:=(h6 k hk).2 j u hu
  simp only [arrOf,List.getElem?_map,Option.map_eq_some_iff] at hu
  obtain ⟨u',_,rfl⟩:=hu
  rw [den_v] at this ⊢
  exact this
theorem nwL_fact {σ:Nm→Nm} {n B:Nat} {fs:List (Env→World→Prop)} {m:MC} (i j:Nat) (h:NwL B (mcA j m)∈fs) (h0:σ (i,0,0)=(j,0,0)) (h1:σ (i+1,0,0)=(j+1,0,0)) (h2:σ (i+2,0,0)=(j+2,0,0)) (h3:σ (i+3,0,0)=(j+3,0,0)) (h4:σ (i+4,0,0)=(j+4,0,0)) (hn:i+5≤n):FactLe σ n fs (NwL B (mcA i m)):=by
 refine ⟨_,h,fun E E2 w hR hφ w'' hw'' x A hx=>?_⟩
 have key:∀ k l,σ (k,0,0)=(l,0,0)→k<n→E2.χ (k,0,0)=E.χ (l,0,0):=fun k l e hk=>by
  have:=(hR (k,0,0) hk).2.2.2
  rw [e] at this
  exact this
 have hφ:=hφ w'' hw''
 rcases atN_one hx with ⟨rfl,rfl⟩ | hx
 ·exact arrOf_tr (key _ _ h0 (by omega)) (hφ (j,0,0) _ (by simp [mcA,atN,look,Fm.get]))
 rcases atN_one hx with ⟨rfl,rfl⟩ | hx
 ·exact arrOf_tr (key _ _ h1 (by omega)) (hφ (j+1,0,0) _ (by simp [mcA,atN,look,Fm.get]))
 rcases atN_one hx with ⟨rfl,rfl⟩ | hx
 ·exact arrOf_tr (key _ _ h2 (by omega)) (hφ (j+2,0,0) _ (by simp [mcA,atN,look,Fm.get]))
 rcases atN_one hx with ⟨rfl,rfl⟩ | hx
 ·exact arrOf_tr (key _ _ h3 (by omega)) (hφ (j+3,0,0) _ (by simp [mcA,atN,look,Fm.get]))
 rcases atN_one hx with ⟨rfl,rfl⟩ | hx
 ·exact arrOf_tr (key _ _ h4 (by omega)) (hφ (j+4,0,0) _ (by simp [mcA,atN,look,Fm.get]))
 exact (atN_nil hx).elim
def plT (p:MC×Int) (b:Nat):SV:=.tup [(true,mcS b),(false,[.v (.int .i64 p.2)]),(false,[.v (.int .i64 0)])]
theorem plT_ok (c0 c1 c2 c3 c4:SC) (p:MC×Int):∀ b (E E2:Env),E2.χ (b,0,0)=c0.den E→E2.χ (b+1,0,0)=c1.den E→E2.χ (b+2,0,0)=c2.den E→E2.χ (b+3,0,0)=c3.den E→E2.χ (b+4,0,0)=c4.den E →
  (SV.tup [(true,[c0,c1,c2,c3,c4]),(false,[.v (.int .i64 p.2)]),(false,[.v (.int .i64 0)])]).den E=(plT p b).den E2:=fun b E E2 e0 e1 e2 e3 e4=>by
 simp [plT,mcS,SV.den,den1,SC.den,e0,e1,e2,e3,e4]
structure Plg (m0:MC) (xs:List Cl) (N:Nat) where
 k:Nat
 m:MC
 hk:k≤xs.length
 may:mayB m=true
 up:m.upto (N+k)
 eq:playM m0 0 xs=playM m k (xs.drop k)
def ir71:IR:=(.seq (.ops [⟨(some 2),(.box 70 (.t 0)),none⟩,⟨(some 4),(.new 70 [(.v (.slice none 0 0)),(.v (.slice none 0 0)),(.v (.slice none 0 0)),(.v (.slice none 0 0)),(.v (.slice none 0 0))]),none⟩,⟨(some 5),(.mv (.k (.c (.v (.int .i64 0))))),none⟩,⟨(some 6),(.mv (.k (.c (.v (.int .i64 0))))),none⟩]) (.kill [0,3,5,6,7,8,9,10,11] (.seq (.seq (.ops [⟨(some 15),(.ld true 5 (.t 2)),none⟩,⟨(some 16),(.call 90 [(.t 15)]),none⟩,⟨(some 17),(.un .not (.t 16)),none⟩]) (.kill [15,16] (.cond (.t 17) (.seq (.ops [⟨(some 18),(.build [(.v (.slice none 0 0)),(.v (.slice none 0 0)),(.v (.slice none 0 0)),(.v (.slice none 0 0)),(.v (.slice none 0 0))] []),none⟩,⟨none,(.st 5 (.t 4) (.t 18)),none⟩,⟨(some 5),(.mv (.k (.c (.v (.int .i64 0))))),none⟩,⟨(some 6),(.mv (.k (.c (.v (.int .i64 111))))),none⟩]) (.kill [1,2,17,18] .ret)) .skip))) (.kill [5,6,17] (.seq (.seq (.ops [⟨(some 19),(.mv (.t 1)),none⟩,⟨(some 20),(.len (.t 19)),none⟩,⟨(some 21),(.mv (.k (.c (.v (.int .i64 0))))),none⟩]) (.blk 0 (.loop (.seq (.ops [⟨(some 22),(.bin .lss (.t 21) (.t 20)),none⟩]) (.kill [5,6,8,23,24,25,26,27,28,29,30] (.seq (.cond (.t 22) .skip (.exit 0)) (.kill [22] (.seq (.blk 1 (.seq (.ops [⟨(some 23),(.ia 9 (.t 19) (.t 21)),none⟩,⟨(some 24),(.ld true 9 (.t 23)),none⟩,⟨(some 8),(.new 53 [(.v (.int .i64 0)),(.v (.int .i64 0)),(.v (.int .i64 0)),(.v (.int .i64 0)),(.v (.int .i64 0)),(.v (.int .i64 0)),(.v (.int .i64 0)),(.v (.int .i64 0)),(.v (.int .i64 0))]),none⟩,⟨none,(.st 9 (.t 8) (.t 24)),none⟩]) (.kill [23,24] (.seq (.ops [⟨(some 25),(.fa 1 (.t 8)),none⟩,⟨(some 26),(.ld false 1 (.t 25)),none⟩,⟨(some 27),(.call 59 [(.t 26)]),none⟩,⟨(some 28),(.bin .eql (.t 27) (.k (.c (.v (.int .i64 0))))),none⟩]) (.kill [8,25,26,27] (.cond (.t 28) (.seq (.ops [⟨(some 29),(.build [(.v (.slice none 0 0)),(.v (.slice none 0 0)),(.v (.slice none 0 0)),(.v (.slice none 0 0)),(.v (.slice none 0 0))] []),none⟩,⟨none,(.st 5 (.t 4) (.t 29)),none⟩,⟨(some 5),(.mv (.k (.c (.v (.int .i64 0))))),none⟩,⟨(some 6),(.mv (.k (.c (.v (.int .i64 110))))),none⟩]) (.kill [1,2,19,20,21,28,29] .ret)) .skip)))))) (.kill [5,6,8,23,24,25,26,27,28,29] (.ops [⟨(some 30),(.bin .add (.t 21) (.k (.c (.v (.int .i64 1))))),none⟩,⟨(some 21),(.mv (.t 30)),none⟩])))))))))) (.kill [5,6,8,19,20,21,22,23,24,25,26,27,28,29,30] (.seq (.ops [⟨(some 31),(.ld true 5 (.t 2)),none⟩,⟨(some 32),(.call 89 [(.t 31)]),none⟩,⟨(some 9),(.new 70 [(.v (.slice none 0 0)),(.v (.slice none 0 0)),(.v (.slice none 0 0)),(.v (.slice none 0 0)),(.v (.slice none 0 0))]),none⟩,⟨none,(.st 5 (.t 9) (.t 32)),none⟩]) (.kill [2,31,32] (.seq (.seq (.ops [⟨(some 33),(.mv (.t 1)),none⟩,⟨(some 34),(.len (.t 33)),none⟩,⟨(some 35),(.mv (.k (.c (.v (.int .i64 0))))),none⟩]) (.kill [1] (.blk 2 (.loop (.seq (.ops [⟨(some 36),(.bin .lss (.t 35) (.t 34)),none⟩]) (.kill [5,6,10,11,12,13,14,37,38,39,40,41,42,43,44,45,46,47,48,49,50,51,52] (.seq (.cond (.t 36) .skip (.exit 2)) (.kill [36] (.seq (.blk 3 (.seq (.ops [⟨(some 37),(.mv (.t 35)),none⟩,⟨(some 38),(.ia 9 (.t 33) (.t 35)),none⟩,⟨(some 39),(.ld true 9 (.t 38)),none⟩,⟨(some 11),(.new 53 [(.v (.int .i64 0)),(.v (.int .i64 0)),(.v (.int .i64 0)),(.v (.int .i64 0)),(.v (.int .i64 0)),(.v (.int .i64 0)),(.v (.int .i64 0)),(.v (.int .i64 0)),(.v (.int .i64 0))]),none⟩,⟨(some 10),(.mv (.t 37)),none⟩,⟨none,(.st 9 (.t 11) (.t 39)),none⟩]) (.kill [37,38,39] (.seq (.ops [⟨(some 41),(.ld true 5 (.t 9)),none⟩,⟨(some 42),(.ld true 9 (.t 11)),none⟩,⟨(some 43),(.call 68 [(.t 41),(.t 42)]),none⟩,⟨(some 40),(.mv (.t 43)),none⟩,⟨(some 44),(.ext 0 (.t 40)),none⟩,⟨(some 45),(.ext 1 (.t 40)),none⟩,⟨(some 46),(.ext 2 (.t 40)),none⟩,⟨(some 12),(.new 70 [(.v (.slice none 0 0)),(.v (.slice none 0 0)),(.v (.slice none 0 0)),(.v (.slice none 0 0)),(.v (.slice none 0 0))]),none⟩,⟨none,(.st 5 (.t 12) (.t 44)),none⟩,⟨(some 13),(.mv (.t 45)),none⟩,⟨(some 14),(.mv (.t 46)),none⟩]) (.kill [11,14,40,41,42,43,44,45,46] (.seq (.seq (.ops [⟨(some 47),(.mv (.t 13)),none⟩,⟨(some 48),(.un .not (.t 47)),none⟩]) (.kill [13,47] (.cond (.t 48) (.seq (.ops [⟨(some 49),(.ld true 5 (.t 9)),none⟩,⟨(some 50),(.mv (.t 10)),none⟩,⟨none,(.st 5 (.t 4) (.t 49)),none⟩,⟨(some 5),(.mv (.t 50)),none⟩,⟨(some 6),(.mv (.k (.c (.v (.int .i64 0))))),none⟩]) (.kill [9,10,12,33,34,35,48,49,50] .ret)) .skip))) (.kill [5,6,10,48] (.ops [⟨(some 51),(.ld true 5 (.t 12)),none⟩,⟨none,(.st 5 (.t 9) (.t 51)),none⟩])))))))) (.kill [5,6,10,11,12,13,14,37,38,39,40,41,42,43,44,45,46,47,48,49,50,51] (.ops [⟨(some 52),(.bin .add (.t 35) (.k (.c (.v (.int .i64 1))))),none⟩,⟨(some 35),(.mv (.t 52)),none⟩]))))))))))) (.kill [5,6,10,11,12,13,14,33,34,35,36,37,38,39,40,41,42,43,44,45,46,47,48,49,50,51,52] (.seq (.ops [⟨(some 53),(.ld true 5 (.t 9)),none⟩,⟨none,(.st 5 (.t 4) (.t 53)),none⟩,⟨(some 5),(.mv (.k (.c (.v (.int .i64 (-1)))))),none⟩,⟨(some 6),(.mv (.k (.c (.v (.int .i64 0))))),none⟩]) (.kill [9,53] .ret))))))))))))
def rs71:List RS:=[(.cell 4 true 5),(.t 5),(.t 6)]
def nt71:Nat:=54
set_option maxRecDepth 100000 in
set_option maxHeartbeats 400000 in
theorem play_Z {w:World} {v v' : Value} {m:MC} {xs:List Cl} {N:Nat} (h:Cont w v m) (hu:m.upto N) (hN:N≤2000000000000) (hm:mayB m=true) (h' : Arr w Cl.enc 9 v' xs) (hx:xs.length≤N) (ho:∀ k,k<xs.length→objOf (xs.getD k cl0).op≠0) :
  Calls Try.prog 71 #[v,v'] w (RetB w (fun _=>True) 5 (plT (playM m 0 xs)) (mcR (playM m 0 xs).1)):=by
 have hok:MC.okR m:=hu.okR (by omega)
 refine enterCL (A:=[]) (c:=ir71) (rs:=rs71) (nt:=nt71) h cl0 cl_ok h' [.agg (mcS 0),.c (.xv (5,0,0))] _ Try.func71 rfl (by kernel_rfl) (by kernel_rfl) rfl (fun E' h0 h1=>by rw [List.map_cons,h0];simp [SV.den,SC.den,h1]) (of_decide_eq_true rfl) ?_
 simp (maxSteps:=2000000) only [ir71,nt71,rs71,go_sem,↓reduceIte,Nat.reduceLT,Nat.reduceLeDiff,Nat.reduceAdd,Nat.reduceSub,Nat.reduceMul,Nat.reduceEqDiff,reduceCtorEq,Int.reduceToNat,Int.reduceEq,Int.reduceBEq,Int.reduceBNe,Int.reduceLT,Int.reduceLE,Int.reduceNeg,Int.reduceAdd,Int.reduceSub,Int.reduceMul,Int.reduceGE,Int.reduceGT,Cl.enc,iv,endO,mcS,mcA,List.cons_append,List.nil_append]
 refine callV (.c (.v (.bool true))) (.bool true) (fun E=>rfl) (fun E a w' hs=>?_) ?_
 ·have:=may_Z (w:=w') (cont_at hs 0 rfl rfl rfl rfl rfl) (m:=m)
  rw [hm] at this
  exact this
 simp (maxSteps:=2000000) only [go_sem,↓reduceIte,Nat.reduceLT,Nat.reduceLeDiff,Nat.reduceAdd,Nat.reduceSub,Nat.reduceMul,Nat.reduceEqDiff,reduceCtorEq,Int.reduceToNat,Int.reduceEq,Int.reduceBEq,Int.reduceBNe,Int.reduceLT,Int.reduceLE,Int.reduceNeg,Int.reduceAdd,Int.reduceSub,Int.reduceMul,Int.reduceGE,Int.reduceGT,Cl.enc,iv,endO]
 refine loopI (ι:={ k:Nat // k≤xs.length }) (fun k=>⟨54,[(1,.c (.xv (5,0,0))),(2,.c (.ptr (6,0,0) 0)),(4,.c (.ptr (7,0,0) 0)),(19,.c (.xv (5,0,0))),(20,.c (.v (.int .i64 xs.length))),(21,.c (.v (.int .i64 (k.1:Nat))))],
  [(6,.one (.bk (mcS 0) 70)),(7,.one (.bk [.v (.slice none 0 0),.v (.slice none 0 0),.v (.slice none 0 0),.v (.slice none 0 0),.v (.slice none 0 0)] 70))],mcA 0 m++[(5,.one (arrOf Cl.enc 9 xs cl0))],[],8⟩)
  (fun k=>xs.length - k.1) ⟨0,by omega⟩ (le_refl _) ?_
 rintro ⟨k,hk⟩
 simp (maxSteps:=2000000) only [go_sem,↓reduceIte,Nat.reduceLT,Nat.reduceLeDiff,Nat.reduceAdd,Nat.reduceSub,Nat.reduceMul,Nat.reduceEqDiff,reduceCtorEq,Int.reduceToNat,Int.reduceEq,Int.reduceBEq,Int.reduceBNe,Int.reduceLT,Int.reduceLE,Int.reduceNeg,Int.reduceAdd,Int.reduceSub,Int.reduceMul,Int.reduceGE,Int.reduceGT,Cl.enc,iv,endO,mcS,mcA,List.cons_append,List.nil_append]
 refine both (fun hlt=>?_) (fun hge=>?_)
 ·rw [decide_eq_true_eq] at hlt
  have hlt:k<xs.length:=by omega
  repeat (with_reducible refine And.intro (by first | (simp only [maxLen];omega) | omega | decide | (simp;done) | (simp [maxLen];omega)) ?_)
  refine callV (.c (.v (.int .i64 (objOf (xs.getD k cl0).op)))) _ (fun E=>rfl) (fun E a w' hs=>by
   have:=obj_Z (xs.getD k cl0).op w'
   exact this) ?_
  simp (maxSteps:=2000000) only [go_sem,↓reduceIte,Nat.reduceLT,Nat.reduceLeDiff,Nat.reduceAdd,Nat.reduceSub,Nat.reduceMul,Nat.reduceEqDiff,reduceCtorEq,Int.reduceToNat,Int.reduceEq,Int.reduceBEq,Int.reduceBNe,Int.reduceLT,Int.reduceLE,Int.reduceNeg,Int.reduceAdd,Int.reduceSub,Int.reduceMul,Int.reduceGE,Int.reduceGT,Cl.enc,iv,endO]
  refine both (fun hz=>?_) (fun _=>?_)
  ·simp at hz;exact absurd hz (ho k hlt)
  rw [wr_succ (by omega)]
  exact backI ⟨k+1,hlt⟩ (by simp only;omega) (le_ren (id) rfl rfl (by simp [TmpsLe,look,SV.ren,SC.ren,SC.renL,ren1L,ren1,idσ,SV.okN,SC.okN,SC.okL,ok1L]) (by simp [OwnLe,BlkLeO,BlkLe,atN,look,Fm.get,idσ,SC.renL,SC.ren,SC.okL,SC.okN,renL_v,okL_v]) (by simp [ArrsLe,ArrLeO,atN,look,Fm.get,idσ,arrLe_of,arrLe_0]) rfl)
 refine callF 5 cT (mcR m) (mcR_id _ _) (fun E a w' hs=>mcopy_Z (cont_at hs 0 rfl rfl rfl rfl rfl) (hok.1.le (by decide))) ?_
 simp (maxSteps:=2000000) only [go_sem,↓reduceIte,Nat.reduceLT,Nat.reduceLeDiff,Nat.reduceAdd,Nat.reduceSub,Nat.reduceMul,Nat.reduceEqDiff,reduceCtorEq,Int.reduceToNat,Int.reduceEq,Int.reduceBEq,Int.reduceBNe,Int.reduceLT,Int.reduceLE,Int.reduceNeg,Int.reduceAdd,Int.reduceSub,Int.reduceMul,Int.reduceGE,Int.reduceGT,Cl.enc,iv,endO,cT,mcS,mcR,mcA]
 refine loopI (ι:=Plg m xs N) (fun g=>⟨54,[(4,.c (.ptr (7,0,0) 0)),(9,.c (.ptr (6,0,0) 0)),(33,.c (.xv (5,0,0))),(34,.c (.v (.int .i64 xs.length))),(35,.c (.v (.int .i64 (g.k:Nat))))],
  [(7,.one (.bk [.v (.slice none 0 0),.v (.slice none 0 0),.v (.slice none 0 0),.v (.slice none 0 0),.v (.slice none 0 0)] 70)),(6,.one (.bk (mcS 0) 70))],mcA 0 g.m++[(5,.one (arrOf Cl.enc 9 xs cl0))],[NwL w.heap.size (mcA 0 g.m)],8⟩)
  (fun g=>xs.length - g.k) ⟨0,m,by omega,hm,hu,rfl⟩ ?_ ?_
 ·simp only [mcS,mcA,List.cons_append,List.nil_append]
  exact (le_renF (fun i=>if i<5 then i+8 else if i=6 then 13 else i) rfl (⟨nwL_fact 0 8 List.mem_cons_self rfl rfl rfl rfl rfl (of_decide_eq_true rfl),trivial⟩) (by simp [TmpsLe,look,SV.ren,SC.ren,SC.renL,ren1L,ren1,idσ,SV.okN,SC.okN,SC.okL,ok1L]) (by simp [OwnLe,BlkLeO,BlkLe,atN,look,Fm.get,idσ,SC.renL,SC.ren,SC.okL,SC.okN,renL_v,okL_v]) (by simp [ArrsLe,ArrLeO,atN,look,Fm.get,idσ,arrLe_of,arrLe_0]) rfl)
 rintro ⟨k,m',hk,may,up,eq⟩
 simp (maxSteps:=2000000) only [go_sem,↓reduceIte,Nat.reduceLT,Nat.reduceLeDiff,Nat.reduceAdd,Nat.reduceSub,Nat.reduceMul,Nat.reduceEqDiff,reduceCtorEq,Int.reduceToNat,Int.reduceEq,Int.reduceBEq,Int.reduceBNe,Int.reduceLT,Int.reduceLE,Int.reduceNeg,Int.reduceAdd,Int.reduceSub,Int.reduceMul,Int.reduceGE,Int.reduceGT,Cl.enc,iv,endO,mcS,mcA,List.cons_append,List.nil_append]
 refine both (fun hlt=>?_) (fun hge=>?_)
 ·rw [decide_eq_true_eq] at hlt
  have hlt:k<xs.length:=by omega
  repeat (with_reducible refine And.intro (by first | (simp only [maxLen];omega) | omega | decide | (simp;done) | (simp [maxLen];omega)) ?_)
  have hok' : MC.okR m':=up.okR (by omega)
  refine callF 5 (alT (allowM m' (xs.getD k cl0))) (mcR (allowM m' (xs.getD k cl0)).1) (mcR_id _ _) (fun E a w' hs=>al_Z (xs.getD k cl0) (cont_at hs 0 rfl rfl rfl rfl rfl) hok' may (ho k hlt)) ?_
  simp (maxSteps:=2000000) only [go_sem,↓reduceIte,Nat.reduceLT,Nat.reduceLeDiff,Nat.reduceAdd,Nat.reduceSub,Nat.reduceMul,Nat.reduceEqDiff,reduceCtorEq,Int.reduceToNat,Int.reduceEq,Int.reduceBEq,Int.reduceBNe,Int.reduceLT,Int.reduceLE,Int.reduceNeg,Int.reduceAdd,Int.reduceSub,Int.reduceMul,Int.reduceGE,Int.reduceGT,Cl.enc,iv,endO,alT,mcS,mcR,mcA]
  have hdr:xs.drop k=xs.getD k cl0 :: xs.drop (k+1):=by rw [List.drop_eq_getElem_cons hlt];simp [List.getD_eq_getElem?_getD,List.getElem?_eq_getElem hlt]
  rw [hdr] at eq
  have hup:=allowM_upto (c:=xs.getD k cl0) up
  have hmy:=allowM_may (c:=xs.getD k cl0) may
  simp only [playM] at eq
  generalize allowM m' (xs.getD k cl0)=p at eq hup hmy ⊢
  obtain ⟨m2,b⟩:=p
  simp only at eq hup hmy
  refine both (fun hb=>?_) (fun hb=>?_)
  ·have hb:b=false:=by simpa using hb
   rw [hb,if_neg (by simp)] at eq
   have heq:playM m 0 xs=(m',(k:Int)):=by rw [eq]
   rw [heq]
   exact retB5 _ _ _ _ _ (rdN_nw 0 (L:=mcA 0 m') (List.mem_cons_of_mem _ List.mem_cons_self) rfl) (rdN_nw 1 (L:=mcA 0 m') (List.mem_cons_of_mem _ List.mem_cons_self) rfl) (rdN_nw 2 (L:=mcA 0 m') (List.mem_cons_of_mem _ List.mem_cons_self) rfl) (rdN_nw 3 (L:=mcA 0 m') (List.mem_cons_of_mem _ List.mem_cons_self) rfl) (rdN_nw 4 (L:=mcA 0 m') (List.mem_cons_of_mem _ List.mem_cons_self) rfl) (plT_ok _ _ _ _ _ (m',(k:Int)))
  ·have hb:b=true:=by simpa using hb
   rw [hb,if_pos rfl] at eq
   rw [wr_succ (by omega)]
   refine backI ⟨k+1,m2,hlt,hmy,by rw [show N+(k+1)=N+k+1 by omega];exact hup,by rw [eq]⟩ (by simp only;omega) ?_
   simp only [mcS,mcA,List.cons_append,List.nil_append]
   exact (le_renF (fun i=>if i<5 then i+9 else i) rfl (⟨nwL_fact 0 9 List.mem_cons_self rfl rfl rfl rfl rfl (of_decide_eq_true rfl),trivial⟩) (by simp [TmpsLe,look,SV.ren,SC.ren,SC.renL,ren1L,ren1,idσ,SV.okN,SC.okN,SC.okL,ok1L]) (by simp [OwnLe,BlkLeO,BlkLe,atN,look,Fm.get,idσ,SC.renL,SC.ren,SC.okL,SC.okN,renL_v,okL_v]) (by simp [ArrsLe,ArrLeO,atN,look,Fm.get,idσ,arrLe_of,arrLe_0]) rfl)
 ·rw [decide_eq_false_iff_not] at hge
  have hk' : k=xs.length:=by omega
  subst hk'
  rw [List.drop_length] at eq
  have heq:playM m 0 xs=(m',-1):=by rw [eq];rfl
  rw [heq]
  exact retB5 _ _ _ _ _ (rdN_nw 0 (L:=mcA 0 m') List.mem_cons_self rfl) (rdN_nw 1 (L:=mcA 0 m') List.mem_cons_self rfl) (rdN_nw 2 (L:=mcA 0 m') List.mem_cons_self rfl) (rdN_nw 3 (L:=mcA 0 m') List.mem_cons_self rfl) (rdN_nw 4 (L:=mcA 0 m') List.mem_cons_self rfl) (plT_ok _ _ _ _ _ (m',-1))
end Go.Proofs.Ytkjeedlkkpgopaa.Z
set_option autoImplicit false
namespace Go.Proofs.Ytkjeedlkkpgopaa.Z
structure Hist (σ:Type) where
 ended:Nat→Bool
 ah:Nat→Nat→Bool
 al:σ→Nat→σ×Bool
section
variable {σ:Type} (h:Hist σ) (cand:List Nat)
def Hist.play:σ→List Nat→Option σ
 | s,[]=>some s
 | s,i :: r=>if (h.al s i).2=true then play (h.al s i).1 r else none
def Hist.whole (o:List Nat):Bool:=cand.all fun i=>!h.ended i || o.contains i
def Hist.mayW (o:List Nat) (i:Nat):Bool:=!o.contains i && cand.all fun j=>!(j != i && h.ah j i) || o.contains j
def Hist.nextR (o:List Nat) (i:Nat):Bool:=!o.contains i && o.all fun x=>!h.ah i x
def Hist.srch (nx:List Nat→Nat→Bool):Nat→List Nat→σ→List (List Nat)
 | 0,_,_=>[]
 | f+1,o,s=>(if h.whole cand o=true then [o] else [])++cand.flatMap fun i=>if (nx o i && (h.al s i).2)=true then Hist.srch nx f (o++[i]) (h.al s i).1 else []
def Hist.inTime (o:List Nat):Prop:=o.Pairwise fun a b=>h.ah b a=false
structure Hist.Expl (s0:σ) (x:List Nat):Prop where
 nodup:x.Nodup
 sub:∀ i∈x,i∈cand
 whole:h.whole cand x=true
 inTime:h.inTime x
 plays:(h.play s0 x).isSome=true
structure Hist.Pre (s0:σ) (o:List Nat) (s:σ):Prop where
 nodup:o.Nodup
 sub:∀ i∈o,i∈cand
 inTime:h.inTime o
 plays:h.play s0 o=some s
variable {h} {cand}
theorem play_append (s:σ):∀ (o t:List Nat) (s:σ),h.play s (o++t)=(h.play s o).bind fun s'=>h.play s' t
 | [],t,s=>rfl
 | i :: o,t,s=>by
  simp only [List.cons_append,Hist.play]
  split
  ·exact play_append s o t _
  ·rfl
theorem Hist.Pre.nil (s:σ):h.Pre cand s [] s:=⟨List.nodup_nil,fun i hi=>(by cases hi),List.Pairwise.nil,rfl⟩
theorem len_sub {o c:List Nat} (hn:o.Nodup) (hs:∀ i∈o,i∈c):o.length≤c.length:=by
 induction o generalizing c with
 | nil=>simp
 | cons a o ih =>
  have ha:a∈c:=hs a (by simp)
  have hn':=List.nodup_cons.1 hn
  have:=ih (c:=c.erase a) hn'.2 fun i hi=>by
   have hne:i≠a:=fun e=>hn'.1 (e ▸ hi)
   exact (List.mem_erase_of_ne hne).2 (hs i (by simp [hi]))
  rw [List.length_erase_of_mem ha] at this
  have:0<c.length:=List.length_pos_of_mem ha
  simp only [List.length_cons]
  omega
theorem pre_len {s0 s:σ} {o:List Nat} (p:h.Pre cand s0 o s):o.length≤cand.length:=len_sub p.nodup p.sub
theorem nextR_iff {o:List Nat} {i:Nat}:h.nextR o i=true↔i ∉ o∧∀ x∈o,h.ah i x=false:=by
 simp [Hist.nextR,List.all_eq_true]
theorem mayW_iff {o:List Nat} {i:Nat}:h.mayW cand o i=true↔i ∉ o∧∀ j∈cand,j≠i→h.ah j i=true→j∈o:=by
 simp only [Hist.mayW,Bool.and_eq_true,Bool.not_eq_true',List.contains_eq_mem,decide_eq_false_iff_not,List.all_eq_true,Bool.or_eq_true,Bool.and_eq_false_iff,bne_eq_false_iff_eq,decide_eq_true_eq]
 constructor
 ·rintro ⟨h1,h2⟩
  refine ⟨h1,fun j hj hne ha=>?_⟩
  rcases h2 j hj with h3 | h3
  ·rcases h3 with h3 | h3
   ·exact absurd h3 hne
   ·rw [ha] at h3;cases h3
  ·exact h3
 ·rintro ⟨h1,h2⟩
  refine ⟨h1,fun j hj=>?_⟩
  by_cases hne:j=i
  ·exact Or.inl (Or.inl hne)
  ·cases ha:h.ah j i with
   | false=>exact Or.inl (Or.inr rfl)
   | true=>exact Or.inr (h2 j hj hne ha)
theorem whole_iff {o:List Nat}:h.whole cand o=true↔∀ i∈cand,h.ended i=true→i∈o:=by
 simp only [Hist.whole,List.all_eq_true,Bool.or_eq_true,Bool.not_eq_true',List.contains_eq_mem,decide_eq_true_eq]
 constructor
 ·intro h1 i hi he
  rcases h1 i hi with h2 | h2
  ·rw [he] at h2;cases h2
  ·exact h2
 ·intro h1 i hi
  cases he:h.ended i with
  | false=>exact Or.inl rfl
  | true=>exact Or.inr (h1 i hi he)
theorem Hist.Pre.step {s0 s:σ} {o:List Nat} {i:Nat} (p:h.Pre cand s0 o s) (hi:i∈cand) (hn:h.nextR o i=true) (ha:(h.al s i).2=true):h.Pre cand s0 (o++[i]) (h.al s i).1:=by
 obtain ⟨h1,h2⟩:=nextR_iff.1 hn
 refine ⟨?_,?_,?_,?_⟩
 ·rw [List.nodup_append]
  refine ⟨p.nodup,by simp,fun a ha b hb=>?_⟩
  rw [List.mem_singleton] at hb
  exact fun e=>h1 (by rw [← hb,← e];exact ha)
 ·intro a ha
  rcases List.mem_append.1 ha with ha | ha
  ·exact p.sub a ha
  ·rw [List.mem_singleton] at ha;exact ha ▸ hi
 ·unfold Hist.inTime
  rw [List.pairwise_append]
  refine ⟨p.inTime,by simp,fun a ha b hb=>?_⟩
  rw [List.mem_singleton] at hb
  rw [hb];exact h2 a ha
 ·rw [play_append s,p.plays]
  simp [Hist.play,ha]
theorem expl_next {s0 s:σ} {o t:List Nat} {i:Nat} (p:h.Pre cand s0 o s) (hx:h.Expl cand s0 (o++i :: t)):i∈cand∧h.nextR o i=true∧(h.al s i).2=true:=by
 refine ⟨hx.sub i (by simp),nextR_iff.2 ⟨fun hm=>?_,fun x hm=>?_⟩,?_⟩
 ·have:=hx.nodup
  rw [List.nodup_append] at this
  exact this.2.2 i hm i (by simp) rfl
 ·have:=hx.inTime
  unfold Hist.inTime at this
  rw [List.pairwise_append] at this
  exact this.2.2 x hm i (by simp)
 ·have:=hx.plays
  rw [play_append s,p.plays] at this
  simp only [Option.bind_some,Hist.play] at this
  split at this
  ·assumption
  ·cases this
theorem mem_srchR {s0:σ}:∀ (f:Nat) (o:List Nat) (s:σ),h.Pre cand s0 o s→cand.length+1≤f+o.length→∀ x,x∈h.srch cand h.nextR f o s↔h.Expl cand s0 x∧o <+: x
 | 0,o,s,p,hf,x=>by have:=pre_len p;omega
 | f + 1,o,s,p,hf,x=>by
  simp only [Hist.srch,List.mem_append,List.mem_flatMap]
  constructor
  ·rintro (hx | ⟨i,hi,hx⟩)
   ·split at hx
    ·next hw =>
     rw [List.mem_singleton] at hx
     subst hx
     exact ⟨⟨p.nodup,p.sub,hw,p.inTime,by rw [p.plays];rfl⟩,List.prefix_refl _⟩
    ·cases hx
   ·split at hx
    ·next hc =>
     simp only [Bool.and_eq_true] at hc
     obtain ⟨h1,h2⟩:=(mem_srchR f _ _ (p.step hi hc.1 hc.2) (by simp only [List.length_append,List.length_singleton];omega) x).1 hx
     exact ⟨h1,(List.prefix_append _ _).trans h2⟩
    ·cases hx
  ·rintro ⟨hx,t,rfl⟩
   cases t with
   | nil =>
    left
    rw [List.append_nil] at hx ⊢
    rw [if_pos hx.whole]
    simp
   | cons i t =>
    right
    obtain ⟨h1,h2,h3⟩:=expl_next p hx
    refine ⟨i,h1,?_⟩
    rw [if_pos (by rw [h2,h3];rfl)]
    exact (mem_srchR f _ _ (p.step h1 h2 h3) (by simp only [List.length_append,List.length_singleton];omega) _).2 ⟨hx,t,by simp⟩
def Hist.Closed (h:Hist σ) (cand o:List Nat):Prop:=∀ i∈o,∀ j∈cand,j≠i→h.ah j i=true→j∈o
theorem srch_eq {s0:σ} (he:∀ i j,h.ah i j=true→h.ended i=true):∀ (f:Nat) (o:List Nat) (s:σ),h.Pre cand s0 o s→h.Closed cand o→cand.length+1≤f+o.length→h.srch cand (h.mayW cand) f o s=h.srch cand h.nextR f o s
 | 0,o,s,p,hc,hf=>rfl
 | f + 1,o,s,p,hc,hf=>by
  simp only [Hist.srch]
  congr 1
  refine congrArg List.flatten (List.map_congr_left fun i hi=>?_)
  by_cases hal:(h.al s i).2=true
  ·by_cases hw:h.mayW cand o i=true
   ·obtain ⟨h1,h2⟩:=mayW_iff.1 hw
    have hn:h.nextR o i=true:=nextR_iff.2 ⟨h1,fun x hx=>by
     cases ha:h.ah i x with
     | false=>rfl
     | true=>exact absurd (hc x hx i hi (fun e=>h1 (e ▸ hx)) ha) h1⟩
    rw [if_pos (by rw [hw,hal];rfl),if_pos (by rw [hn,hal];rfl)]
    refine srch_eq he f _ _ (p.step hi hn hal) ?_ (by simp only [List.length_append,List.length_singleton];omega)
    intro a ha j hj hne haj
    rcases List.mem_append.1 ha with ha | ha
    ·exact List.mem_append_left _ (hc a ha j hj hne haj)
    ·rw [List.mem_singleton] at ha
     subst ha
     exact List.mem_append_left _ (h2 j hj hne haj)
   ·rw [if_neg (by simp [hw])]
    by_cases hn:h.nextR o i=true
    ·rw [if_pos (by rw [hn,hal];rfl)]
     symm
     rw [List.eq_nil_iff_forall_not_mem]
     intro x hx
     obtain ⟨hx1,t,rfl⟩:=(mem_srchR f _ _ (p.step hi hn hal) (by simp only [List.length_append,List.length_singleton];omega) x).1 hx
     refine hw (mayW_iff.2 ⟨(nextR_iff.1 hn).1,fun j hj hne ha=>?_⟩)
     have hm:=whole_iff.1 hx1.whole j hj (he j i ha)
     have ht:=hx1.inTime
     unfold Hist.inTime at ht
     rw [List.append_assoc,List.pairwise_append,List.singleton_append,List.pairwise_cons] at ht
     rw [List.append_assoc,List.singleton_append] at hm
     rcases List.mem_append.1 hm with hm | hm
     ·exact hm
     ·rcases List.mem_cons.1 hm with hm | hm
      ·exact absurd hm hne
      ·have:=ht.2.1.1 j hm
       rw [ha] at this;cases this
    ·rw [if_neg (by simp [hn])]
  ·rw [if_neg (by simp [hal]),if_neg (by simp [hal])]
def Hist.via (h:Hist σ) (nm:Nat→Nat):Hist σ:=⟨fun i=>h.ended (nm i),fun i j=>h.ah (nm i) (nm j),fun s i=>h.al s (nm i)⟩
theorem all_congr {α:Type} {p q:α→Bool} {l:List α} (h:∀ x∈l,p x=q x):l.all p=l.all q:=by
 induction l with
 | nil=>rfl
 | cons a l ih=>simp only [List.all_cons];rw [h a (by simp),ih fun x hx=>h x (by simp [hx])]
end
section
variable {σ:Type} {h:Hist σ} {cand:List Nat}
theorem len_sub' {α:Type} [BEq α] [LawfulBEq α] {o c:List α} (hn:o.Nodup) (hs:∀ i∈o,i∈c):o.length≤c.length:=by
 induction o generalizing c with
 | nil=>simp
 | cons a o ih =>
  have ha:a∈c:=hs a (by simp)
  have hn':=List.nodup_cons.1 hn
  have:=ih (c:=c.erase a) hn'.2 fun i hi=>by
   have hne:i≠a:=fun e=>hn'.1 (e ▸ hi)
   exact (List.mem_erase_of_ne hne).2 (hs i (by simp [hi]))
  rw [List.length_erase_of_mem ha] at this
  have:0<c.length:=List.length_pos_of_mem ha
  simp only [List.length_cons]
  omega
structure Apart (h:Hist σ) {τ:Type} (ob:Nat→Nat) (pr:Nat→σ→τ):Prop where
 own:∀ s t i,pr (ob i) s=pr (ob i) t→(h.al s i).2=(h.al t i).2∧pr (ob i) (h.al s i).1=pr (ob i) (h.al t i).1
 other:∀ s i k,(h.al s i).2=true→k≠ob i→pr k (h.al s i).1=pr k s
end
abbrev Mem:=List Int→Option Int
def pic (o:List Nat):List Int:=(List.range 8).map fun k=>if k<o.length then ((o.getD k 0:Nat):Int)+1 else 0
theorem pic_at (o:List Nat) {k:Nat} (hk:k<8):(pic o).getD k 0=if k<o.length then ((o.getD k 0:Nat):Int)+1 else 0:=by
 unfold pic
 rw [List.getD_eq_getElem?_getD,List.getElem?_map,List.getElem?_range hk]
 rfl
theorem pic_inj {o o' : List Nat} (h1:o.length≤8) (h2:o'.length≤8) (h:pic o=pic o'):o=o':=by
 have key:∀ k,k<8→(if k<o.length then ((o.getD k 0:Nat):Int)+1 else 0)=if k<o'.length then ((o'.getD k 0:Nat):Int)+1 else 0:=fun k hk=>by
  rw [← pic_at o hk,← pic_at o' hk,h]
 have hl:o.length=o'.length:=by
  rcases Nat.lt_trichotomy o.length o'.length with g | g | g
  ·have:=key o.length (by omega)
   rw [if_neg (by omega),if_pos g] at this
   omega
  ·exact g
  ·have:=key o'.length (by omega)
   rw [if_pos g,if_neg (by omega)] at this
   omega
 refine List.ext_getElem hl fun k hk hk'=>?_
 have:=key k (by omega)
 rw [if_pos hk,if_pos hk',List.getD_eq_getElem?_getD,List.getD_eq_getElem?_getD,List.getElem?_eq_getElem hk,List.getElem?_eq_getElem hk'] at this
 simp only [Option.getD_some] at this
 omega
section
variable {σ:Type} (h:Hist σ) (cand:List Nat)
def bump (wr:Int→Int) (f:Mem) (p:List Int):Mem:=fun q=>if q=p then some (wr ((f p).getD 0+1)) else f q
def Hist.lstG (rec:List Nat→σ→Mem→Option (List Nat)×Mem) (o:List Nat) (s:σ):List Nat→Mem→Option (List Nat)×Mem
 | [],f=>(none,f)
 | i :: is,f=>if (h.mayW cand o i && (h.al s i).2)=true then
   (if (rec (o++[i]) (h.al s i).1 f).1.isSome=true then rec (o++[i]) (h.al s i).1 f else lstG rec o s is (rec (o++[i]) (h.al s i).1 f).2)
  else lstG rec o s is f
def Hist.lstF (wr:Int→Int):Nat→List Nat→σ→Mem→Option (List Nat)×Mem
 | 0,_,_,f=>(none,f)
 | k+1,o,s,f=>if h.whole cand o=true then (some o,f) else if 0<(f (pic o)).getD 0 then (none,f) else
   (if (h.lstG cand (Hist.lstF wr k) o s cand f).1.isSome=true then h.lstG cand (Hist.lstF wr k) o s cand f else (none,bump wr (h.lstG cand (Hist.lstF wr k) o s cand f).2 (pic o)))
def Hist.Inv (s0:σ) (f:Mem):Prop:=∀ o s,h.Pre cand s0 o s→h.Closed cand o→0<(f (pic o)).getD 0→∀ x,h.Expl cand s0 x→¬ o <+: x
variable {h} {cand}
theorem head_nil {α:Type} {l:List α} (h:l.head? = none):l=[]:=by cases l with
 | nil=>rfl
 | cons a l=>cases h
theorem srchW_nil {s0 s:σ} (he:∀ i j,h.ah i j=true→h.ended i=true) {k:Nat} {o:List Nat} (p:h.Pre cand s0 o s) (hc:h.Closed cand o) (hf:cand.length+1≤k+o.length):h.srch cand (h.mayW cand) k o s=[]↔∀ x,h.Expl cand s0 x→¬ o <+: x:=by
 rw [srch_eq he k o s p hc hf,List.eq_nil_iff_forall_not_mem]
 constructor
 ·intro h1 x hx ho
  exact h1 x ((mem_srchR k o s p hf x).2 ⟨hx,ho⟩)
 ·intro h1 x hx
  obtain ⟨h2,h3⟩:=(mem_srchR k o s p hf x).1 hx
  exact h1 x h2 h3
theorem mayW_step {s0 s:σ} {o:List Nat} {i:Nat} (p:h.Pre cand s0 o s) (hc:h.Closed cand o) (hi:i∈cand) (hw:h.mayW cand o i=true) (hal:(h.al s i).2=true):h.Pre cand s0 (o++[i]) (h.al s i).1∧h.Closed cand (o++[i]):=by
 obtain ⟨h1,h2⟩:=mayW_iff.1 hw
 have hn:h.nextR o i=true:=nextR_iff.2 ⟨h1,fun x hx=>by
  cases ha:h.ah i x with
  | false=>rfl
  | true=>exact absurd (hc x hx i hi (fun e=>h1 (e ▸ hx)) ha) h1⟩
 refine ⟨p.step hi hn hal,?_⟩
 intro a ha j hj hne haj
 rcases List.mem_append.1 ha with ha | ha
 ·exact List.mem_append_left _ (hc a ha j hj hne haj)
 ·rw [List.mem_singleton] at ha
  subst ha
  exact List.mem_append_left _ (h2 j hj hne haj)
theorem lstF_ok {s0:σ} (wr:Int→Int) (h8:cand.length≤8) (he:∀ i j,h.ah i j=true→h.ended i=true):∀ (k:Nat) (o:List Nat) (s:σ) (f:Mem),h.Pre cand s0 o s→h.Closed cand o→cand.length+1≤k+o.length→h.Inv cand s0 f →
  (h.lstF cand wr k o s f).1=(h.srch cand (h.mayW cand) k o s).head?∧h.Inv cand s0 (h.lstF cand wr k o s f).2
 | 0,o,s,f,p,hc,hf,hI=>by have:=pre_len p;omega
 | k + 1,o,s,f,p,hc,hf,hI=>by
  have hG:∀ (is:List Nat),(∀ i∈is,i∈cand)→∀ f,h.Inv cand s0 f →
    (h.lstG cand (h.lstF cand wr k) o s is f).1=(is.flatMap fun i=>if (h.mayW cand o i && (h.al s i).2)=true then h.srch cand (h.mayW cand) k (o++[i]) (h.al s i).1 else []).head?∧h.Inv cand s0 (h.lstG cand (h.lstF cand wr k) o s is f).2:=by
   intro is
   induction is with
   | nil=>intro _ f hI;exact ⟨rfl,hI⟩
   | cons i is ih =>
    intro hs f hI
    simp only [Hist.lstG,List.flatMap_cons]
    by_cases hcnd:(h.mayW cand o i && (h.al s i).2)=true
    ·rw [if_pos hcnd,if_pos hcnd]
     have hcnd':=hcnd
     simp only [Bool.and_eq_true] at hcnd'
     obtain ⟨g1,g2⟩:=mayW_step p hc (hs i (by simp)) hcnd'.1 hcnd'.2
     obtain ⟨r1,r2⟩:=lstF_ok wr h8 he k (o++[i]) (h.al s i).1 f g1 g2 (by simp only [List.length_append,List.length_singleton];omega) hI
     by_cases hsm:(h.lstF cand wr k (o++[i]) (h.al s i).1 f).1.isSome=true
     ·rw [if_pos hsm]
      refine ⟨?_,r2⟩
      rw [r1]
      rw [r1] at hsm
      cases hl:h.srch cand (h.mayW cand) k (o++[i]) (h.al s i).1 with
      | nil=>rw [hl] at hsm;cases hsm
      | cons a l=>rfl
     ·rw [if_neg hsm]
      have hn:h.srch cand (h.mayW cand) k (o++[i]) (h.al s i).1=[]:=by
       rw [r1] at hsm
       cases hl:h.srch cand (h.mayW cand) k (o++[i]) (h.al s i).1 with
       | nil=>rfl
       | cons a l=>rw [hl] at hsm;simp at hsm
      rw [hn,List.nil_append]
      exact ih (fun j hj=>hs j (by simp [hj])) _ r2
    ·rw [if_neg hcnd,if_neg hcnd,List.nil_append]
     exact ih (fun j hj=>hs j (by simp [hj])) _ hI
  have hnil:=srchW_nil he p hc hf
  simp only [Hist.lstF]
  by_cases hw:h.whole cand o=true
  ·rw [if_pos hw]
   refine ⟨?_,hI⟩
   simp only [Hist.srch,if_pos hw]
   rfl
  ·rw [if_neg hw]
   have hsr:h.srch cand (h.mayW cand) (k+1) o s=cand.flatMap fun i=>if (h.mayW cand o i && (h.al s i).2)=true then h.srch cand (h.mayW cand) k (o++[i]) (h.al s i).1 else []:=by
    simp only [Hist.srch,if_neg hw]
    rfl
   by_cases hv:0<(f (pic o)).getD 0
   ·rw [if_pos hv]
    refine ⟨?_,hI⟩
    rw [hnil.2 (hI o s p hc hv)]
    rfl
   ·rw [if_neg hv]
    obtain ⟨r1,r2⟩:=hG cand (fun i hi=>hi) f hI
    rw [hsr]
    by_cases hsm:(h.lstG cand (h.lstF cand wr k) o s cand f).1.isSome=true
    ·rw [if_pos hsm]
     exact ⟨r1,r2⟩
    ·rw [if_neg hsm]
     have hn:(h.lstG cand (h.lstF cand wr k) o s cand f).1=none:=by simpa using hsm
     rw [hn] at r1
     refine ⟨r1,?_⟩
     have hno:=hnil.1 (by rw [hsr];exact head_nil r1.symm)
     intro o' s' p' hc' hv' x hx
     by_cases e:pic o' = pic o
     ·have e2:o' = o:=pic_inj (Nat.le_trans (pre_len p') h8) (Nat.le_trans (pre_len p) h8) e
      rw [e2]
      exact hno x hx
     ·simp only [bump,if_neg e] at hv'
      exact r2 o' s' p' hc' hv' x hx
theorem inv_nil {s0:σ}:h.Inv cand s0 fun _=>none:=fun o s _ _ hv=>by simp at hv
end
end Go.Proofs.Ytkjeedlkkpgopaa.Z
namespace Go.Proofs.Ytkjeedlkkpgopaa.Z
open Go Go.RowKit
def cAt (xs:List Cl) (i:Int):Cl:=xs.getD i.toNat cl0
def cntB (c:Cl):Bool:=objOf c.op != 0
structure IsO (xs:List Cl) (o:List Int):Prop where
 ok:∀ n∈o,0≤n∧n<xs.length∧cntB (cAt xs n)=true
 nodup:o.Nodup
 all:∀ i:Nat,i<xs.length→cntB (xs.getD i cl0)=true→(xs.getD i cl0).fin≠-1→(i:Int)∈o
def InT (xs:List Cl) (o:List Int):Prop:=o.Pairwise fun a b=>aheadB (cAt xs b) (cAt xs a)=false
def lineO (xs:List Cl) (o:List Int):List Cl:=o.map (cAt xs)
noncomputable def pB (p:Prop):Bool:=@decide p (Classical.propDecidable _)
theorem pB_t {p:Prop}:pB p=true↔p:=by unfold pB;simp
theorem pB_f {p:Prop}:pB p=false↔¬ p:=by unfold pB;simp
noncomputable def chkE (xs:List Cl) (o:List Int):Int:=if pB (mayP xs)=true then (if pB (IsO xs o)=true then (if pB (InT xs o)=true then (if (playM mc0 0 (lineO xs o)).2 = -1 then 0 else 123) else 122) else 121) else 120
noncomputable def chkM (xs:List Cl) (o:List Int):MC:=if chkE xs o=0 then (playM mc0 0 (lineO xs o)).1 else mc0
theorem mayQ_pB (xs:List Cl):mayQ xs=pB (mayP xs):=rfl
theorem nodup_len {n:Nat}:∀ {o:List Int},o.Nodup→(∀ x∈o,0≤x∧x<n)→o.length≤n:=by
 intro o hn hs
 have h1:=len_sub' (o:=o) (c:=(List.range n).map fun (i:Nat)=>(i:Int)) hn fun i hi=>by
  obtain ⟨h1,h2⟩:=hs i hi
  exact List.mem_map.2 ⟨i.toNat,List.mem_range.2 (by omega),by omega⟩
 simpa using h1
theorem IsO.len {xs:List Cl} {o:List Int} (h:IsO xs o):o.length≤xs.length:=nodup_len h.nodup fun x hx=>⟨(h.ok x hx).1,(h.ok x hx).2.1⟩
theorem getD_mem {α:Type} {l:List α} {i:Nat} {d:α} (h:i<l.length):l.getD i d∈l:=by rw [List.getD_eq_getElem?_getD,List.getElem?_eq_getElem h];exact List.getElem_mem h
def IsO1 (xs:List Cl) (o:List Int) (i:Nat):Prop:=(∀ n∈o.take i,0≤n∧n<xs.length∧cntB (cAt xs n)=true)∧(o.take i).Nodup
def IsO2 (xs:List Cl) (o:List Int) (i:Nat):Prop:=∀ k:Nat,k<i→cntB (xs.getD k cl0)=true→(xs.getD k cl0).fin≠-1→(k:Int)∈o
theorem take_succ' {o:List Int} {i:Nat} (h:i<o.length):o.take (i+1)=o.take i++[o.getD i 0]:=by
 rw [List.take_succ_eq_append_getElem h,List.getD_eq_getElem?_getD,List.getElem?_eq_getElem h];rfl
theorem IsO1.step {xs:List Cl} {o:List Int} {i:Nat} (h:IsO1 xs o i) (hi:i<o.length) (h1:0≤o.getD i 0∧o.getD i 0<xs.length∧cntB (cAt xs (o.getD i 0))=true) (h2:o.getD i 0 ∉ o.take i):IsO1 xs o (i+1):=by
 unfold IsO1
 rw [take_succ' hi]
 refine ⟨fun n hn=>?_,?_⟩
 ·rcases List.mem_append.1 hn with hn | hn
  ·exact h.1 n hn
  ·rw [List.mem_singleton] at hn;rw [hn];exact h1
 ·rw [List.nodup_append]
  refine ⟨h.2,by simp,fun a ha b hb=>?_⟩
  rw [List.mem_singleton] at hb
  exact fun e=>h2 (by rw [← hb,← e];exact ha)
theorem IsO.fst {xs:List Cl} {o:List Int} (h:IsO xs o) {i:Nat} (hi:i<o.length):(0≤o.getD i 0∧o.getD i 0<xs.length∧cntB (cAt xs (o.getD i 0))=true)∧o.getD i 0 ∉ o.take i:=by
 refine ⟨h.ok _ (getD_mem hi),fun hm=>?_⟩
 have:=h.nodup
 rw [← List.take_append_drop (i+1) o,take_succ' hi,List.nodup_append,List.nodup_append] at this
 exact this.1.2.2 _ hm _ (by simp) rfl
def InT1 (xs:List Cl) (o:List Int) (i:Nat):Prop:=∀ a b,a<b→b<i→aheadB (cAt xs (o.getD b 0)) (cAt xs (o.getD a 0))=false
theorem inT_iff {xs:List Cl} {o:List Int}:InT xs o↔InT1 xs o o.length:=by
 unfold InT InT1
 rw [List.pairwise_iff_getElem]
 constructor
 ·intro h a b hab hb
  have:=h a b (by omega) hb hab
  rwa [List.getD_eq_getElem?_getD,List.getD_eq_getElem?_getD,List.getElem?_eq_getElem hb,List.getElem?_eq_getElem (show a<o.length by omega)]
 ·intro h a b ha hb hab
  have:=h a b hab hb
  rwa [List.getD_eq_getElem?_getD,List.getD_eq_getElem?_getD,List.getElem?_eq_getElem hb,List.getElem?_eq_getElem ha] at this
end Go.Proofs.Ytkjeedlkkpgopaa.Z
