/- DequeAloneSaid: what its proof is made of. No condition. -/
import Derived.Test.YtcloeignccpljaaPkIDequeAloneAQ
set_option linter.unusedSimpArgs false
set_option linter.unusedVariables false
namespace Go.Proofs.Ytcloeignccpljaa.Z
open Go Go.RowKit
def ir6:IR:=(.seq (.ops [⟨(some 4),(.box 23 (.t 0)),none⟩,⟨(some 7),(.box 51 (.t 3)),none⟩,⟨(some 8),(.mv (.k (.c (.v (.bool false))))),none⟩]) (.kill [0,3,5,6,8,9,10,11] (.seq (.seq (.ops [⟨(some 14),(.ld true 2 (.t 4)),none⟩,⟨(some 15),(.mv (.t 1)),none⟩,⟨(some 16),(.call 13 [(.t 14),(.t 15)]),none⟩,⟨(some 17),(.un .not (.t 16)),none⟩,⟨(some 18),(.mv (.t 17)),none⟩,⟨(some 19),(.mv (.t 1)),(some (18,false))⟩,⟨(some 20),(.len (.t 19)),(some (18,false))⟩,⟨(some 21),(.bin .gtr (.t 20) (.k (.c (.v (.int .i64 65516))))),(some (18,false))⟩,⟨(some 22),(.pick (.t 18) (.k (.c (.v (.bool true)))) (.t 21)),none⟩]) (.kill [14,15,16,17,18,19,20,21] (.cond (.t 22) (.seq (.ops [⟨(some 23),(.call 14 []),none⟩,⟨(some 8),(.mv (.t 23)),none⟩]) (.kill [1,2,4,7,22,23] .ret)) .skip))) (.kill [8,22] (.seq (.ops [⟨(some 25),(.ld true 2 (.t 4)),none⟩,⟨(some 26),(.call 20 [(.t 25)]),none⟩,⟨(some 24),(.mv (.t 26)),none⟩,⟨(some 27),(.ext 0 (.t 24)),none⟩,⟨(some 28),(.ext 1 (.t 24)),none⟩,⟨(some 9),(.mv (.t 27)),none⟩,⟨(some 10),(.mv (.t 28)),none⟩]) (.kill [24,25,26,27,28] (.seq (.seq (.ops [⟨(some 29),(.mv (.t 9)),none⟩,⟨(some 30),(.eqn 0 false (.t 29) (.k (.c (.v (.pointer none))))),none⟩,⟨(some 31),(.mv (.t 30)),none⟩,⟨(some 32),(.mv (.t 10)),(some (31,false))⟩,⟨(some 33),(.call 12 [(.t 32)]),(some (31,false))⟩,⟨(some 34),(.bin .neq (.t 33) (.k (.c (.v (.int .i64 0))))),(some (31,false))⟩,⟨(some 35),(.pick (.t 31) (.k (.c (.v (.bool true)))) (.t 34)),none⟩,⟨(some 36),(.mv (.t 35)),none⟩,⟨(some 37),(.call 14 []),(some (36,false))⟩,⟨(some 38),(.un .not (.t 37)),(some (36,false))⟩,⟨(some 39),(.pick (.t 36) (.k (.c (.v (.bool true)))) (.t 38)),none⟩]) (.kill [10,29,30,31,32,33,34,35,36,37,38] (.cond (.t 39) (.seq (.ops [⟨(some 8),(.mv (.k (.c (.v (.bool false))))),none⟩]) (.kill [1,2,4,7,9,39] .ret)) .skip))) (.kill [8,39] (.seq (.seq (.ops [⟨(some 11),(.mv (.k (.c (.v (.int .i64 0))))),none⟩]) (.blk 0 (.loop (.seq (.seq (.ops [⟨(some 40),(.mv (.t 11)),none⟩,⟨(some 41),(.mv (.t 1)),none⟩,⟨(some 42),(.len (.t 41)),none⟩,⟨(some 43),(.bin .lss (.t 40) (.t 42)),none⟩]) (.kill [40,41,42,44,45,46,47,48,49,50,51] (.cond (.t 43) .skip (.exit 0)))) (.kill [43] (.seq (.blk 1 (.ops [⟨(some 46),(.mv (.t 9)),none⟩,⟨(some 47),(.mv (.t 1)),none⟩,⟨(some 48),(.mv (.t 11)),none⟩,⟨(some 49),(.ia 4 (.t 47) (.t 48)),none⟩,⟨(some 50),(.ld true 4 (.t 49)),none⟩,⟨(some 51),(.call 23 [(.t 46),(.t 50)]),none⟩])) (.kill [46,47,48,49,50,51] (.ops [⟨(some 44),(.mv (.t 11)),none⟩,⟨(some 45),(.bin .add (.t 44) (.k (.c (.v (.int .i64 1))))),none⟩,⟨(some 11),(.mv (.t 45)),none⟩])))))))) (.kill [1,11,40,41,42,43,44,45,46,47,48,49,50,51] (.seq (.seq (.ops [⟨(some 52),(.mv (.t 2)),none⟩,⟨(some 53),(.bin .lss (.t 52) (.k (.c (.v (.int .i64 0))))),none⟩,⟨(some 54),(.mv (.t 53)),none⟩,⟨(some 55),(.mv (.t 2)),(some (54,false))⟩,⟨(some 56),(.fa 0 (.t 4)),(some (54,false))⟩,⟨(some 57),(.ld false 1 (.t 56)),(some (54,false))⟩,⟨(some 58),(.bin .geq (.t 55) (.t 57)),(some (54,false))⟩,⟨(some 59),(.pick (.t 54) (.k (.c (.v (.bool true)))) (.t 58)),none⟩]) (.kill [4,52,53,54,55,56,57,58] (.cond (.t 59) (.seq (.ops [⟨(some 60),(.mv (.t 9)),none⟩,⟨(some 61),(.mv (.t 2)),none⟩,⟨(some 62),(.call 25 [(.t 60),(.t 61)]),none⟩,⟨(some 63),(.un .not (.t 62)),none⟩,⟨(some 8),(.mv (.t 63)),none⟩]) (.kill [2,7,9,59,60,61,62,63] .ret)) .skip))) (.kill [8,59] (.seq (.seq (.ops [⟨(some 12),(.mv (.k (.c (.v (.int .i64 0))))),none⟩]) (.blk 2 (.loop (.seq (.seq (.ops [⟨(some 64),(.mv (.t 12)),none⟩,⟨(some 65),(.bin .lss (.t 64) (.k (.c (.v (.int .i64 7))))),none⟩]) (.kill [64,66,67,68,69,70,71] (.cond (.t 65) .skip (.exit 2)))) (.kill [65] (.seq (.blk 3 (.ops [⟨(some 68),(.mv (.t 9)),none⟩,⟨(some 69),(.mv (.t 2)),none⟩,⟨(some 70),(.build [(.v (.int .i64 0)),(.v (.int .i64 0)),(.v (.int .i64 0)),(.v (.int .i64 0))] [(0,(1,(.t 69)))]),none⟩,⟨(some 71),(.call 23 [(.t 68),(.t 70)]),none⟩])) (.kill [68,69,70,71] (.ops [⟨(some 66),(.mv (.t 12)),none⟩,⟨(some 67),(.bin .add (.t 66) (.k (.c (.v (.int .i64 1))))),none⟩,⟨(some 12),(.mv (.t 67)),none⟩])))))))) (.kill [12,64,65,66,67,68,69,70,71] (.seq (.seq (.ops [⟨(some 72),(.mv (.t 9)),none⟩,⟨(some 73),(.mv (.t 2)),none⟩,⟨(some 74),(.call 25 [(.t 72),(.t 73)]),none⟩]) (.kill [72,73] (.cond (.t 74) (.seq (.ops [⟨(some 8),(.mv (.k (.c (.v (.bool false))))),none⟩]) (.kill [2,7,9,74] .ret)) .skip))) (.kill [8,74] (.seq (.ops [⟨(some 75),(.mv (.t 2)),none⟩,⟨(some 76),(.fa 0 (.t 7)),none⟩,⟨none,(.st 1 (.t 76) (.t 75)),none⟩]) (.kill [75,76] (.seq (.ops [⟨(some 77),(.mv (.t 9)),none⟩,⟨(some 78),(.ld true 4 (.t 7)),none⟩,⟨(some 79),(.call 23 [(.t 77),(.t 78)]),none⟩]) (.kill [7,77,78,79] (.seq (.seq (.ops [⟨(some 13),(.mv (.k (.c (.v (.int .i64 0))))),none⟩]) (.blk 4 (.loop (.seq (.seq (.ops [⟨(some 80),(.mv (.t 13)),none⟩,⟨(some 81),(.bin .lss (.t 80) (.k (.c (.v (.int .i64 7))))),none⟩]) (.kill [80,82,83,84,85,86,87] (.cond (.t 81) .skip (.exit 4)))) (.kill [81] (.seq (.blk 5 (.ops [⟨(some 84),(.mv (.t 9)),none⟩,⟨(some 85),(.mv (.t 2)),none⟩,⟨(some 86),(.build [(.v (.int .i64 0)),(.v (.int .i64 0)),(.v (.int .i64 0)),(.v (.int .i64 0))] [(0,(1,(.t 85)))]),none⟩,⟨(some 87),(.call 23 [(.t 84),(.t 86)]),none⟩])) (.kill [84,85,86,87] (.ops [⟨(some 82),(.mv (.t 13)),none⟩,⟨(some 83),(.bin .add (.t 82) (.k (.c (.v (.int .i64 1))))),none⟩,⟨(some 13),(.mv (.t 83)),none⟩])))))))) (.kill [13,80,81,82,83,84,85,86,87] (.seq (.ops [⟨(some 88),(.mv (.t 9)),none⟩,⟨(some 89),(.mv (.t 2)),none⟩,⟨(some 90),(.call 25 [(.t 88),(.t 89)]),none⟩,⟨(some 91),(.un .not (.t 90)),none⟩,⟨(some 8),(.mv (.t 91)),none⟩]) (.kill [2,9,88,89,90,91] .ret))))))))))))))))))))))))
def rs6:List RS:=[(.t 8)]
def nt6:Nat:=92
theorem crBusy {C:Ctx} {S:St} {m:D.Pm} {th:Int} (hP:C.P=Try.prog) (hn:11≤S.nid) (h:MvZ S.own nz0 m) :
  CR C 25 [.c (.ptr (0,0,0) 0),.c (iI th)] S (List.range 11) (.c (.v (.bool (busyB m th)))) 0 (bO m) []:=by
 refine cr_own (eff:=fun _=>bO m) 11 (bO m) [] hn (plain_of ⟨trivial,trivial,trivial⟩) ?_ trivial ?_ fun E w hh=>by rw [hP];exact busy_own w E m th hh
 ·exact own_bk (by decide) h.h0 (by simp [bkM,nz0,nilP,SC.renL,SC.ren,idσ,iI]) (by simp [bkM,nz0,nilP,SC.okL,SC.okN,iI]) (own_ar (by decide) h.h5 (Nat.le_refl _) (fun e he=>seC_id (by decide) _ _) trivial)
 ·intro x b hx
  obtain ⟨F,hF,_⟩:=atN_some hx
  exact (by rw [hF];rfl:(look (bO m) x.1).isSome=true)
def moA (y:D.Mo):SV:=.agg [iI y.th,iI y.op,iI y.arg,iI y.data]
set_option maxRecDepth 100000 in
set_option maxHeartbeats 2000000 in
theorem alone_no (w:World) (v:Value) (t r thread:Int) (l:List D.Mo) (c:D.Mo) (hn:(mayD t r && decide (l.length≤65536))=false∨l.length>65516) (h:Arr w D.Mo.enc 4 v l) :
  Calls Try.prog 6 #[.agg #[.int .i64 t,.int .i64 r],v,.int .i64 thread,.agg #[.int .i64 c.th,.int .i64 c.op,.int .i64 c.arg,.int .i64 c.data]] w (RetV w (.bool true)):=by
 refine enter1 (A:=[]) (c:=ir6) (rs:=rs6) (nt:=nt6) D.mo0 D.Mo.ok h [dA t r,.c (.xv (0,0,0)),.c (iI thread),moA c] _ Try.func6 rfl (by kernel_rfl) (by kernel_rfl) rfl (fun E' h0=>by simp [dA,moA,SV.den,SC.den,h0,iI]) (of_decide_eq_true rfl) ?_
 simp (maxSteps:=2000000) only [ir6,nt6,rs6,go_sem,↓runOp,↓reduceIte,Nat.reduceLT,Nat.reduceLeDiff,Nat.reduceAdd,Nat.reduceEqDiff,reduceCtorEq,dA,moA,iI]
 cases hf:(mayD t r && decide (l.length≤65536)) with
 | false =>
  refine callV (.c (.v (.bool false))) _ (fun E=>rfl) (fun E a w' hs=>hf ▸ fits_calls w' _ t r l (arr_at (d:=D.mo0) hs 0 rfl)) ?_
  simp (maxSteps:=2000000) only [go_sem,↓condS,↓gateS,↓runOp,↓reduceIte,Nat.reduceLT,Nat.reduceEqDiff]
  refine callV (.c (.v (.bool true))) _ (fun E=>rfl) (fun E a w' hs=>awake_calls w') ?_
  simp (maxSteps:=2000000) only [go_sem,↓runOp,↓reduceIte,Nat.reduceLT,Nat.reduceEqDiff]
  exact retV fun E=>rfl
 | true =>
  have h2:l.length>65516:=by
   rcases hn with hn | hn
   ·rw [hf] at hn;cases hn
   ·exact hn
  have d1:decide ((l.length:Int)>65516)=true:=decide_eq_true (by omega)
  refine callV (.c (.v (.bool true))) _ (fun E=>rfl) (fun E a w' hs=>hf ▸ fits_calls w' _ t r l (arr_at (d:=D.mo0) hs 0 rfl)) ?_
  simp (maxSteps:=2000000) only [go_sem,↓condS,↓gateS,↓runOp,↓imp_tf,↓imp_tt,↓reduceIte,Nat.reduceLT,Nat.reduceEqDiff,d1]
  refine callV (.c (.v (.bool true))) _ (fun E=>rfl) (fun E a w' hs=>awake_calls w') ?_
  simp (maxSteps:=2000000) only [go_sem,↓runOp,↓reduceIte,Nat.reduceLT,Nat.reduceEqDiff]
  exact retV fun E=>rfl
theorem alone_run:∀ (n:Nat) (m:D.Pm) (i:Nat),D.alone m i n=D.runM m (List.replicate n ⟨i,0,0,0⟩)
 | 0,_,_=>rfl
 | n+1,m,i=>alone_run n _ i
theorem alone_succ (n:Nat) (m:D.Pm) (i:Nat):D.alone m i (n+1)=(D.moveM (D.alone m i n) ⟨i,0,0,0⟩).1:=by
 rw [alone_run,alone_run,List.replicate_succ',D.runM_app];rfl
theorem good_alone {m:D.Pm} {x:D.Rm} (h:Good m x) (i n:Nat):Good (D.alone m i n) (D.runR x (List.replicate n ⟨i,0,0,0⟩)):=by
 rw [alone_run]
 exact good_run _ h fun y hy=>by rw [(List.mem_replicate.1 hy).2];rfl
def alO (m:D.Pm) (th:Nat) (r:Int) (c:List SC):Own:=mvO nz0 m++[(8,.one (.pr (MapV (8,0,0) .i64 kitG))),(12,.one (.bk [iI th,iI r] 23)),(13,.one (.bk c 51))]
set_option maxRecDepth 100000 in
set_option maxHeartbeats 4000000 in
theorem alone_yes (w:World) (v:Value) (th:Nat) (r thread:Int) (l:List D.Mo) (c:D.Mo) (hm:mayD th r=true) (hl:l.length≤65516) (ha:∀ y∈l,D.i64 y.arg=y.arg) (hc:D.i64 c.arg=c.arg) (h:Arr w D.Mo.enc 4 v l) :
  Calls Try.prog 6 #[.agg #[.int .i64 th,.int .i64 r],v,.int .i64 thread,.agg #[.int .i64 c.th,.int .i64 c.op,.int .i64 c.arg,.int .i64 c.data]] w (RetV w (.bool true)):=by
 refine enter1 (A:=[]) (c:=ir6) (rs:=rs6) (nt:=nt6) D.mo0 D.Mo.ok h [dA th r,.c (.xv (0,0,0)),.c (iI thread),moA c] _ Try.func6 rfl (by kernel_rfl) (by kernel_rfl) rfl (fun E' h0=>by simp [dA,moA,SV.den,SC.den,h0,iI]) (of_decide_eq_true rfl) ?_
 have hmm:1≤(th:Int)∧(th:Int)≤16∧1≤r∧r≤256:=of_decide_eq_true hm
 have hf:(mayD th r && decide (l.length≤65536))=true:=by rw [hm,decide_eq_true (by omega)];rfl
 have d1:decide ((l.length:Int)>65516)=false:=decide_eq_false (by omega)
 have hz:((0:Int) != 0)=false:=rfl
 simp (maxSteps:=2000000) only [ir6,nt6,rs6,go_sem,↓runOp,↓reduceIte,Nat.reduceLT,Nat.reduceLeDiff,Nat.reduceAdd,Nat.reduceEqDiff,reduceCtorEq,dA,moA,iI]
 refine callV (.c (.v (.bool true))) _ (fun E=>rfl) (fun E a w' hs=>hf ▸ fits_calls w' _ th r l (arr_at (d:=D.mo0) hs 0 rfl)) ?_
 simp (maxSteps:=2000000) only [go_sem,↓condS,↓gateS,↓runOp,↓imp_ft,↓imp_ff,↓reduceIte,Nat.reduceLT,Nat.reduceLeDiff,Nat.reduceAdd,Nat.reduceEqDiff,d1]
 refine callN 7 ptT (newO th r) (fun E a w' hs=>new_calls w' th r hm) ?_
 simp (maxSteps:=2000000) only [go_sem,↓gateS,↓runOp,↓reduceIte,Nat.reduceLT,Nat.reduceAdd,Nat.reduceEqDiff,ptT,iI]
 refine callV (.c (.v (.int .i64 0))) _ (fun E=>rfl) (fun E a w' hs=>num_calls w' _) ?_
 simp (maxSteps:=2000000) only [go_sem,↓gateS,↓runOp,↓reduceIte,Nat.reduceLT,Nat.reduceEqDiff,hz]
 refine fork_in rfl (by simp [resAP,resA1]) ?_
 simp (maxSteps:=2000000) only [go_sem,↓runOp,↓reduceIte,Nat.reduceEqDiff]
 refine callV (.c (.v (.bool true))) _ (fun E=>rfl) (fun E a w' hs=>awake_calls w') ?_
 simp (maxSteps:=2000000) only [go_sem,↓condS,↓gateS,↓runOp,↓reduceIte,Nat.reduceLT,Nat.reduceEqDiff]
 have hG:∀ k,Good (D.runM (D.newM th r) (l.take k)) (D.runR (D.newR th r) (l.take k)):=fun k=>good_run _ (good_new (by omega) (by omega) (by omega)) fun y hy=>ha y (List.mem_of_mem_take hy)
 refine loopI (ι:={ k:Nat // k≤l.length }) (fun k=>⟨92,[(1,.c (.xv (11,0,0))),(2,.c (iI thread)),(4,.c (.ptr (12,0,0) 0)),(7,.c (.ptr (13,0,0) 0)),(9,.c (.ptr (0,0,0) 0)),(11,.c (iI k.1))],alO (D.runM (D.newM th r) (l.take k.1)) th r [iI c.th,iI c.op,iI c.arg,iI c.data],[(11,.one (arrOf D.Mo.enc 4 l D.mo0))],[],20⟩) (fun k=>l.length - k.1) ⟨0,Nat.zero_le _⟩ ?_ ?_
 ·exact le_enter th r rfl rfl rfl rfl rfl rfl rfl rfl (by simp [TmpsLe,look,SV.ren,SC.ren,idσ,SV.okN,SC.okN,iI,τE]) ⟨⟨show 11<20 by decide,arrLe_of⟩,trivial⟩ (fun own4 h4=>own_bk (show 12<20 by decide) ((h4 1 (by decide) (by decide) (by decide)).trans rfl) (by simp [SC.renL,SC.ren,iI]) (by simp [SC.okL,SC.okN,iI]) (own_bk (show 13<20 by decide) ((h4 2 (by decide) (by decide) (by decide)).trans rfl) (by simp [SC.renL,SC.ren,iI]) (by simp [SC.okL,SC.okN,iI]) trivial)) rfl
 rintro ⟨k,hk⟩
 have hGk:=hG k
 dsimp only
 generalize hMk:D.runM (D.newM th r) (l.take k)=m at hGk ⊢
 simp (maxSteps:=2000000) only [go_sem,↓condS,↓exitS,↓gateS,↓runOp,↓reduceIte,Nat.reduceLT,Nat.reduceLeDiff,Nat.reduceEqDiff,reduceCtorEq,alO,mvO,rO,mO,nz0,iI,D.Mo.enc,List.cons_append,List.nil_append]
 refine both (fun hlt=>?_) (fun hge=>?_)
 ·have hlt:k<l.length:=by simpa using hlt
  refine And.intro hlt (And.intro hlt ?_)
  refine call_intro (crMv (m:=m) (y:=l.getD k D.mo0) rfl hGk (show 11≤20 by decide) (mv_id ⟨rfl,rfl,rfl,rfl,rfl,rfl,rfl,rfl,rfl,rfl⟩) rfl) (fun i hi=>Nat.lt_of_lt_of_le (List.mem_range.1 hi) (show 11≤20 by decide)) ?_
  have hm' : (D.moveM m (l.getD k D.mo0)).1=D.runM (D.newM th r) (l.take (k+1)):=by rw [D.runM_take hlt,hMk]
  rw [hm']
  simp (maxSteps:=2000000) only [go_sem,↓runOp,↓reduceIte,Nat.reduceLT,Nat.reduceAdd,Nat.reduceEqDiff,reduceCtorEq,killO,mvO,rO,mO,List.cons_append,List.nil_append,wrI (show -9223372036854775808≤(k:Int)+1∧(k:Int)+1≤9223372036854775807 by omega)]
  refine backI ⟨k+1,hlt⟩ (by simp only;omega) ?_
  exact le_ren (zσ ⟨20,21,22,23⟩ id) rfl rfl (by simp [TmpsLe,look,SV.ren,SC.ren,idσ,SV.okN,SC.okN,zσ]) (mv_from (z:=⟨20,21,22,23⟩) (ρ:=id) (r:=[(8,.one (.pr (MapV (8,0,0) .i64 kitG))),(12,.one (.bk [iI th,iI r] 23)),(13,.one (.bk [iI c.th,iI c.op,iI c.arg,iI c.data] 51))]) (fun i hi=>(show i<20 by omega)) ⟨rfl,rfl,rfl,rfl,rfl,rfl,rfl,rfl,rfl,rfl⟩ (own_mapV (j:=8) (show 8<20 by decide) rfl rfl (by simp [kitG,SC.ren,SC.renL,idσ,zσ]) (by simp [kitG,SC.okN,SC.okL]) (own_bk (show 12<20 by decide) rfl (by simp [SC.renL,SC.ren,iI]) (by simp [SC.okL,SC.okN,iI]) (own_bk (show 13<20 by decide) rfl (by simp [SC.renL,SC.ren,iI]) (by simp [SC.okL,SC.okN,iI]) trivial)))) ⟨⟨show 11<20 by decide,arrLe_of⟩,trivial⟩ rfl
 have hge:k=l.length:=by
  have:¬ k<l.length:=by simpa using hge
  omega
 subst hge
 rw [List.take_length] at hMk
 obtain ⟨hi1,hs1,hv1⟩:=D.run_inv l (D.new_inv th r (by omega))
 rw [hMk] at hi1 hs1 hv1
 simp only [D.newM,List.length_replicate,Int.toNat_natCast,Int.zero_add] at hs1 hv1
 clear hMk
 refine both (fun hout=>?_) (fun hin=>?_)
 ·have hB:busyB m thread=false:=by
   unfold busyB
   rw [hs1]
   by_cases q:thread<0
   ·rw [decide_eq_false (show ¬ 0≤thread by omega)];rfl
   ·have q2:thread≥th:=by
     rw [decide_eq_false q] at hout
     simpa using hout
    rw [decide_eq_false (show ¬ thread<th by omega),Bool.and_false];rfl
  refine call_intro (crBusy (m:=m) (th:=thread) rfl (show 11≤20 by decide) ⟨rfl,rfl,rfl,rfl,rfl,rfl,rfl,rfl,rfl,rfl⟩) (fun i hi=>Nat.lt_of_lt_of_le (List.mem_range.1 hi) (show 11≤20 by decide)) ?_
  rw [hB]
  simp (maxSteps:=2000000) only [go_sem,↓runOp,↓reduceIte,Nat.reduceLT,Nat.reduceEqDiff,reduceCtorEq,bO]
  exact retV fun E=>rfl
 obtain ⟨i,rfl⟩:∃ i:Nat,thread=i:=⟨thread.toNat,by
  by_cases q:thread<0
  ·rw [decide_eq_true q] at hin;cases hin
  ·omega⟩
 have hi:i<th:=by
  rw [decide_eq_false (show ¬ (i:Int)<0 by omega)] at hin
  have:=of_decide_eq_false hin
  omega
 clear hin
 refine loopI (ι:={ n:Nat // n≤7 }) (fun n=>⟨92,[(2,.c (iI i)),(7,.c (.ptr (13,0,0) 0)),(9,.c (.ptr (0,0,0) 0)),(12,.c (iI n.1))],alO (D.alone m i n.1) th r [iI c.th,iI c.op,iI c.arg,iI c.data],[(11,.one (arrOf D.Mo.enc 4 l D.mo0))],[],20⟩) (fun n=>7 - n.1) ⟨0,Nat.zero_le _⟩ ?_ ?_
 ·exact le_ren (zσ nz0 id) rfl rfl (by simp [TmpsLe,look,SV.ren,SC.ren,idσ,SV.okN,SC.okN,zσ,iI]) (mv_from (z:=nz0) (ρ:=id) (r:=[(8,.one (.pr (MapV (8,0,0) .i64 kitG))),(12,.one (.bk [iI th,iI r] 23)),(13,.one (.bk [iI c.th,iI c.op,iI c.arg,iI c.data] 51))]) (fun i hi=>(show i<20 by omega)) ⟨rfl,rfl,rfl,rfl,rfl,rfl,rfl,rfl,rfl,rfl⟩ (own_mapV (j:=8) (show 8<20 by decide) rfl rfl (by simp [kitG,SC.ren,SC.renL,idσ,zσ]) (by simp [kitG,SC.okN,SC.okL]) (own_bk (show 12<20 by decide) rfl (by simp [SC.renL,SC.ren,iI]) (by simp [SC.okL,SC.okN,iI]) (own_bk (show 13<20 by decide) rfl (by simp [SC.renL,SC.ren,iI]) (by simp [SC.okL,SC.okN,iI]) trivial)))) ⟨⟨show 11<20 by decide,arrLe_of⟩,trivial⟩ rfl
 rintro ⟨n,hn⟩
 have hGn:=good_alone hGk i n
 dsimp only
 generalize hMn:D.alone m i n=m' at hGn ⊢
 simp (maxSteps:=2000000) only [go_sem,↓condS,↓exitS,↓runOp,↓reduceIte,Nat.reduceLT,Nat.reduceLeDiff,Nat.reduceAdd,Nat.reduceEqDiff,alO,mvO,rO,mO,nz0,iI,List.cons_append,List.nil_append]
 refine both (fun hlt=>?_) (fun hge=>?_)
 ·have hlt:n<7:=by
   have:=of_decide_eq_true hlt
   omega
  refine call_intro (crMv (m:=m') (y:=⟨i,0,0,0⟩) rfl hGn (show 11≤20 by decide) (mv_id ⟨rfl,rfl,rfl,rfl,rfl,rfl,rfl,rfl,rfl,rfl⟩) rfl) (fun i hi=>Nat.lt_of_lt_of_le (List.mem_range.1 hi) (show 11≤20 by decide)) ?_
  have hm' : (D.moveM m' ⟨i,0,0,0⟩).1=D.alone m i (n+1):=by rw [alone_succ,hMn]
  rw [hm']
  simp (maxSteps:=2000000) only [go_sem,↓runOp,↓reduceIte,Nat.reduceLT,Nat.reduceAdd,Nat.reduceEqDiff,reduceCtorEq,killO,mvO,rO,mO,List.cons_append,List.nil_append,wrI (show -9223372036854775808≤(n:Int)+1∧(n:Int)+1≤9223372036854775807 by omega)]
  refine backI ⟨n+1,hlt⟩ (by simp only;omega) ?_
  exact le_ren (zσ ⟨20,21,22,23⟩ id) rfl rfl (by simp [TmpsLe,look,SV.ren,SC.ren,idσ,SV.okN,SC.okN,zσ]) (mv_from (z:=⟨20,21,22,23⟩) (ρ:=id) (r:=[(8,.one (.pr (MapV (8,0,0) .i64 kitG))),(12,.one (.bk [iI th,iI r] 23)),(13,.one (.bk [iI c.th,iI c.op,iI c.arg,iI c.data] 51))]) (fun i hi=>(show i<20 by omega)) ⟨rfl,rfl,rfl,rfl,rfl,rfl,rfl,rfl,rfl,rfl⟩ (own_mapV (j:=8) (show 8<20 by decide) rfl rfl (by simp [kitG,SC.ren,SC.renL,idσ,zσ]) (by simp [kitG,SC.okN,SC.okL]) (own_bk (show 12<20 by decide) rfl (by simp [SC.renL,SC.ren,iI]) (by simp [SC.okL,SC.okN,iI]) (own_bk (show 13<20 by decide) rfl (by simp [SC.renL,SC.ren,iI]) (by simp [SC.okL,SC.okN,iI]) trivial)))) ⟨⟨show 11<20 by decide,arrLe_of⟩,trivial⟩ rfl
 have hge:n=7:=by
  have:=of_decide_eq_false hge
  omega
 subst hge
 have hB:busyB m' i=false:=by
  unfold busyB
  rw [Int.toNat_natCast,← hMn,D.alone7 hi1 (by omega) (by omega)]
  simp
 refine call_intro (crBusy (m:=m') (th:=i) rfl (show 11≤20 by decide) ⟨rfl,rfl,rfl,rfl,rfl,rfl,rfl,rfl,rfl,rfl⟩) (fun i hi=>Nat.lt_of_lt_of_le (List.mem_range.1 hi) (show 11≤20 by decide)) ?_
 rw [hB]
 simp (maxSteps:=2000000) only [go_sem,↓condS,↓runOp,↓reduceIte,Nat.reduceLT,Nat.reduceLeDiff,Nat.reduceAdd,Nat.reduceEqDiff,reduceCtorEq,bO]
 refine call_intro (crMv (m:=m') (y:=⟨i,c.op,c.arg,c.data⟩) rfl hGn (show 11≤20 by decide) (mv_id ⟨rfl,rfl,rfl,rfl,rfl,rfl,rfl,rfl,rfl,rfl⟩) rfl) (fun i hi=>Nat.lt_of_lt_of_le (List.mem_range.1 hi) (show 11≤20 by decide)) ?_
 obtain ⟨hi2,hs2,hv2⟩:=D.alone_inv 7 hi1 (i:=i)
 rw [hMn] at hi2 hs2 hv2
 obtain ⟨hi3,hs3,_⟩:=D.move_inv (x:=⟨i,c.op,c.arg,c.data⟩) hi2
 have hv3:=(D.move_mv (m:=m') (x:=⟨i,c.op,c.arg,c.data⟩)).1
 have hG2:=(good_move (y:=⟨i,c.op,c.arg,c.data⟩) hGn hc).1
 generalize (D.moveM m' ⟨i,c.op,c.arg,c.data⟩).2=bb
 generalize (D.moveM m' ⟨i,c.op,c.arg,c.data⟩).1=m2 at *
 simp (maxSteps:=2000000) only [go_sem,↓runOp,↓reduceIte,Nat.reduceLT,Nat.reduceAdd,Nat.reduceEqDiff,reduceCtorEq,killO,mvO,rO,mO,List.cons_append,List.nil_append]
 refine loopI (ι:={ n:Nat // n≤7 }) (fun n=>⟨92,[(2,.c (iI i)),(9,.c (.ptr (0,0,0) 0)),(13,.c (iI n.1))],alO (D.alone m2 i n.1) th r [iI i,iI c.op,iI c.arg,iI c.data],[(11,.one (arrOf D.Mo.enc 4 l D.mo0))],[],20⟩) (fun n=>7 - n.1) ⟨0,Nat.zero_le _⟩ ?_ ?_
 ·exact le_ren (zσ ⟨20,21,22,23⟩ id) rfl rfl (by simp [TmpsLe,look,SV.ren,SC.ren,idσ,SV.okN,SC.okN,zσ,iI]) (mv_from (z:=⟨20,21,22,23⟩) (ρ:=id) (r:=[(8,.one (.pr (MapV (8,0,0) .i64 kitG))),(12,.one (.bk [iI th,iI r] 23)),(13,.one (.bk [iI i,iI c.op,iI c.arg,iI c.data] 51))]) (fun i hi=>(show i<20 by omega)) ⟨rfl,rfl,rfl,rfl,rfl,rfl,rfl,rfl,rfl,rfl⟩ (own_mapV (j:=8) (show 8<20 by decide) rfl rfl (by simp [kitG,SC.ren,SC.renL,idσ,zσ]) (by simp [kitG,SC.okN,SC.okL]) (own_bk (show 12<20 by decide) rfl (by simp [SC.renL,SC.ren,iI]) (by simp [SC.okL,SC.okN,iI]) (own_bk (show 13<20 by decide) rfl (by simp [SC.renL,SC.ren,iI]) (by simp [SC.okL,SC.okN,iI]) trivial)))) ⟨⟨show 11<20 by decide,arrLe_of⟩,trivial⟩ rfl
 rintro ⟨n,hn⟩
 have hGn:=good_alone hG2 i n
 dsimp only
 generalize hMn:D.alone m2 i n=m4 at hGn ⊢
 simp (maxSteps:=2000000) only [go_sem,↓condS,↓exitS,↓runOp,↓reduceIte,Nat.reduceLT,Nat.reduceLeDiff,Nat.reduceAdd,Nat.reduceEqDiff,alO,mvO,rO,mO,nz0,iI,List.cons_append,List.nil_append]
 refine both (fun hlt=>?_) (fun hge=>?_)
 ·have hlt:n<7:=by
   have:=of_decide_eq_true hlt
   omega
  refine call_intro (crMv (m:=m4) (y:=⟨i,0,0,0⟩) rfl hGn (show 11≤20 by decide) (mv_id ⟨rfl,rfl,rfl,rfl,rfl,rfl,rfl,rfl,rfl,rfl⟩) rfl) (fun i hi=>Nat.lt_of_lt_of_le (List.mem_range.1 hi) (show 11≤20 by decide)) ?_
  have hm' : (D.moveM m4 ⟨i,0,0,0⟩).1=D.alone m2 i (n+1):=by rw [alone_succ,hMn]
  rw [hm']
  simp (maxSteps:=2000000) only [go_sem,↓runOp,↓reduceIte,Nat.reduceLT,Nat.reduceAdd,Nat.reduceEqDiff,reduceCtorEq,killO,mvO,rO,mO,List.cons_append,List.nil_append,wrI (show -9223372036854775808≤(n:Int)+1∧(n:Int)+1≤9223372036854775807 by omega)]
  refine backI ⟨n+1,hlt⟩ (by simp only;omega) ?_
  exact le_ren (zσ ⟨20,21,22,23⟩ id) rfl rfl (by simp [TmpsLe,look,SV.ren,SC.ren,idσ,SV.okN,SC.okN,zσ]) (mv_from (z:=⟨20,21,22,23⟩) (ρ:=id) (r:=[(8,.one (.pr (MapV (8,0,0) .i64 kitG))),(12,.one (.bk [iI th,iI r] 23)),(13,.one (.bk [iI i,iI c.op,iI c.arg,iI c.data] 51))]) (fun i hi=>(show i<20 by omega)) ⟨rfl,rfl,rfl,rfl,rfl,rfl,rfl,rfl,rfl,rfl⟩ (own_mapV (j:=8) (show 8<20 by decide) rfl rfl (by simp [kitG,SC.ren,SC.renL,idσ,zσ]) (by simp [kitG,SC.okN,SC.okL]) (own_bk (show 12<20 by decide) rfl (by simp [SC.renL,SC.ren,iI]) (by simp [SC.okL,SC.okN,iI]) (own_bk (show 13<20 by decide) rfl (by simp [SC.renL,SC.ren,iI]) (by simp [SC.okL,SC.okN,iI]) trivial)))) ⟨⟨show 11<20 by decide,arrLe_of⟩,trivial⟩ rfl
 have hge:n=7:=by
  have:=of_decide_eq_false hge
  omega
 subst hge
 have hB2:busyB m4 i=false:=by
  unfold busyB
  rw [Int.toNat_natCast,← hMn,D.alone7 hi3 (by omega) (by omega)]
  simp
 refine call_intro (crBusy (m:=m4) (th:=i) rfl (show 11≤20 by decide) ⟨rfl,rfl,rfl,rfl,rfl,rfl,rfl,rfl,rfl,rfl⟩) (fun i hi=>Nat.lt_of_lt_of_le (List.mem_range.1 hi) (show 11≤20 by decide)) ?_
 rw [hB2]
 simp (maxSteps:=2000000) only [go_sem,↓runOp,↓reduceIte,Nat.reduceLT,Nat.reduceEqDiff,reduceCtorEq,bO]
 exact retV fun E=>rfl
theorem alone_walk (w:World) (v:Value) (t r thread:Int) (l:List D.Mo) (c:D.Mo) (ha:∀ y∈l,D.i64 y.arg=y.arg) (hc:D.i64 c.arg=c.arg) (h:Arr w D.Mo.enc 4 v l) :
  Calls Try.prog 6 #[.agg #[.int .i64 t,.int .i64 r],v,.int .i64 thread,.agg #[.int .i64 c.th,.int .i64 c.op,.int .i64 c.arg,.int .i64 c.data]] w (RetV w (.bool true)):=by
 by_cases hl:l.length>65516
 ·exact alone_no w v t r thread l c (Or.inr hl) h
 cases hm:mayD t r with
 | false=>exact alone_no w v t r thread l c (Or.inl (by rw [hm];rfl)) h
 | true =>
  have hmm:1≤t∧t≤16∧1≤r∧r≤256:=of_decide_eq_true hm
  obtain ⟨th,rfl⟩:∃ th:Nat,t=th:=⟨t.toNat,by omega⟩
  exact alone_yes w v th r thread l c hm (by omega) ha hc h
end Go.Proofs.Ytcloeignccpljaa.Z
namespace Go.Proofs.Ytcloeignccpljaa.Z
open Go Go.RowKit Go.ChangeShapes Go.WideShapes Go.ChangeAt
theorem own:ownKnob Try.prog.godebug=none:=by kernel_rfl
theorem laidOut:laidOutB Try.prog=true:=by kernel_rfl
theorem leavesDq:leavesIn Try.prog 9 23=some [3,3]:=by kernel_rfl
theorem cellsDq:Try.prog.cellsOf 23=2:=by kernel_rfl
theorem leavesMo:leavesIn Try.prog 9 51=some [3,49,3,3]:=by kernel_rfl
theorem leavesMos:leavesIn Try.prog 9 34=some [34]:=by kernel_rfl
theorem cellsMo:Try.prog.cellsOf 51=4:=by kernel_rfl
theorem bytesMo:Try.prog.bytesOf 51=32:=by kernel_rfl
theorem lit_rng {n:Int} (h:(Lit.int .i64 n).wf=true) : -9223372036854775808≤n∧n≤9223372036854775807:=by
 simp [Lit.wf,IntKind.min,IntKind.max,IntKind.signed,IntKind.bits] at h
 omega
section
variable {H:Type} {enc:TypeId×Value→H} {w:World}
set_option maxRecDepth 100000 in
theorem open_dq {base:Nat} {v:Value} {d:DataW H} {p:List MemPlace} (hv:Value.okWide Try.prog w .any base 23 v) (h:DataW.Trod enc Try.prog w 0 (fun _=>true) true 23 v d p) :
  ∃ a b,v = .agg #[.int .i64 a,.int .i64 b]:=by
 obtain ⟨cs,rfl,hsz⟩:=okWide_struct Try.underlying23 hv
 obtain ⟨l⟩:=cs
 obtain ⟨fuel,hf⟩:=h
 match l,hsz.trans cellsDq with
 | [c0,c1],_ =>
  have L:=leaf_of 9 _ _ leavesDq fuel _ _ hf
  obtain ⟨t,rfl,_⟩:=(L 0 3 c0 rfl rfl).int Try.underlying3
  obtain ⟨o,rfl,_⟩:=(L 1 3 c1 rfl rfl).int Try.underlying3
  exact ⟨t,o,rfl⟩
set_option maxRecDepth 100000 in
theorem open_mo {base:Nat} {v:Value} {d:DataW H} {p:List MemPlace} (hv:Value.okWide Try.prog w .any base 51 v) (h:DataW.Trod enc Try.prog w 0 (fun _=>true) true 51 v d p) :
  ∃ c:D.Mo,v = .agg #[.int .i64 c.th,.int .i64 c.op,.int .i64 c.arg,.int .i64 c.data]∧D.i64 c.arg=c.arg:=by
 obtain ⟨cs,rfl,hsz⟩:=okWide_struct Try.underlying51 hv
 obtain ⟨l⟩:=cs
 obtain ⟨fuel,hf⟩:=h
 match l,hsz.trans cellsMo with
 | [c0,c1,c2,c3],_ =>
  have L:=leaf_of 9 _ _ leavesMo fuel _ _ hf
  obtain ⟨x0,rfl,_⟩:=(L 0 3 c0 rfl rfl).int Try.underlying3
  obtain ⟨x1,rfl,_⟩:=(L 1 49 c1 rfl rfl).int Try.underlying49
  obtain ⟨x2,rfl,r2⟩:=(L 2 3 c2 rfl rfl).int Try.underlying3
  obtain ⟨x3,rfl,_⟩:=(L 3 3 c3 rfl rfl).int Try.underlying3
  exact ⟨⟨x0,x1,x2,x3⟩,rfl,D.i64_id (lit_rng r2).1 (Int.lt_of_le_of_lt (lit_rng r2).2 (by decide))⟩
theorem leaf_mos {b:Nat} {ws:List Nat} {c:Value} (h:LeafAt enc Try.prog w 0 (fun _=>true) true b ws 34 c) :
  ∃ xs:List D.Mo,Arr w D.Mo.enc 4 c xs∧(∀ c∈xs,D.i64 c.arg=c.arg)∧xs.length+1≤b∧(xs=[]∨∃ k∈ws,xs.length * 32≤k):=by
 obtain ⟨xs,h1,h4,h2,h3⟩:=h.slice (α:=D.Mo) Try.underlying34 (by decide) cellsMo D.Mo.enc (fun c=>D.i64 c.arg=c.arg) (fun m cs y hl ht=>by
  match cs,hl with
  | [c0,c1,c2,c3],_ =>
   have L:=leaf_of 9 _ _ leavesMo m _ _ ht
   obtain ⟨x0,rfl,_⟩:=(L 0 _ c0 rfl rfl).int Try.underlying3
   obtain ⟨x1,rfl,_⟩:=(L 1 _ c1 rfl rfl).int Try.underlying49
   obtain ⟨x2,rfl,r2⟩:=(L 2 _ c2 rfl rfl).int Try.underlying3
   obtain ⟨x3,rfl,_⟩:=(L 3 _ c3 rfl rfl).int Try.underlying3
   exact ⟨⟨x0,x1,x2,x3⟩,rfl,D.i64_id (lit_rng r2).1 (Int.lt_of_le_of_lt (lit_rng r2).2 (by decide))⟩)
 rw [bytesMo] at h3
 exact ⟨xs,h1,h4,h2,h3⟩
set_option maxRecDepth 100000 in
theorem open_mos {base:Nat} {v:Value} {d:DataW H} {p:List MemPlace} (hv:Value.okWide Try.prog w .any base 34 v) (h:DataW.Trod enc Try.prog w 0 (fun _=>true) true 34 v d p) :
  ∃ xs:List D.Mo,Arr w D.Mo.enc 4 v xs∧(∀ c∈xs,D.i64 c.arg=c.arg):=by
 obtain ⟨ba,len,cap,rfl⟩:=okWide_slice Try.underlying34 hv
 obtain ⟨fuel,hf⟩:=h
 obtain ⟨xs,h1,h4,_,_⟩:=leaf_mos (leaf_of 9 _ _ leavesMos fuel _ _ hf 0 34 _ rfl rfl)
 exact ⟨xs,h1,h4⟩
end
end Go.Proofs.Ytcloeignccpljaa.Z
