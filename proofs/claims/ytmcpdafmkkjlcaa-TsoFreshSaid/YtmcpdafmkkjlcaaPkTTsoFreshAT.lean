/- TsoFreshSaid: what its proof is made of. No condition. -/
import Derived.Test.YtmcpdafmkkjlcaaPkTTsoFreshAS
set_option linter.unusedSimpArgs false
set_option linter.unusedVariables false
namespace Go.Proofs.Ytmcpdafmkkjlcaa.Z
open Go Go.RowKit
def frG (L:Lt) (c d:Nat):Own:=(4,.one (.ar (beginS L).words.length 1 (a7 (beginS L).words c) 3)) :: (6,.one (.ar (beginS L).places.length 1 (a7 (beginS L).places d) 3)) :: (3,.one (.bk [.xv (0,0,0),.xv (1,0,0)] 25)) ::
 (9,.one (.bk (stC 4 (beginS L)) 32)) :: (15,.one (.bk (stC 10 (beginS L)) 32)) :: stO 10 (beginS L)
theorem frG_le {own:Own} {L:Lt} {c d:Nat} {f10 f12:Nat→List SC} (h10:look own 4=some (.one (.ar (beginS L).words.length 1 f10 3))) (h12:look own 6=some (.one (.ar (beginS L).places.length 1 f12 3)))
  (e10:∀ e,e<(beginS L).words.length→f10 e=a7 (beginS L).words c e) (e12:∀ e,e<(beginS L).places.length→f12 e=a7 (beginS L).places d e)
  (h3:look own 3=look (frG L c d) 3) (h15:look own 9=look (frG L c d) 9) (h21:look own 15=look (frG L c d) 15)
  (h16:look own 10=look (frG L c d) 10) (h17:look own 11=look (frG L c d) 11) (h18:look own 12=look (frG L c d) 12) (h19:look own 13=look (frG L c d) 13) (h20:look own 14=look (frG L c d) 14):OwnLe (· < 16) (idσ id) own (frG L c d):=by
 simp only [frG,stO,look,Nat.reduceEqDiff,Nat.reduceAdd,reduceIte] at h3 h15 h16 h17 h18 h19 h20 h21
 refine ⟨⟨show 4<16 by decide,?_⟩,⟨show 6<16 by decide,?_⟩,?_⟩
 ·simp only [atN,idσ,id,h10,Fm.get,and_self,if_true]
  exact ar_le fun e he=>by rw [e10 e he];exact ⟨by simp [a7,SC.renL,SC.ren],by simp [a7,SC.okL,SC.okN]⟩
 ·simp only [atN,idσ,id,h12,Fm.get,and_self,if_true]
  exact ar_le fun e he=>by rw [e12 e he];exact ⟨by simp [a7,SC.renL,SC.ren],by simp [a7,SC.okL,SC.okN]⟩
 ·simp +contextual [stO,stC,bfC,bfO,OwnLe,BlkLeO,BlkLe,atN,Fm.get,idσ,SC.renL,SC.ren,SC.okL,SC.okN,ren_ats,ok_ats,h3,h15,h16,h17,h18,h19,h20,h21]
set_option maxRecDepth 100000 in
set_option maxHeartbeats 4000000 in
theorem fresh_none (w:World) (v:Value) (L:Lt) (o x:Int) (hok:LtOk L) (hL:checkB L=true) (hx:x≠0) (hfi:∀ w' v',LtR w' v' L→Calls Try.prog 26 #[v',.int .i64 o] w' (RetV w' (.tuple #[.slice none 0 0,.int .i64 x])))
  (hfr:∀ w' v',LtR w' v' L→Calls Try.prog 27 #[v',.int .i64 o] w' (RetV w' (.tuple #[.slice none 0 0,.int .i64 x]))) (h:LtR w v L):Calls Try.prog 6 #[v,.int .i64 o] w (RetV w (.bool true)):=by
 refine enterLt (A:=[]) (c:=ir6) (rs:=rs6) (nt:=nt6) h [.agg (ltS 0),.c (.v (.int .i64 o))] _ Try.func6 rfl (by kernel_rfl) (by kernel_rfl) rfl (fun E' h0=>by simp only [List.map_cons,List.map_nil,h0];rfl) (of_decide_eq_true rfl) ?_
 simp (maxSteps:=2000000) only [ir6,nt6,rs6,go_sem,↓runOp,↓reduceIte,Nat.reduceLT,Nat.reduceAdd,Nat.reduceEqDiff,reduceCtorEq,ltA,ltS]
 refine callV (.c (.v (.bool true))) _ (fun E=>rfl) (fun E a w' hs=>awake_calls w') ?_
 simp (maxSteps:=2000000) only [go_sem,↓condS,↓runOp,↓reduceIte,Nat.reduceLT,Nat.reduceLeDiff,Nat.reduceAdd,Nat.reduceEqDiff]
 refine callV (nilF x) _ (nilF_den _) (fun E a w' hs=>hfi w' _ (ltL_at hs rfl rfl rfl)) ?_
 simp (maxSteps:=2000000) only [go_sem,↓runOp,↓reduceIte,Nat.reduceLT,Nat.reduceLeDiff,Nat.reduceAdd,Nat.reduceEqDiff,nilF]
 refine callV (nilF x) _ (nilF_den _) (fun E a w' hs=>hfi w' _ (ltL_at hs rfl rfl rfl)) ?_
 simp (maxSteps:=2000000) only [go_sem,↓runOp,↓reduceIte,Nat.reduceLT,Nat.reduceLeDiff,Nat.reduceAdd,Nat.reduceEqDiff,nilF]
 refine callN 5 (bgT L) (fun b=>stO b (beginS L)) (fun E a w' hs=>begin_calls w' _ L hL hok (ltL_at hs rfl rfl rfl)) ?_
 simp (maxSteps:=2000000) only [go_sem,↓runOp,↓reduceIte,Nat.reduceLT,Nat.reduceLeDiff,Nat.reduceAdd,Nat.reduceEqDiff,bgT,stO,stC]
 refine callN 5 (bgT L) (fun b=>stO b (beginS L)) (fun E a w' hs=>begin_calls w' _ L hL hok (ltL_at hs rfl rfl rfl)) ?_
 simp (maxSteps:=2000000) only [go_sem,↓gateS,↓runOp,↓imp_tt,↓reduceIte,Nat.reduceLT,Nat.reduceLeDiff,Nat.reduceAdd,Nat.reduceEqDiff,bgT,stO,stC,bne_self_eq_false]
 refine guardW (.c (.v (.bool true))) _ (fun E=>rfl) (fun E a w' hs=>sfinalsD_calls w' _ _ [] [] (fns_nil w') (fns_nil w')) ?_
 simp (maxSteps:=2000000) only [go_sem,↓gateS,↓runOp,↓imp_tt,↓reduceIte,Nat.reduceLT,Nat.reduceLeDiff,Nat.reduceAdd,Nat.reduceEqDiff]
 refine guardW (.c (.v (.bool true))) _ (fun E=>rfl) (fun E a w' hs=>sstate_calls w' _ _ (beginS L) (st_own hs 4 rfl rfl rfl rfl rfl) (st_own hs 10 rfl rfl rfl rfl rfl)) ?_
 simp (maxSteps:=2000000) only [go_sem,↓condS,↓gateS,↓runOp,↓imp_ft,↓imp_tt,↓imp_ff,↓reduceIte,Nat.reduceLT,Nat.reduceEqDiff]
 refine loop_unr 1 ?_
 intro ι I μ i hb
 simp (maxSteps:=2000000) only [go_sem,↓condS,↓exitS,↓runOp,↓imp_ft,↓imp_ff,↓reduceIte,Nat.reduceLT,Nat.reduceEqDiff,Int.reduceLT]
 refine loop_unr 1 ?_
 intro ι1 I1 μ1 i1 hb1
 simp (maxSteps:=2000000) only [go_sem,↓condS,↓exitS,↓runOp,↓imp_ft,↓imp_ff,↓reduceIte,Nat.reduceLT,Nat.reduceEqDiff,Int.reduceLT]
 refine loop_unr 1 ?_
 intro ι2 I2 μ2 i2 hb2
 simp (maxSteps:=2000000) only [go_sem,↓condS,↓exitS,↓runOp,↓imp_ft,↓imp_ff,↓reduceIte,Nat.reduceLT,Nat.reduceEqDiff,Int.reduceLT]
 obtain ⟨z1,z2,z3,z4⟩:=sz_at hL
 have hbw:(beginS L).words.length≤6:=z4
 have hbp:(beginS L).places.length≤4:=by simp only [beginS,List.length_replicate];omega
 refine loopI (ι:={ j:Nat // j≤(beginS L).words.length }) (fun j=>⟨256,[(1,.c (.v (.int .i64 o))),(2,.c (.ptr (3,0,0) 0)),(6,.c (.v (.int .i64 x))),(7,.c (.v (.slice none 0 0))),(9,.c (.ptr (9,0,0) 0)),(10,.c (.v (.int .i64 0))),(11,.c (.ptr (15,0,0) 0)),(23,.c (.v (.int .i64 (j.1:Nat))))],frG L j.1 0,ltA 0 L,[],16⟩) (fun j=>(beginS L).words.length - j.1) ⟨0,by omega⟩ (le_ren id rfl rfl (by simp [TmpsLe,look,SV.ren,SC.ren,idσ,SV.okN,SC.okN]) (frG_le rfl rfl (fun e _=>by simp [ats,eI,a7]) (fun e _=>by simp [ats,eI,a7]) rfl rfl rfl rfl rfl rfl rfl rfl) (arr_ltA (p:=(· < 16)) (fun i h=>Nat.lt_trans h (show 3<16 by decide)) (fun i h=>rfl) rfl rfl rfl) rfl) ?_
 rintro ⟨j,hj⟩
 simp (maxSteps:=2000000) only [go_sem,↓condS,↓exitS,↓runOp,↓reduceIte,Nat.reduceLT,Nat.reduceLeDiff,Nat.reduceAdd,Nat.reduceEqDiff,frG,stO,stC,ltA,a7,List.cons_append,List.nil_append]
 refine both (fun hjl=>?_) (fun hjg=>?_)
 ·have hjl:j<(beginS L).words.length:=by have:=of_decide_eq_true hjl;omega
  refine And.intro ⟨hjl,Nat.le_refl _⟩ (And.intro hjl ?_)
  rw [wr_succ (n:=j) (by omega)]
  exact backI ⟨j+1,hjl⟩ (by simp only;omega) (le_ren id rfl rfl (by simp [TmpsLe,look,SV.ren,SC.ren,idσ,SV.okN,SC.okN]) (frG_le rfl rfl (fun e _=>a7_set) (fun e _=>rfl) rfl rfl rfl rfl rfl rfl rfl rfl) (arr_ltA (p:=(· < 16)) (fun i h=>Nat.lt_trans h (show 3<16 by decide)) (fun i h=>rfl) rfl rfl rfl) rfl)
 have hje:j=(beginS L).words.length:=by have:=of_decide_eq_false hjg;omega
 subst hje
 clear hjg
 refine loopI (ι:={ j:Nat // j≤(beginS L).places.length }) (fun j=>⟨256,[(1,.c (.v (.int .i64 o))),(2,.c (.ptr (3,0,0) 0)),(6,.c (.v (.int .i64 x))),(7,.c (.v (.slice none 0 0))),(9,.c (.ptr (9,0,0) 0)),(10,.c (.v (.int .i64 0))),(11,.c (.ptr (15,0,0) 0)),(24,.c (.v (.int .i64 (j.1:Nat))))],frG L (beginS L).words.length j.1,ltA 0 L,[],16⟩) (fun j=>(beginS L).places.length - j.1) ⟨0,by omega⟩ (le_ren id rfl rfl (by simp [TmpsLe,look,SV.ren,SC.ren,idσ,SV.okN,SC.okN]) (frG_le rfl rfl (fun e _=>rfl) (fun e _=>rfl) rfl rfl rfl rfl rfl rfl rfl rfl) (arr_ltA (p:=(· < 16)) (fun i h=>Nat.lt_trans h (show 3<16 by decide)) (fun i h=>rfl) rfl rfl rfl) rfl) ?_
 rintro ⟨j,hj⟩
 simp (maxSteps:=2000000) only [go_sem,↓condS,↓exitS,↓runOp,↓reduceIte,Nat.reduceLT,Nat.reduceLeDiff,Nat.reduceAdd,Nat.reduceEqDiff,frG,stO,stC,ltA,a7,List.cons_append,List.nil_append]
 refine both (fun hjl=>?_) (fun hjg=>?_)
 ·have hjl:j<(beginS L).places.length:=by have:=of_decide_eq_true hjl;omega
  refine And.intro ⟨hjl,Nat.le_refl _⟩ (And.intro hjl ?_)
  rw [wr_succ (n:=j) (by omega)]
  exact backI ⟨j+1,hjl⟩ (by simp only;omega) (le_ren id rfl rfl (by simp [TmpsLe,look,SV.ren,SC.ren,idσ,SV.okN,SC.okN]) (frG_le rfl rfl (fun e _=>rfl) (fun e _=>a7_set) rfl rfl rfl rfl rfl rfl rfl rfl) (arr_ltA (p:=(· < 16)) (fun i h=>Nat.lt_trans h (show 3<16 by decide)) (fun i h=>rfl) rfl rfl rfl) rfl)
 clear hjg
 refine callV (nilF x) _ (nilF_den _) (fun E a w' hs=>hfr w' _ (ltL_at hs rfl rfl rfl)) ?_
 simp (maxSteps:=2000000) only [go_sem,↓runOp,↓reduceIte,Nat.reduceLT,Nat.reduceLeDiff,Nat.reduceAdd,Nat.reduceEqDiff,nilF]
 refine callV (nilF x) _ (nilF_den _) (fun E a w' hs=>hfi w' _ (ltL_at hs rfl rfl rfl)) ?_
 simp (maxSteps:=2000000) only [go_sem,↓runOp,↓reduceIte,Nat.reduceLT,Nat.reduceEqDiff,nilF]
 refine draw_vc (by kernel_rfl) (mkTab_ok _ _) (of_decide_eq_true rfl) (of_decide_eq_true rfl) ?_
 repeat (first | simp (maxSteps:=2000000) only [go_sem,↓gateD,altC,↓runD,↓imp_tt,↓reduceIte,Nat.reduceLT,Nat.reduceEqDiff,beq_self_eq_true] | rw [dr_cons])
 refine Or.inl ⟨.c (.bo true),crv_retV _ _ (fun E=>rfl) (fun E a w' hs=>sfinalsD_calls w' _ _ [] [] (fns_nil w') (fns_nil w')),?_⟩
 repeat (first | simp (maxSteps:=2000000) only [go_sem,↓gateD,altC,↓runD,↓imp_tt,↓reduceIte,Nat.reduceLT,Nat.reduceEqDiff] | rw [dr_cons])
 refine Or.inl ⟨.c (.bo true),crv_retV _ _ (fun E=>rfl) (fun E a w' hs=>sfinalsD_calls w' _ _ [] [] (fns_nil w') (fns_nil w')),?_⟩
 repeat (first | simp (maxSteps:=2000000) only [go_sem,↓gateD,altC,↓runD,↓imp_tt,↓reduceIte,Nat.reduceLT,Nat.reduceEqDiff] | rw [dr_cons])
 refine Or.inl ⟨.c (.v (.int .i64 0)),crv_retV _ _ (fun E=>rfl) (fun E a w' hs=>num_calls w' _),?_⟩
 repeat (first | simp (maxSteps:=2000000) only [go_sem,↓gateD,altC,↓runD,↓imp_tt,↓reduceIte,Nat.reduceLT,Nat.reduceLeDiff,Nat.reduceAdd,Nat.reduceEqDiff] | rw [dr_cons])
 refine Or.inr (dcallN 5 (fun b=>.agg (stC b (beginS L))) (fun b=>stO b (beginS L)) (fun E a w' hs=>rbegin_calls w' _ L hL (ltL_at hs rfl rfl rfl)) ?_ ?_)
 ·simp [newOk,stO,keysL]
 repeat (first | simp (maxSteps:=2000000) only [go_sem,↓gateD,altC,↓runD,↓imp_tt,↓reduceIte,Nat.reduceLT,Nat.reduceAdd,Nat.reduceEqDiff,stO,stC] | rw [dr_cons])
 refine Or.inl ⟨.c (.bo true),crv_retV _ _ (fun E=>rfl) (fun E a w' hs=>sstate_calls w' _ _ (beginS L) (st_own hs 10 rfl rfl rfl rfl rfl) (st_own hs 16 rfl rfl rfl rfl rfl)),?_⟩
 repeat (first | simp (maxSteps:=2000000) only [go_sem,↓gateD,altC,↓runD,↓imp_tt,↓reduceIte,Nat.reduceLT,Nat.reduceEqDiff] | rw [dr_cons])
 exact retV fun E=>by simp [SV.den,SC.den]
def nilB:SV:=.tup [(true,[.v (.slice none 0 0),.v (.slice none 0 0),.v (.slice none 0 0),.v (.slice none 0 0)]),(false,[.v (.int .i64 190)])]
theorem nilB_den (E:Env):nilB.den E = .tuple #[.agg #[.slice none 0 0,.slice none 0 0,.slice none 0 0,.slice none 0 0],.int .i64 190]:=by simp [nilB,SV.den,SC.den,den1]
set_option maxRecDepth 100000 in
set_option maxHeartbeats 4000000 in
theorem fresh_bad (w:World) (v:Value) (L:Lt) (o:Int) (hok:LtOk L) (hL:checkB L=false) (h:LtR w v L):Calls Try.prog 6 #[v,.int .i64 o] w (RetV w (.bool true)):=by
 have hr:refE L o=190:=by unfold refE;rw [if_neg (by rw [hL];simp)]
 have hfi:=fun w' v' (h' : LtR w' v' L)=>ifin_err w' v' L o hok (by rw [hr];decide) h'
 have hfr:=fun w' v' (h' : LtR w' v' L)=>rfin_err w' v' L o (by rw [hr];decide) h'
 rw [hr] at hfi hfr
 refine enterLt (A:=[]) (c:=ir6) (rs:=rs6) (nt:=nt6) h [.agg (ltS 0),.c (.v (.int .i64 o))] _ Try.func6 rfl (by kernel_rfl) (by kernel_rfl) rfl (fun E' h0=>by simp only [List.map_cons,List.map_nil,h0];rfl) (of_decide_eq_true rfl) ?_
 simp (maxSteps:=2000000) only [ir6,nt6,rs6,go_sem,↓runOp,↓reduceIte,Nat.reduceLT,Nat.reduceAdd,Nat.reduceEqDiff,reduceCtorEq,ltA,ltS]
 refine callV (.c (.v (.bool true))) _ (fun E=>rfl) (fun E a w' hs=>awake_calls w') ?_
 simp (maxSteps:=2000000) only [go_sem,↓condS,↓runOp,↓reduceIte,Nat.reduceLT,Nat.reduceLeDiff,Nat.reduceAdd,Nat.reduceEqDiff]
 refine callV (nilF 190) _ (nilF_den _) (fun E a w' hs=>hfi w' _ (ltL_at hs rfl rfl rfl)) ?_
 simp (maxSteps:=2000000) only [go_sem,↓runOp,↓reduceIte,Nat.reduceLT,Nat.reduceLeDiff,Nat.reduceAdd,Nat.reduceEqDiff,nilF]
 refine callV (nilF 190) _ (nilF_den _) (fun E a w' hs=>hfi w' _ (ltL_at hs rfl rfl rfl)) ?_
 simp (maxSteps:=2000000) only [go_sem,↓runOp,↓reduceIte,Nat.reduceLT,Nat.reduceLeDiff,Nat.reduceAdd,Nat.reduceEqDiff,nilF]
 refine callV nilB _ nilB_den (fun E a w' hs=>begin_err w' _ L hL hok (ltL_at hs rfl rfl rfl)) ?_
 simp (maxSteps:=2000000) only [go_sem,↓runOp,↓reduceIte,Nat.reduceLT,Nat.reduceLeDiff,Nat.reduceAdd,Nat.reduceEqDiff,nilB]
 refine callV nilB _ nilB_den (fun E a w' hs=>begin_err w' _ L hL hok (ltL_at hs rfl rfl rfl)) ?_
 simp (maxSteps:=2000000) only [go_sem,↓gateS,↓runOp,↓imp_tt,↓reduceIte,Nat.reduceLT,Nat.reduceLeDiff,Nat.reduceAdd,Nat.reduceEqDiff,nilB,bne_self_eq_false]
 refine guardW (.c (.v (.bool true))) _ (fun E=>rfl) (fun E a w' hs=>sfinalsD_calls w' _ _ [] [] (fns_nil w') (fns_nil w')) ?_
 simp (maxSteps:=2000000) only [go_sem,↓gateS,↓runOp,↓imp_tt,↓reduceIte,Nat.reduceLT,Nat.reduceLeDiff,Nat.reduceAdd,Nat.reduceEqDiff]
 refine guardW (.c (.v (.bool true))) _ (fun E=>rfl) (fun E a w' hs=>sstate_calls w' _ _ ⟨[],[],[],[]⟩ (st_nil w') (st_nil w')) ?_
 simp (maxSteps:=2000000) only [go_sem,↓condS,↓gateS,↓runOp,↓imp_ft,↓imp_tt,↓imp_ff,↓reduceIte,Nat.reduceLT,Nat.reduceEqDiff]
 refine loop_unr 1 ?_
 intro ι I μ i hb
 simp (maxSteps:=2000000) only [go_sem,↓condS,↓exitS,↓runOp,↓imp_ft,↓imp_ff,↓reduceIte,Nat.reduceLT,Nat.reduceEqDiff,Int.reduceLT]
 refine loop_unr 1 ?_
 intro ι1 I1 μ1 i1 hb1
 simp (maxSteps:=2000000) only [go_sem,↓condS,↓exitS,↓runOp,↓imp_ft,↓imp_ff,↓reduceIte,Nat.reduceLT,Nat.reduceEqDiff,Int.reduceLT]
 refine loop_unr 1 ?_
 intro ι2 I2 μ2 i2 hb2
 simp (maxSteps:=2000000) only [go_sem,↓condS,↓exitS,↓runOp,↓imp_ft,↓imp_ff,↓reduceIte,Nat.reduceLT,Nat.reduceEqDiff,Int.reduceLT]
 refine loop_unr 1 ?_
 intro ι3 I3 μ3 i3 hb3
 simp (maxSteps:=2000000) only [go_sem,↓condS,↓exitS,↓runOp,↓imp_ft,↓imp_ff,↓reduceIte,Nat.reduceLT,Nat.reduceEqDiff,Int.reduceLT]
 refine loop_unr 1 ?_
 intro ι4 I4 μ4 i4 hb4
 simp (maxSteps:=2000000) only [go_sem,↓condS,↓exitS,↓runOp,↓imp_ft,↓imp_ff,↓reduceIte,Nat.reduceLT,Nat.reduceLeDiff,Nat.reduceAdd,Nat.reduceEqDiff,Int.reduceLT]
 refine callV (nilF 190) _ (nilF_den _) (fun E a w' hs=>hfr w' _ (ltL_at hs rfl rfl rfl)) ?_
 simp (maxSteps:=2000000) only [go_sem,↓runOp,↓reduceIte,Nat.reduceLT,Nat.reduceLeDiff,Nat.reduceAdd,Nat.reduceEqDiff,nilF]
 refine callV (nilF 190) _ (nilF_den _) (fun E a w' hs=>hfi w' _ (ltL_at hs rfl rfl rfl)) ?_
 simp (maxSteps:=2000000) only [go_sem,↓runOp,↓reduceIte,Nat.reduceLT,Nat.reduceEqDiff,nilF]
 refine draw_vc (by kernel_rfl) (mkTab_ok _ _) (of_decide_eq_true rfl) (of_decide_eq_true rfl) ?_
 repeat (first | simp (maxSteps:=2000000) only [go_sem,↓gateD,altC,↓runD,↓imp_tt,↓reduceIte,Nat.reduceLT,Nat.reduceEqDiff,beq_self_eq_true] | rw [dr_cons])
 refine Or.inl ⟨.c (.bo true),crv_retV _ _ (fun E=>rfl) (fun E a w' hs=>sfinalsD_calls w' _ _ [] [] (fns_nil w') (fns_nil w')),?_⟩
 repeat (first | simp (maxSteps:=2000000) only [go_sem,↓gateD,altC,↓runD,↓imp_tt,↓reduceIte,Nat.reduceLT,Nat.reduceEqDiff] | rw [dr_cons])
 refine Or.inl ⟨.c (.bo true),crv_retV _ _ (fun E=>rfl) (fun E a w' hs=>sfinalsD_calls w' _ _ [] [] (fns_nil w') (fns_nil w')),?_⟩
 repeat (first | simp (maxSteps:=2000000) only [go_sem,↓gateD,altC,↓runD,↓imp_tt,↓reduceIte,Nat.reduceLT,Nat.reduceEqDiff] | rw [dr_cons])
 refine Or.inl ⟨.c (.v (.int .i64 190)),crv_retV _ _ (fun E=>rfl) (fun E a w' hs=>num_calls w' _),?_⟩
 repeat (first | simp (maxSteps:=2000000) only [go_sem,↓gateD,altC,↓runD,↓imp_ft,↓imp_tt,↓reduceIte,Nat.reduceLT,Nat.reduceLeDiff,Nat.reduceAdd,Nat.reduceEqDiff,Int.reduceBNe] | rw [dr_cons])
 refine Or.inl ⟨.agg [.v (.slice none 0 0),.v (.slice none 0 0),.v (.slice none 0 0),.v (.slice none 0 0)],?_⟩
 repeat (first | simp (maxSteps:=2000000) only [go_sem,↓gateD,altC,↓runD,↓imp_ft,↓reduceIte,Nat.reduceLT,Nat.reduceEqDiff] | rw [dr_cons])
 first
  | refine ⟨.c (.bo true),?_⟩
  | refine Or.inl ⟨.c (.bo true),?_⟩
 repeat (first | simp (maxSteps:=2000000) only [go_sem,↓gateD,altC,↓runD,↓imp_tt,↓reduceIte,Nat.reduceLT,Nat.reduceEqDiff] | rw [dr_cons])
 exact retV fun E=>by simp [SV.den,SC.den]
theorem fresh_walk (w:World) (v:Value) (L:Lt) (o:Int) (hok:LtOk L) (h:LtR w v L):Calls Try.prog 6 #[v,.int .i64 o] w (RetV w (.bool true)):=by
 by_cases hL:checkB L=true
 ·by_cases ho:1≤o∧o≤3
  ·cases hb:bfs L o with
   | some l=>exact fresh_some w v L o hok hL ho hb h
   | none =>
    refine fresh_none w v L o 192 hok hL (by decide) (fun w' v' h'=>?_) (fun w' v' h'=>?_) h
    ·have:=ifin_calls w' v' L o hL ho hok h'
     unfold FinR at this
     rw [hb] at this
     exact this
    ·have:=rfin_calls w' v' L o hL ho h'
     unfold FinR at this
     rw [hb] at this
     exact this
  ·have hr:refE L o=191:=by unfold refE;rw [if_pos hL,if_neg ho]
   refine fresh_none w v L o 191 hok hL (by decide) (fun w' v' h'=>?_) (fun w' v' h'=>?_) h
   ·have:=ifin_err w' v' L o hok (by rw [hr];decide) h'
    rw [hr] at this
    exact this
   ·have:=rfin_err w' v' L o (by rw [hr];decide) h'
    rw [hr] at this
    exact this
 ·exact fresh_bad w v L o hok (by simpa using hL) h
end Go.Proofs.Ytmcpdafmkkjlcaa.Z
namespace Go.Proofs.Ytmcpdafmkkjlcaa.Z
open Go Go.RowKit Go.ChangeShapes Go.WideShapes Go.ChangeAt
theorem own:ownKnob Try.prog.godebug=none:=by kernel_rfl
theorem laidOut:laidOutB Try.prog=true:=by kernel_rfl
section
variable {H:Type} {enc:TypeId×Value→H} {P:Program} {w:World} {base:Nat} {spare:Nat→Bool} {held:Bool}
theorem leaf_sliceW {α:Type} {b:Nat} {ws:List Nat} {u e:TypeId} {c:Value} (hu:P.underlying u=some (.slice e)) {s:Nat} (hpos:0<s) (hc:P.cellsOf e=s) (encA:α→List Value) (Q:α→Prop)
  (helem:∀ (m:Nat) (cs:List Value) (y:DataW H×List MemPlace),cs.length=s→DataW.trod enc P w base spare held m e cs=some y→(∀ k∈y.1.weights P e,k∈ws)→∃ x:α,cs=encA x∧Q x)
  (h:LeafAt enc P w base spare held b ws u c):∃ xs:List α,Arr w encA s c xs∧(∀ x∈xs,Q x)∧xs.length+1≤b∧(xs=[]∨∃ k∈ws,xs.length * P.bytesOf e≤k):=by
 obtain ⟨m,y,h1,hb,hw⟩:=h
 rcases DataW.trod_slice hu h1 with ⟨hcs,rfl⟩ | ⟨a,len,cap,elems,rest,n,_,hcs,rfl,hba,hl,hm,hlen,hel,hsp,hns⟩
 ·simp only [List.cons.injEq,and_true] at hcs
  subst hcs
  refine ⟨[],Arr.nil _ _ _,by simp,?_,Or.inl rfl⟩
  simp only [Rows.uptoBulk] at hb
  simpa using hb
 ·simp only [List.cons.injEq,and_true] at hcs
  subst hcs
  have each:∀ i,i<len→∃ x:α,(∃ cs,w.cells? base (a.add (i * s)) s=some cs∧cs=encA x)∧Q x:=by
   intro i hi
   have h2:=hel i hi
   rw [List.getElem?_eq_getElem (by omega),hc] at h2
   obtain ⟨cs,h3,h4⟩:=Option.bind_eq_some_iff.1 h2
   obtain ⟨x,h5,h6⟩:=helem n cs _ (World.cells?_some h3).2.1 h4 (fun k hk=>hw k (by
    simp only [DataW.weights,hu]
    exact List.mem_cons_of_mem _ (List.mem_append_left _ (weightsAll_mem (List.mem_map.2 ⟨_,List.getElem_mem (by omega),rfl⟩) k hk))))
   exact ⟨x,⟨cs,h3,h5⟩,h6⟩
  obtain ⟨xs,hxl,hx⟩:=choose_list len each
  refine ⟨xs,?_,?_,?_,?_⟩
  ·refine ⟨some a,cap,by rw [hxl],by omega,hm,?_⟩
   by_cases h0:xs=[]
   ·exact Or.inl h0
   ·right
    by_cases hspot:a.spot=none
    ·obtain ⟨ab,ao,sp⟩:=a
     simp only at hspot
     subst hspot
     refine ⟨ab,ao,rfl,fun k x hk j u hj=>?_⟩
     obtain ⟨⟨cs,h3,rfl⟩,_⟩:=hx k x hk
     obtain ⟨_,hlc,hcell⟩:=World.cells?_some h3
     have hjs:j<s:=by rw [← hlc];exact (List.getElem?_eq_some_iff.1 hj).1
     have h4:=hcell j hjs
     rw [hj] at h4
     rw [← h4]
     congr 1
     unfold Addr.add
     split <;> split <;> simp_all
    ·exfalso
     obtain ⟨x0,hx0⟩:∃ x0,xs[0]? = some x0:=by cases xs with | nil=>exact absurd rfl h0 | cons y _=>exact ⟨y,rfl⟩
     obtain ⟨⟨cs,h3,_⟩,_⟩:=hx 0 x0 hx0
     obtain ⟨_,hlc,hcell⟩:=World.cells?_some h3
     have h4:=hcell 0 hpos
     rw [Nat.zero_mul] at h4
     have e:(a.add 0).add 0=a:=by simp [Addr.add]
     rw [e,List.getElem?_eq_getElem (by omega)] at h4
     unfold World.cell? at h4
     split at h4
     ·cases hs:a.spot with
      | none=>exact hspot hs
      | some q=>rw [hs] at h4;simp at h4
     ·cases h4
  ·intro x hx'
   obtain ⟨i,hi⟩:=List.getElem?_of_mem hx'
   exact (hx i x hi).2
  ·have h2:=length_le_bulk (elems.map (·.1))
   simp only [Rows.uptoBulk,List.length_map] at hb h2
   omega
  ·right
   refine ⟨_,hw (((elems.map (·.1)).length+(rest.map (·.1)).length) * P.bytesOf e) ?_,?_⟩
   ·simp only [DataW.weights,hu]
    exact List.mem_cons_self
   ·rw [hxl,List.length_map,hlen]
    exact Nat.mul_le_mul_right _ (by omega)
end
section
variable {H:Type} {enc:TypeId×Value→H} {w:World}
theorem reach_len {α:Type} {x:List α} {s:Nat} {ws:List Nat} (hr:∀ k∈ws,k≤reachBytes) (h:x=[]∨∃ k∈ws,x.length * s≤k):x.length * s≤140737488351232:=by
 rcases h with rfl | ⟨k,hk,h⟩
 ·simp
 ·have:=hr k hk
  unfold reachBytes at this
  omega
theorem lit_rng {n:Int} (h:(Lit.int .i64 n).wf=true) : -9223372036854775808≤n∧n≤9223372036854775807:=by
 simp [Lit.wf,IntKind.min,IntKind.max,IntKind.signed,IntKind.bits] at h
 omega
theorem leavesIs:leavesIn Try.prog 9 83=some [81,3,3,3,3,3,3]:=by kernel_rfl
theorem cellsIs:Try.prog.cellsOf 83=7:=by kernel_rfl
theorem bytesIs:Try.prog.bytesOf 83=56:=by kernel_rfl
theorem leavesLt:leavesIn Try.prog 9 25=some [22,23]:=by kernel_rfl
theorem cellsLt:Try.prog.cellsOf 25=2:=by kernel_rfl
theorem cellsI1:Try.prog.cellsOf 3=1:=by kernel_rfl
theorem bytesI1:Try.prog.bytesOf 3=8:=by kernel_rfl
theorem cellsIl:Try.prog.cellsOf 80=1:=by kernel_rfl
theorem bytesIl:Try.prog.bytesOf 80=24:=by kernel_rfl
theorem leavesIl:leavesIn Try.prog 9 80=some [80]:=by kernel_rfl
theorem leaf_ints {b:Nat} {ws:List Nat} {c:Value} (h:LeafAt enc Try.prog w 0 (fun _=>true) true b ws 22 c) :
  ∃ xs:List Int,Arr w eI 1 c xs∧(xs=[]∨∃ k∈ws,xs.length * 8≤k):=by
 obtain ⟨xs,h1,h4,h2,h3⟩:=h.slice (α:=Int) Try.underlying22 (by decide) cellsI1 eI (fun x=>True) (fun m cs y hl ht=>by
  match cs,hl with
  | [c0],_ =>
   have L:=leaf_of 9 _ _ (show leavesIn Try.prog 9 3=some [3] by kernel_rfl) m _ _ ht
   obtain ⟨x0,rfl,r0⟩:=(L 0 _ c0 rfl rfl).int Try.underlying3
   exact ⟨x0,rfl,trivial⟩)
 rw [bytesI1] at h3
 exact ⟨xs,h1,h3⟩
theorem leaf_code {b:Nat} {ws:List Nat} {c:Value} (h:LeafAt enc Try.prog w 0 (fun _=>true) true b ws 80 c) :
  ∃ xs:List Ins,Arr w Ins.enc 7 c xs∧(∀ c∈xs,InR c)∧(xs=[]∨∃ k∈ws,xs.length * 56≤k):=by
 obtain ⟨xs,h1,h4,h2,h3⟩:=h.slice (α:=Ins) Try.underlying80 (by decide) cellsIs Ins.enc InR (fun m cs y hl ht=>by
  match cs,hl with
  | [c0,c1,c2,c3,c4,c5,c6],_ =>
   have L:=leaf_of 9 _ _ leavesIs m _ _ ht
   obtain ⟨x0,rfl,_⟩:=(L 0 _ c0 rfl rfl).int Try.underlying81
   obtain ⟨x1,rfl,_⟩:=(L 1 _ c1 rfl rfl).int Try.underlying3
   obtain ⟨x2,rfl,_⟩:=(L 2 _ c2 rfl rfl).int Try.underlying3
   obtain ⟨x3,rfl,_⟩:=(L 3 _ c3 rfl rfl).int Try.underlying3
   obtain ⟨x4,rfl,r4⟩:=(L 4 _ c4 rfl rfl).int Try.underlying3
   obtain ⟨x5,rfl,_⟩:=(L 5 _ c5 rfl rfl).int Try.underlying3
   obtain ⟨x6,rfl,_⟩:=(L 6 _ c6 rfl rfl).int Try.underlying3
   exact ⟨⟨x0,x1,x2,x3,x4,x5,x6⟩,rfl,lit_rng r4⟩)
 rw [bytesIs] at h3
 exact ⟨xs,h1,h4,h3⟩
theorem leaf_codes {b:Nat} {ws:List Nat} {c:Value} (h:LeafAt enc Try.prog w 0 (fun _=>true) true b ws 23 c) :
  ∃ ls:List (List Ins),Nest w Ins.enc 7 c ls∧(∀ code∈ls,∀ c∈code,InR c)∧(ls=[]∨∃ k∈ws,ls.length * 24≤k)∧(∀ code∈ls,code=[]∨∃ k∈ws,code.length * 56≤k):=by
 obtain ⟨vs,h1,h4,_,h3⟩:=leaf_sliceW (h:=h) (α:=Value) Try.underlying23 (by decide) cellsIl one1' (fun v=>∃ is:List Ins,Arr w Ins.enc 7 v is∧(∀ c∈is,InR c)∧(is=[]∨∃ k∈ws,is.length * 56≤k)) (fun m cs y hl ht hw=>by
  match cs,hl with
  | [c0],_ =>
   have L:=leaf_of 9 _ _ leavesIl m _ _ ht
   obtain ⟨is,g1,g2,g3⟩:=leaf_code (L 0 _ c0 rfl rfl)
   exact ⟨c0,rfl,is,g1,g2,g3.imp id fun ⟨k,hk,h⟩=>⟨k,hw k hk,h⟩⟩)
 rw [bytesIl] at h3
 obtain ⟨ls,hl,hls⟩:=choose_list (R:=fun i is=>Arr w Ins.enc 7 (vs.getD i nest0) is∧(∀ c∈is,InR c)∧(is=[]∨∃ k∈ws,is.length * 56≤k)) vs.length (fun i hi=>by
  obtain ⟨is,g⟩:=h4 (vs.getD i nest0) (by rw [List.getD_eq_getElem?_getD,List.getElem?_eq_getElem hi];exact List.getElem_mem hi)
  exact ⟨is,g⟩)
 refine ⟨ls,⟨vs,h1,hl.symm,fun k hk=>?_⟩,fun code hc=>?_,?_,fun code hc=>?_⟩
 ·rw [List.getD_eq_getElem?_getD (l:=ls),List.getElem?_eq_getElem hk]
  exact (hls k _ (List.getElem?_eq_getElem hk)).1
 ·obtain ⟨i,hi⟩:=List.getElem?_of_mem hc
  exact (hls i _ hi).2.1
 ·rw [hl]
  refine h3.imp (fun e=>?_) id
  subst e
  exact List.eq_nil_of_length_eq_zero hl
 ·obtain ⟨i,hi⟩:=List.getElem?_of_mem hc
  exact (hls i _ hi).2.2
set_option maxRecDepth 100000 in
theorem open_litmus {base:Nat} {v:Value} {d:DataW H} {p:List MemPlace} (hv:Value.okWide Try.prog w .any base 25 v) (h:DataW.Trod enc Try.prog w 0 (fun _=>true) true 25 v d p) :
  ∃ L,LtR w v L∧LtOk L∧((∀ k∈d.weights Try.prog 25,k≤reachBytes)→LtSz L):=by
 obtain ⟨cs,rfl,hsz⟩:=okWide_struct Try.underlying25 hv
 obtain ⟨l⟩:=cs
 obtain ⟨fuel,hf⟩:=h
 match l,hsz.trans cellsLt with
 | [c0,c1],_ =>
  have L:=leaf_of 9 _ _ leavesLt fuel _ _ hf
  obtain ⟨xs,h1,h2⟩:=leaf_ints (L 0 22 c0 rfl rfl)
  obtain ⟨ls,g1,g2,g3,g4⟩:=leaf_codes (L 1 23 c1 rfl rfl)
  refine ⟨⟨xs,ls⟩,⟨c0,c1,rfl,h1,g1⟩,g2,fun hr=>⟨reach_len hr h2,reach_len hr g3,fun k hk=>?_⟩⟩
  have hm:ls.getD k []∈ls:=by rw [List.getD_eq_getElem?_getD,List.getElem?_eq_getElem hk];exact List.getElem_mem hk
  exact reach_len hr (g4 _ hm)
end
end Go.Proofs.Ytmcpdafmkkjlcaa.Z
