/- WitnessFindsSaid: what its proof is made of. No condition. -/
import Derived.Test.YtkjeedlkkpgopaaPkWitnessFindsAN
set_option linter.unusedSimpArgs false
set_option linter.unusedVariables false
namespace Go.Proofs.Ytkjeedlkkpgopaa.Z
open Go Go.RowKit
set_option maxRecDepth 100000 in
set_option maxHeartbeats 400000 in
theorem rmDo_ZB {w:World} {v:Value} {m:MC} (op arg data:Int) (h:Cont w v m) (hok:MC.okR m) (hm:mayB m=true) (ho:objOf op≠0) (h6:¬ (op=22∨op=23∨op=30∨op=31∨op=40∨op=41)):Calls Try.prog 83 #[v,.int .i64 op,.int .i64 arg,.int .i64 data] w (RetB w (fun _=>True) 5 (rdT (doM m op arg data)) (mcR (doM m op arg data).1)):=by
 refine enterC (A:=[]) (c:=ir83) (rs:=rs83) (nt:=nt83) h [.agg (mcS 0),.c (.v (.int .i64 op)),.c (.v (.int .i64 arg)),.c (.v (.int .i64 data))] _ Try.func83 rfl (by kernel_rfl) (by kernel_rfl) rfl (fun E' h0=>by rw [List.map_cons,h0];simp [SV.den,SC.den]) (of_decide_eq_true rfl) ?_
 simp (maxSteps:=2000000) only [ir83,nt83,rs83,go_sem,↓reduceIte,Nat.reduceLT,Nat.reduceLeDiff,Nat.reduceAdd,Nat.reduceSub,Nat.reduceMul,Nat.reduceEqDiff,reduceCtorEq,Int.reduceToNat,Int.reduceEq,Int.reduceBEq,Int.reduceBNe,Int.reduceLT,Int.reduceLE,Int.reduceNeg,Int.reduceAdd,Int.reduceSub,Int.reduceMul,Int.reduceGE,Int.reduceGT,endO,mcS,mcA]
 obtain ⟨cl,sk,qu,se,ta⟩:=m
 have hok1:=hok.1
 have hst:(sk.length+1) * 8≤140737488355328:=hok.2
 simp only [MC.ok] at hok1
 refine call_inline (c:=ir84) (rs:=rs84) (nt:=nt84) 1000 (mkTab_ok _ _) Try.func84 rfl (by kernel_rfl) (by kernel_rfl) rfl (by simp [okVs,SV.okN,SC.okL,SC.okN]) (of_decide_eq_true rfl) (fun E0 a0 ht0=>?_)
 simp (maxSteps:=2000000) only [ir84,nt84,rs84,go_sem,↓reduceIte,Nat.reduceLT,Nat.reduceLeDiff,Nat.reduceAdd,Nat.reduceSub,Nat.reduceMul,Nat.reduceEqDiff,reduceCtorEq,Int.reduceToNat,Int.reduceEq,Int.reduceBEq,Int.reduceBNe,Int.reduceLT,Int.reduceLE,Int.reduceNeg,Int.reduceAdd,Int.reduceSub,Int.reduceMul,Int.reduceGE,Int.reduceGT,endO]
 refine draw_vc (by kernel_rfl) (mkTab_ok _ _) (of_decide_eq_true rfl) (of_decide_eq_true rfl) ?_
 repeat (first | simp (maxSteps:=2000000) only [go_sem,↓reduceIte,Nat.reduceLT,Nat.reduceLeDiff,Nat.reduceAdd,Nat.reduceSub,Nat.reduceMul,Nat.reduceEqDiff,reduceCtorEq,Int.reduceToNat,Int.reduceEq,Int.reduceBEq,Int.reduceBNe,Int.reduceLT,Int.reduceLE,Int.reduceNeg,Int.reduceAdd,Int.reduceSub,Int.reduceMul,Int.reduceGE,Int.reduceGT,endO] | rw [dr_cons])
 repeat (with_reducible refine And.intro (by first | (simp only [maxLen];omega) | omega | decide | (simp;done) | (simp [maxLen];omega)) ?_)
 refine retI ht0 _ rfl (of_decide_eq_true rfl) (by simp [SV.okN,SC.okL,SC.okN,ok1L]) ?_
 simp (maxSteps:=2000000) only [go_sem,↓reduceIte,Nat.reduceLT,Nat.reduceLeDiff,Nat.reduceAdd,Nat.reduceSub,Nat.reduceMul,Nat.reduceEqDiff,reduceCtorEq,Int.reduceToNat,Int.reduceEq,Int.reduceBEq,Int.reduceBNe,Int.reduceLT,Int.reduceLE,Int.reduceNeg,Int.reduceAdd,Int.reduceSub,Int.reduceMul,Int.reduceGE,Int.reduceGT,endO,eI,eP]
 refine both (fun hop=>absurd (show op=22 by simpa using hop) (fun e=>h6 (by omega))) (fun n22=>?_)
 refine both (fun hop=>absurd (show op=23 by simpa using hop) (fun e=>h6 (by omega))) (fun n23=>?_)
 refine both (fun hop=>absurd (show op=30 by simpa using hop) (fun e=>h6 (by omega))) (fun n30=>?_)
 refine both (fun hop=>absurd (show op=31 by simpa using hop) (fun e=>h6 (by omega))) (fun n31=>?_)
 refine both (fun hop=>absurd (show op=40 by simpa using hop) (fun e=>h6 (by omega))) (fun n40=>?_)
 refine both (fun hop=>absurd (show op=41 by simpa using hop) (fun e=>h6 (by omega))) (fun n41=>?_)
 simp only [mayB,Bool.and_eq_true,decide_eq_true_eq] at hm
 obtain ⟨⟨_,hinS⟩,hinT⟩:=hm
 have hinT:incB (keys ta)=true:=hinT
 have hps:pos se arg≤se.length:=List.countP_le_length
 have hpt:pos (keys ta) arg≤ta.length:=by
  have:pos (keys ta) arg≤(keys ta).length:=List.countP_le_length
  simpa [keys] using this
 refine call_le [1,2,3,8,9] [6,7,10,11,12,13,14] [] ?_
 simp only [St.keep,keepL',go_sem,↓reduceIte,Nat.reduceLT,Nat.reduceLeDiff,Nat.reduceAdd,Nat.reduceSub,Nat.reduceMul,Nat.reduceEqDiff,reduceCtorEq,Int.reduceToNat,Int.reduceEq,Int.reduceBEq,Int.reduceBNe,Int.reduceLT,Int.reduceLE,Int.reduceNeg,Int.reduceAdd,Int.reduceSub,Int.reduceMul,Int.reduceGE,Int.reduceGT,endO]
 refine call_inline (c:=ir98) (rs:=rs98) (nt:=nt98) 1000 (mkTab_ok _ _) Try.func98 rfl (by kernel_rfl) (by kernel_rfl) rfl (by simp [okVs,SV.okN,SC.okL,SC.okN]) (of_decide_eq_true rfl) (fun E0 a0 ht0=>?_)
 simp (maxSteps:=2000000) only [ir98,nt98,rs98,go_sem,↓reduceIte,Nat.reduceLT,Nat.reduceLeDiff,Nat.reduceAdd,Nat.reduceSub,Nat.reduceMul,Nat.reduceEqDiff,reduceCtorEq,Int.reduceToNat,Int.reduceEq,Int.reduceBEq,Int.reduceBNe,Int.reduceLT,Int.reduceLE,Int.reduceNeg,Int.reduceAdd,Int.reduceSub,Int.reduceMul,Int.reduceGE,Int.reduceGT,endO]
 refine callV (.tup [(false,[.v (.int .i64 (pos se arg:Nat))]),(false,[.bo (hasB se arg)])]) _ (fun E=>rfl) (fun E a w' hs=>set_Z arg (own_at hs 13 _ rfl rfl) hinS (by omega)) ?_
 simp (maxSteps:=2000000) only [go_sem,↓reduceIte,Nat.reduceLT,Nat.reduceLeDiff,Nat.reduceAdd,Nat.reduceSub,Nat.reduceMul,Nat.reduceEqDiff,reduceCtorEq,Int.reduceToNat,Int.reduceEq,Int.reduceBEq,Int.reduceBNe,Int.reduceLT,Int.reduceLE,Int.reduceNeg,Int.reduceAdd,Int.reduceSub,Int.reduceMul,Int.reduceGE,Int.reduceGT,endO]
 refine callV (.tup [(false,[.v (.int .i64 (pos (keys ta) arg:Nat))]),(false,[.bo (hasB (keys ta) arg)])]) _ (fun E=>rfl) (fun E a w' hs=>table_Z arg (own_at hs 14 _ rfl rfl) hinT (by omega)) ?_
 simp (maxSteps:=2000000) only [go_sem,↓reduceIte,Nat.reduceLT,Nat.reduceLeDiff,Nat.reduceAdd,Nat.reduceSub,Nat.reduceMul,Nat.reduceEqDiff,reduceCtorEq,Int.reduceToNat,Int.reduceEq,Int.reduceBEq,Int.reduceBNe,Int.reduceLT,Int.reduceLE,Int.reduceNeg,Int.reduceAdd,Int.reduceSub,Int.reduceMul,Int.reduceGE,Int.reduceGT,endO,eI,eP]
 refine both (fun hop=>?_) (fun n50=>?_)
 ·have hop:op=50:=by simpa using hop
  subst hop
  refine both (fun hin=>?_) (fun hin=>?_)
  ·have hin:hasB se arg=false:=by simpa using hin
   have hd:doM ⟨cl,sk,qu,se,ta⟩ 50 arg data=(⟨cl,sk,qu,insAt se (pos se arg) arg,ta⟩,5,0):=by simp [doM,objOf,doSet,hin]
   rw [hd]
   repeat (with_reducible refine And.intro (by first | (simp only [maxLen];omega) | omega | decide | (simp;done) | (simp [maxLen];omega)) ?_)
   refine draw_vc (by kernel_rfl) (mkTab_ok _ _) (of_decide_eq_true rfl) (of_decide_eq_true rfl) ?_
   repeat (first | simp (maxSteps:=2000000) only [go_sem,↓reduceIte,Nat.reduceLT,Nat.reduceLeDiff,Nat.reduceAdd,Nat.reduceSub,Nat.reduceMul,Nat.reduceEqDiff,reduceCtorEq,Int.reduceToNat,Int.reduceEq,Int.reduceBEq,Int.reduceBNe,Int.reduceLT,Int.reduceLE,Int.reduceNeg,Int.reduceAdd,Int.reduceSub,Int.reduceMul,Int.reduceGE,Int.reduceGT,endO,eI] | rw [dr_cons])
   repeat (with_reducible refine And.intro (by first | (simp only [maxLen];omega) | omega | decide | with_reducible exact Or.inl trivial | with_reducible exact Or.inr trivial | with_reducible exact ⟨Or.inl trivial,Or.inr trivial⟩) ?_)
   refine ⟨fun hc=>?_,fun hc=>?_⟩
   ·have hc' : se.length=pos se arg:=by omega
    repeat (with_reducible refine And.intro (by first | (simp only [maxLen];omega) | omega | decide | (simp;done) | (simp [maxLen];omega)) ?_)
    refine draw_vc (by kernel_rfl) (mkTab_ok _ _) (of_decide_eq_true rfl) (of_decide_eq_true rfl) ?_
    repeat (first | simp (maxSteps:=2000000) only [go_sem,↓reduceIte,Nat.reduceLT,Nat.reduceLeDiff,Nat.reduceAdd,Nat.reduceSub,Nat.reduceMul,Nat.reduceEqDiff,reduceCtorEq,Int.reduceToNat,Int.reduceEq,Int.reduceBEq,Int.reduceBNe,Int.reduceLT,Int.reduceLE,Int.reduceNeg,Int.reduceAdd,Int.reduceSub,Int.reduceMul,Int.reduceGE,Int.reduceGT,endO,eI] | rw [dr_cons])
    repeat (with_reducible refine And.intro (by first | (simp only [maxLen];omega) | omega | decide | (simp;done) | (simp [maxLen];omega)) ?_)
    have hy:∀ w',Calls Try.prog 104 #[.bool (!hasB se arg)] w' (RetV w' (.agg #[.int .i64 5,.int .i64 0])):=fun w'=>by
     have:=yes_Z (!hasB se arg) w'
     simpa [hin] using this
    refine dcallV (.agg [.v (.int .i64 5),.v (.int .i64 0)]) _ (fun E=>rfl) (fun E a w' _=>hy w') ?_
    repeat (first | simp (maxSteps:=2000000) only [go_sem,↓reduceIte,Nat.reduceLT,Nat.reduceLeDiff,Nat.reduceAdd,Nat.reduceSub,Nat.reduceMul,Nat.reduceEqDiff,reduceCtorEq,Int.reduceToNat,Int.reduceEq,Int.reduceBEq,Int.reduceBNe,Int.reduceLT,Int.reduceLE,Int.reduceNeg,Int.reduceAdd,Int.reduceSub,Int.reduceMul,Int.reduceGE,Int.reduceGT,endO] | rw [dr_cons])
    repeat (with_reducible refine And.intro (by first | (simp only [maxLen];omega) | omega | decide | (simp;done) | (simp [maxLen];omega)) ?_)
    refine retI ht0 _ rfl (of_decide_eq_true rfl) (by simp [SV.okN,SC.okL,SC.okN,ok1L]) ?_
    simp (maxSteps:=2000000) only [go_sem,↓reduceIte,Nat.reduceLT,Nat.reduceLeDiff,Nat.reduceAdd,Nat.reduceSub,Nat.reduceMul,Nat.reduceEqDiff,reduceCtorEq,Int.reduceToNat,Int.reduceEq,Int.reduceBEq,Int.reduceBNe,Int.reduceLT,Int.reduceLE,Int.reduceNeg,Int.reduceAdd,Int.reduceSub,Int.reduceMul,Int.reduceGE,Int.reduceGT,endO]
    exact retB5 (m:=⟨cl,sk,qu,insAt se (pos se arg) arg,ta⟩) _ _ _ _ _ (rdN_all eI_ok 10 _ rfl rfl) (rdN_all eI_ok 11 _ rfl rfl) (rdN_all eI_ok 12 _ rfl rfl) (rdN_sl eI_ok 23 _ 0 _ _ none rfl (by simp <;> omega) (by rw [insAt_len _ _ _ hps];omega) (fun q h=>by cases h) (fun e he=>by
     rw [Nat.zero_add]
     have:=ats_ins (enc:=eI) (d:=(0:Int)) (x:=arg) (f0:=(arrOf eI 1 se 0).at_) (f1:=segs 1 [.v (.int .i64 arg)]) (g:=fun _=>[]) hps (fun e _=>rfl) rfl (fun e he=>by omega) e he
     exact this)) (rdN_all eP_ok 14 _ rfl rfl) (rdT_ok _ _ _ _ _ (⟨cl,sk,qu,insAt se (pos se arg) arg,ta⟩,5,0))
   ·repeat (with_reducible refine And.intro (by first | (simp only [maxLen];omega) | omega | decide | (simp;done) | (simp [maxLen];omega)) ?_)
    refine draw_vc (by kernel_rfl) (mkTab_ok _ _) (of_decide_eq_true rfl) (of_decide_eq_true rfl) ?_
    repeat (first | simp (maxSteps:=2000000) only [go_sem,↓reduceIte,Nat.reduceLT,Nat.reduceLeDiff,Nat.reduceAdd,Nat.reduceSub,Nat.reduceMul,Nat.reduceEqDiff,reduceCtorEq,Int.reduceToNat,Int.reduceEq,Int.reduceBEq,Int.reduceBNe,Int.reduceLT,Int.reduceLE,Int.reduceNeg,Int.reduceAdd,Int.reduceSub,Int.reduceMul,Int.reduceGE,Int.reduceGT,endO,eI] | rw [dr_cons])
    repeat (with_reducible refine And.intro (by first | (simp only [maxLen];omega) | omega | decide | (simp;done) | (simp [maxLen];omega)) ?_)
    have hy:∀ w',Calls Try.prog 104 #[.bool (!hasB se arg)] w' (RetV w' (.agg #[.int .i64 5,.int .i64 0])):=fun w'=>by
     have:=yes_Z (!hasB se arg) w'
     simpa [hin] using this
    refine dcallV (.agg [.v (.int .i64 5),.v (.int .i64 0)]) _ (fun E=>rfl) (fun E a w' _=>hy w') ?_
    repeat (first | simp (maxSteps:=2000000) only [go_sem,↓reduceIte,Nat.reduceLT,Nat.reduceLeDiff,Nat.reduceAdd,Nat.reduceSub,Nat.reduceMul,Nat.reduceEqDiff,reduceCtorEq,Int.reduceToNat,Int.reduceEq,Int.reduceBEq,Int.reduceBNe,Int.reduceLT,Int.reduceLE,Int.reduceNeg,Int.reduceAdd,Int.reduceSub,Int.reduceMul,Int.reduceGE,Int.reduceGT,endO] | rw [dr_cons])
    repeat (with_reducible refine And.intro (by first | (simp only [maxLen];omega) | omega | decide | (simp;done) | (simp [maxLen];omega)) ?_)
    refine retI ht0 _ rfl (of_decide_eq_true rfl) (by simp [SV.okN,SC.okL,SC.okN,ok1L]) ?_
    simp (maxSteps:=2000000) only [go_sem,↓reduceIte,Nat.reduceLT,Nat.reduceLeDiff,Nat.reduceAdd,Nat.reduceSub,Nat.reduceMul,Nat.reduceEqDiff,reduceCtorEq,Int.reduceToNat,Int.reduceEq,Int.reduceBEq,Int.reduceBNe,Int.reduceLT,Int.reduceLE,Int.reduceNeg,Int.reduceAdd,Int.reduceSub,Int.reduceMul,Int.reduceGE,Int.reduceGT,endO]
    exact retB5 (m:=⟨cl,sk,qu,insAt se (pos se arg) arg,ta⟩) _ _ _ _ _ (rdN_all eI_ok 10 _ rfl rfl) (rdN_all eI_ok 11 _ rfl rfl) (rdN_all eI_ok 12 _ rfl rfl) (rdN_sl eI_ok 22 _ 0 _ _ none rfl (by simp <;> omega) (by rw [insAt_len _ _ _ hps];omega) (fun q h=>by cases h) (fun e he=>by
     rw [Nat.zero_add]
     have:=ats_ins (enc:=eI) (d:=(0:Int)) (x:=arg) (f0:=(arrOf eI 1 se 0).at_) (f1:=segs 1 [.v (.int .i64 arg)]) (g:=fun e=>(arrOf eI 1 se 0).at_ (pos se arg+e)) hps (fun e _=>rfl) rfl (fun e _=>rfl) e he
     exact this)) (rdN_all eP_ok 14 _ rfl rfl) (rdT_ok _ _ _ _ _ (⟨cl,sk,qu,insAt se (pos se arg) arg,ta⟩,5,0))
  ·have hin:hasB se arg=true:=by simpa using hin
   have hd:doM ⟨cl,sk,qu,se,ta⟩ 50 arg data=(⟨cl,sk,qu,se,ta⟩,6,0):=by simp [doM,objOf,doSet,hin]
   rw [hd]
   repeat (with_reducible refine And.intro (by first | (simp only [maxLen];omega) | omega | decide | (simp;done) | (simp [maxLen];omega)) ?_)
   refine draw_vc (by kernel_rfl) (mkTab_ok _ _) (of_decide_eq_true rfl) (of_decide_eq_true rfl) ?_
   repeat (first | simp (maxSteps:=2000000) only [go_sem,↓reduceIte,Nat.reduceLT,Nat.reduceLeDiff,Nat.reduceAdd,Nat.reduceSub,Nat.reduceMul,Nat.reduceEqDiff,reduceCtorEq,Int.reduceToNat,Int.reduceEq,Int.reduceBEq,Int.reduceBNe,Int.reduceLT,Int.reduceLE,Int.reduceNeg,Int.reduceAdd,Int.reduceSub,Int.reduceMul,Int.reduceGE,Int.reduceGT,endO,eI] | rw [dr_cons])
   repeat (with_reducible refine And.intro (by first | (simp only [maxLen];omega) | omega | decide | (simp;done) | (simp [maxLen];omega)) ?_)
   have hy:∀ w',Calls Try.prog 104 #[.bool (!hasB se arg)] w' (RetV w' (.agg #[.int .i64 6,.int .i64 0])):=fun w'=>by
    have:=yes_Z (!hasB se arg) w'
    simpa [hin] using this
   refine dcallV (.agg [.v (.int .i64 6),.v (.int .i64 0)]) _ (fun E=>rfl) (fun E a w' _=>hy w') ?_
   repeat (first | simp (maxSteps:=2000000) only [go_sem,↓reduceIte,Nat.reduceLT,Nat.reduceLeDiff,Nat.reduceAdd,Nat.reduceSub,Nat.reduceMul,Nat.reduceEqDiff,reduceCtorEq,Int.reduceToNat,Int.reduceEq,Int.reduceBEq,Int.reduceBNe,Int.reduceLT,Int.reduceLE,Int.reduceNeg,Int.reduceAdd,Int.reduceSub,Int.reduceMul,Int.reduceGE,Int.reduceGT,endO] | rw [dr_cons])
   repeat (with_reducible refine And.intro (by first | (simp only [maxLen];omega) | omega | decide | (simp;done) | (simp [maxLen];omega)) ?_)
   refine retI ht0 _ rfl (of_decide_eq_true rfl) (by simp [SV.okN,SC.okL,SC.okN,ok1L]) ?_
   simp (maxSteps:=2000000) only [go_sem,↓reduceIte,Nat.reduceLT,Nat.reduceLeDiff,Nat.reduceAdd,Nat.reduceSub,Nat.reduceMul,Nat.reduceEqDiff,reduceCtorEq,Int.reduceToNat,Int.reduceEq,Int.reduceBEq,Int.reduceBNe,Int.reduceLT,Int.reduceLE,Int.reduceNeg,Int.reduceAdd,Int.reduceSub,Int.reduceMul,Int.reduceGE,Int.reduceGT,endO]
   exact retB5 (m:=⟨cl,sk,qu,se,ta⟩) _ _ _ _ _ (rdN_all eI_ok 10 _ rfl rfl) (rdN_all eI_ok 11 _ rfl rfl) (rdN_all eI_ok 12 _ rfl rfl) (rdN_all eI_ok 13 _ rfl rfl) (rdN_all eP_ok 14 _ rfl rfl) (rdT_ok _ _ _ _ _ (⟨cl,sk,qu,se,ta⟩,6,0))
 refine both (fun hop=>?_) (fun n51=>?_)
 ·have hop:op=51:=by simpa using hop
  subst hop
  refine both (fun hin=>?_) (fun hin=>?_)
  ·have hin:hasB se arg=true:=by simpa using hin
   have hlt:pos se arg<se.length:=by
    simp only [hasB,decide_eq_true_eq] at hin
    exact (List.getElem?_eq_some_iff.1 hin).1
   have hd:doM ⟨cl,sk,qu,se,ta⟩ 51 arg data=(⟨cl,sk,qu,delAt se (pos se arg),ta⟩,5,0):=by simp [doM,objOf,doSet,hin]
   rw [hd]
   repeat (with_reducible refine And.intro (by first | (simp only [maxLen];omega) | omega | decide | (simp;done) | (simp [maxLen];omega)) ?_)
   refine draw_vc (by kernel_rfl) (mkTab_ok _ _) (of_decide_eq_true rfl) (of_decide_eq_true rfl) ?_
   repeat (first | simp (maxSteps:=2000000) only [go_sem,↓reduceIte,Nat.reduceLT,Nat.reduceLeDiff,Nat.reduceAdd,Nat.reduceSub,Nat.reduceMul,Nat.reduceEqDiff,reduceCtorEq,Int.reduceToNat,Int.reduceEq,Int.reduceBEq,Int.reduceBNe,Int.reduceLT,Int.reduceLE,Int.reduceNeg,Int.reduceAdd,Int.reduceSub,Int.reduceMul,Int.reduceGE,Int.reduceGT,endO,eI] | rw [dr_cons])
   rw [wr_succ (by omega)]
   repeat (with_reducible refine And.intro (by first | (simp only [maxLen];omega) | omega | decide | with_reducible exact Or.inl trivial | with_reducible exact Or.inr trivial | with_reducible exact ⟨Or.inl trivial,Or.inr trivial⟩) ?_)
   refine ⟨fun hc=>?_,fun hc=>?_⟩
   ·have hc' : se.length=pos se arg+1:=by omega
    repeat (with_reducible refine And.intro (by first | (simp only [maxLen];omega) | omega | decide | (simp;done) | (simp [maxLen];omega)) ?_)
    refine draw_vc (by kernel_rfl) (mkTab_ok _ _) (of_decide_eq_true rfl) (of_decide_eq_true rfl) ?_
    repeat (first | simp (maxSteps:=2000000) only [go_sem,↓reduceIte,Nat.reduceLT,Nat.reduceLeDiff,Nat.reduceAdd,Nat.reduceSub,Nat.reduceMul,Nat.reduceEqDiff,reduceCtorEq,Int.reduceToNat,Int.reduceEq,Int.reduceBEq,Int.reduceBNe,Int.reduceLT,Int.reduceLE,Int.reduceNeg,Int.reduceAdd,Int.reduceSub,Int.reduceMul,Int.reduceGE,Int.reduceGT,endO,eI] | rw [dr_cons])
    repeat (with_reducible refine And.intro (by first | (simp only [maxLen];omega) | omega | decide | (simp;done) | (simp [maxLen];omega)) ?_)
    have hy:∀ w',Calls Try.prog 104 #[.bool (hasB se arg)] w' (RetV w' (.agg #[.int .i64 5,.int .i64 0])):=fun w'=>by
     have:=yes_Z (hasB se arg) w'
     simpa [hin] using this
    refine dcallV (.agg [.v (.int .i64 5),.v (.int .i64 0)]) _ (fun E=>rfl) (fun E a w' _=>hy w') ?_
    repeat (first | simp (maxSteps:=2000000) only [go_sem,↓reduceIte,Nat.reduceLT,Nat.reduceLeDiff,Nat.reduceAdd,Nat.reduceSub,Nat.reduceMul,Nat.reduceEqDiff,reduceCtorEq,Int.reduceToNat,Int.reduceEq,Int.reduceBEq,Int.reduceBNe,Int.reduceLT,Int.reduceLE,Int.reduceNeg,Int.reduceAdd,Int.reduceSub,Int.reduceMul,Int.reduceGE,Int.reduceGT,endO] | rw [dr_cons])
    repeat (with_reducible refine And.intro (by first | (simp only [maxLen];omega) | omega | decide | (simp;done) | (simp [maxLen];omega)) ?_)
    refine retI ht0 _ rfl (of_decide_eq_true rfl) (by simp [SV.okN,SC.okL,SC.okN,ok1L]) ?_
    simp (maxSteps:=2000000) only [go_sem,↓reduceIte,Nat.reduceLT,Nat.reduceLeDiff,Nat.reduceAdd,Nat.reduceSub,Nat.reduceMul,Nat.reduceEqDiff,reduceCtorEq,Int.reduceToNat,Int.reduceEq,Int.reduceBEq,Int.reduceBNe,Int.reduceLT,Int.reduceLE,Int.reduceNeg,Int.reduceAdd,Int.reduceSub,Int.reduceMul,Int.reduceGE,Int.reduceGT,endO]
    exact retB5 (m:=⟨cl,sk,qu,delAt se (pos se arg),ta⟩) _ _ _ _ _ (rdN_all eI_ok 10 _ rfl rfl) (rdN_all eI_ok 11 _ rfl rfl) (rdN_all eI_ok 12 _ rfl rfl) (rdN_sl eI_ok 21 _ 0 _ _ none rfl (by simp <;> omega) (by rw [delAt_len _ _ hlt];omega) (fun q h=>by cases h) (fun e he=>by
     rw [Nat.zero_add]
     have:=ats_del (enc:=eI) (d:=(0:Int)) (l:=se) (f0:=(arrOf eI 1 se 0).at_) (g:=fun _=>[]) hlt (fun e _=>rfl) (fun e he=>by omega) e he
     exact this)) (rdN_all eP_ok 14 _ rfl rfl) (rdT_ok _ _ _ _ _ (⟨cl,sk,qu,delAt se (pos se arg),ta⟩,5,0))
   ·repeat (with_reducible refine And.intro (by first | (simp only [maxLen];omega) | omega | decide | (simp;done) | (simp [maxLen];omega)) ?_)
    refine draw_vc (by kernel_rfl) (mkTab_ok _ _) (of_decide_eq_true rfl) (of_decide_eq_true rfl) ?_
    repeat (first | simp (maxSteps:=2000000) only [go_sem,↓reduceIte,Nat.reduceLT,Nat.reduceLeDiff,Nat.reduceAdd,Nat.reduceSub,Nat.reduceMul,Nat.reduceEqDiff,reduceCtorEq,Int.reduceToNat,Int.reduceEq,Int.reduceBEq,Int.reduceBNe,Int.reduceLT,Int.reduceLE,Int.reduceNeg,Int.reduceAdd,Int.reduceSub,Int.reduceMul,Int.reduceGE,Int.reduceGT,endO,eI] | rw [dr_cons])
    repeat (with_reducible refine And.intro (by first | (simp only [maxLen];omega) | omega | decide | (simp;done) | (simp [maxLen];omega)) ?_)
    have hy:∀ w',Calls Try.prog 104 #[.bool (hasB se arg)] w' (RetV w' (.agg #[.int .i64 5,.int .i64 0])):=fun w'=>by
     have:=yes_Z (hasB se arg) w'
     simpa [hin] using this
    refine dcallV (.agg [.v (.int .i64 5),.v (.int .i64 0)]) _ (fun E=>rfl) (fun E a w' _=>hy w') ?_
    repeat (first | simp (maxSteps:=2000000) only [go_sem,↓reduceIte,Nat.reduceLT,Nat.reduceLeDiff,Nat.reduceAdd,Nat.reduceSub,Nat.reduceMul,Nat.reduceEqDiff,reduceCtorEq,Int.reduceToNat,Int.reduceEq,Int.reduceBEq,Int.reduceBNe,Int.reduceLT,Int.reduceLE,Int.reduceNeg,Int.reduceAdd,Int.reduceSub,Int.reduceMul,Int.reduceGE,Int.reduceGT,endO] | rw [dr_cons])
    repeat (with_reducible refine And.intro (by first | (simp only [maxLen];omega) | omega | decide | (simp;done) | (simp [maxLen];omega)) ?_)
    refine retI ht0 _ rfl (of_decide_eq_true rfl) (by simp [SV.okN,SC.okL,SC.okN,ok1L]) ?_
    simp (maxSteps:=2000000) only [go_sem,↓reduceIte,Nat.reduceLT,Nat.reduceLeDiff,Nat.reduceAdd,Nat.reduceSub,Nat.reduceMul,Nat.reduceEqDiff,reduceCtorEq,Int.reduceToNat,Int.reduceEq,Int.reduceBEq,Int.reduceBNe,Int.reduceLT,Int.reduceLE,Int.reduceNeg,Int.reduceAdd,Int.reduceSub,Int.reduceMul,Int.reduceGE,Int.reduceGT,endO]
    exact retB5 (m:=⟨cl,sk,qu,delAt se (pos se arg),ta⟩) _ _ _ _ _ (rdN_all eI_ok 10 _ rfl rfl) (rdN_all eI_ok 11 _ rfl rfl) (rdN_all eI_ok 12 _ rfl rfl) (rdN_sl eI_ok 20 _ 0 _ _ none rfl (by simp <;> omega) (by rw [delAt_len _ _ hlt];omega) (fun q h=>by cases h) (fun e he=>by
     rw [Nat.zero_add]
     have:=ats_del (enc:=eI) (d:=(0:Int)) (l:=se) (f0:=(arrOf eI 1 se 0).at_) (g:=fun e=>(arrOf eI 1 se 0).at_ (pos se arg+1+e)) hlt (fun e _=>rfl) (fun e _=>rfl) e he
     exact this)) (rdN_all eP_ok 14 _ rfl rfl) (rdT_ok _ _ _ _ _ (⟨cl,sk,qu,delAt se (pos se arg),ta⟩,5,0))
  ·have hin:hasB se arg=false:=by simpa using hin
   have hd:doM ⟨cl,sk,qu,se,ta⟩ 51 arg data=(⟨cl,sk,qu,se,ta⟩,6,0):=by simp [doM,objOf,doSet,hin]
   rw [hd]
   repeat (with_reducible refine And.intro (by first | (simp only [maxLen];omega) | omega | decide | (simp;done) | (simp [maxLen];omega)) ?_)
   refine draw_vc (by kernel_rfl) (mkTab_ok _ _) (of_decide_eq_true rfl) (of_decide_eq_true rfl) ?_
   repeat (first | simp (maxSteps:=2000000) only [go_sem,↓reduceIte,Nat.reduceLT,Nat.reduceLeDiff,Nat.reduceAdd,Nat.reduceSub,Nat.reduceMul,Nat.reduceEqDiff,reduceCtorEq,Int.reduceToNat,Int.reduceEq,Int.reduceBEq,Int.reduceBNe,Int.reduceLT,Int.reduceLE,Int.reduceNeg,Int.reduceAdd,Int.reduceSub,Int.reduceMul,Int.reduceGE,Int.reduceGT,endO,eI] | rw [dr_cons])
   repeat (with_reducible refine And.intro (by first | (simp only [maxLen];omega) | omega | decide | (simp;done) | (simp [maxLen];omega)) ?_)
   have hy:∀ w',Calls Try.prog 104 #[.bool (hasB se arg)] w' (RetV w' (.agg #[.int .i64 6,.int .i64 0])):=fun w'=>by
    have:=yes_Z (hasB se arg) w'
    simpa [hin] using this
   refine dcallV (.agg [.v (.int .i64 6),.v (.int .i64 0)]) _ (fun E=>rfl) (fun E a w' _=>hy w') ?_
   repeat (first | simp (maxSteps:=2000000) only [go_sem,↓reduceIte,Nat.reduceLT,Nat.reduceLeDiff,Nat.reduceAdd,Nat.reduceSub,Nat.reduceMul,Nat.reduceEqDiff,reduceCtorEq,Int.reduceToNat,Int.reduceEq,Int.reduceBEq,Int.reduceBNe,Int.reduceLT,Int.reduceLE,Int.reduceNeg,Int.reduceAdd,Int.reduceSub,Int.reduceMul,Int.reduceGE,Int.reduceGT,endO] | rw [dr_cons])
   repeat (with_reducible refine And.intro (by first | (simp only [maxLen];omega) | omega | decide | (simp;done) | (simp [maxLen];omega)) ?_)
   refine retI ht0 _ rfl (of_decide_eq_true rfl) (by simp [SV.okN,SC.okL,SC.okN,ok1L]) ?_
   simp (maxSteps:=2000000) only [go_sem,↓reduceIte,Nat.reduceLT,Nat.reduceLeDiff,Nat.reduceAdd,Nat.reduceSub,Nat.reduceMul,Nat.reduceEqDiff,reduceCtorEq,Int.reduceToNat,Int.reduceEq,Int.reduceBEq,Int.reduceBNe,Int.reduceLT,Int.reduceLE,Int.reduceNeg,Int.reduceAdd,Int.reduceSub,Int.reduceMul,Int.reduceGE,Int.reduceGT,endO]
   exact retB5 (m:=⟨cl,sk,qu,se,ta⟩) _ _ _ _ _ (rdN_all eI_ok 10 _ rfl rfl) (rdN_all eI_ok 11 _ rfl rfl) (rdN_all eI_ok 12 _ rfl rfl) (rdN_all eI_ok 13 _ rfl rfl) (rdN_all eP_ok 14 _ rfl rfl) (rdT_ok _ _ _ _ _ (⟨cl,sk,qu,se,ta⟩,6,0))
 refine both (fun hop=>?_) (fun n52=>?_)
 ·have hop:op=52:=by simpa using hop
  subst hop
  by_cases hin:hasB se arg=true
  ·have hd:doM ⟨cl,sk,qu,se,ta⟩ 52 arg data=(⟨cl,sk,qu,se,ta⟩,5,0):=by simp [doM,objOf,doSet,hin]
   rw [hd]
   repeat (with_reducible refine And.intro (by first | (simp only [maxLen];omega) | omega | decide | (simp;done) | (simp [maxLen];omega)) ?_)
   refine draw_vc (by kernel_rfl) (mkTab_ok _ _) (of_decide_eq_true rfl) (of_decide_eq_true rfl) ?_
   repeat (first | simp (maxSteps:=2000000) only [go_sem,↓reduceIte,Nat.reduceLT,Nat.reduceLeDiff,Nat.reduceAdd,Nat.reduceSub,Nat.reduceMul,Nat.reduceEqDiff,reduceCtorEq,Int.reduceToNat,Int.reduceEq,Int.reduceBEq,Int.reduceBNe,Int.reduceLT,Int.reduceLE,Int.reduceNeg,Int.reduceAdd,Int.reduceSub,Int.reduceMul,Int.reduceGE,Int.reduceGT,endO,eI] | rw [dr_cons])
   repeat (with_reducible refine And.intro (by first | (simp only [maxLen];omega) | omega | decide | (simp;done) | (simp [maxLen];omega)) ?_)
   have hy:∀ w',Calls Try.prog 104 #[.bool (hasB se arg)] w' (RetV w' (.agg #[.int .i64 5,.int .i64 0])):=fun w'=>by
    have:=yes_Z (hasB se arg) w'
    simpa [hin] using this
   refine dcallV (.agg [.v (.int .i64 5),.v (.int .i64 0)]) _ (fun E=>rfl) (fun E a w' _=>hy w') ?_
   repeat (first | simp (maxSteps:=2000000) only [go_sem,↓reduceIte,Nat.reduceLT,Nat.reduceLeDiff,Nat.reduceAdd,Nat.reduceSub,Nat.reduceMul,Nat.reduceEqDiff,reduceCtorEq,Int.reduceToNat,Int.reduceEq,Int.reduceBEq,Int.reduceBNe,Int.reduceLT,Int.reduceLE,Int.reduceNeg,Int.reduceAdd,Int.reduceSub,Int.reduceMul,Int.reduceGE,Int.reduceGT,endO] | rw [dr_cons])
   repeat (with_reducible refine And.intro (by first | (simp only [maxLen];omega) | omega | decide | (simp;done) | (simp [maxLen];omega)) ?_)
   refine retI ht0 _ rfl (of_decide_eq_true rfl) (by simp [SV.okN,SC.okL,SC.okN,ok1L]) ?_
   simp (maxSteps:=2000000) only [go_sem,↓reduceIte,Nat.reduceLT,Nat.reduceLeDiff,Nat.reduceAdd,Nat.reduceSub,Nat.reduceMul,Nat.reduceEqDiff,reduceCtorEq,Int.reduceToNat,Int.reduceEq,Int.reduceBEq,Int.reduceBNe,Int.reduceLT,Int.reduceLE,Int.reduceNeg,Int.reduceAdd,Int.reduceSub,Int.reduceMul,Int.reduceGE,Int.reduceGT,endO]
   exact retB5 (m:=⟨cl,sk,qu,se,ta⟩) _ _ _ _ _ (rdN_all eI_ok 10 _ rfl rfl) (rdN_all eI_ok 11 _ rfl rfl) (rdN_all eI_ok 12 _ rfl rfl) (rdN_all eI_ok 13 _ rfl rfl) (rdN_all eP_ok 14 _ rfl rfl) (rdT_ok _ _ _ _ _ (⟨cl,sk,qu,se,ta⟩,5,0))
  ·have hin:hasB se arg=false:=by simpa using hin
   have hd:doM ⟨cl,sk,qu,se,ta⟩ 52 arg data=(⟨cl,sk,qu,se,ta⟩,6,0):=by simp [doM,objOf,doSet,hin]
   rw [hd]
   repeat (with_reducible refine And.intro (by first | (simp only [maxLen];omega) | omega | decide | (simp;done) | (simp [maxLen];omega)) ?_)
   refine draw_vc (by kernel_rfl) (mkTab_ok _ _) (of_decide_eq_true rfl) (of_decide_eq_true rfl) ?_
   repeat (first | simp (maxSteps:=2000000) only [go_sem,↓reduceIte,Nat.reduceLT,Nat.reduceLeDiff,Nat.reduceAdd,Nat.reduceSub,Nat.reduceMul,Nat.reduceEqDiff,reduceCtorEq,Int.reduceToNat,Int.reduceEq,Int.reduceBEq,Int.reduceBNe,Int.reduceLT,Int.reduceLE,Int.reduceNeg,Int.reduceAdd,Int.reduceSub,Int.reduceMul,Int.reduceGE,Int.reduceGT,endO,eI] | rw [dr_cons])
   repeat (with_reducible refine And.intro (by first | (simp only [maxLen];omega) | omega | decide | (simp;done) | (simp [maxLen];omega)) ?_)
   have hy:∀ w',Calls Try.prog 104 #[.bool (hasB se arg)] w' (RetV w' (.agg #[.int .i64 6,.int .i64 0])):=fun w'=>by
    have:=yes_Z (hasB se arg) w'
    simpa [hin] using this
   refine dcallV (.agg [.v (.int .i64 6),.v (.int .i64 0)]) _ (fun E=>rfl) (fun E a w' _=>hy w') ?_
   repeat (first | simp (maxSteps:=2000000) only [go_sem,↓reduceIte,Nat.reduceLT,Nat.reduceLeDiff,Nat.reduceAdd,Nat.reduceSub,Nat.reduceMul,Nat.reduceEqDiff,reduceCtorEq,Int.reduceToNat,Int.reduceEq,Int.reduceBEq,Int.reduceBNe,Int.reduceLT,Int.reduceLE,Int.reduceNeg,Int.reduceAdd,Int.reduceSub,Int.reduceMul,Int.reduceGE,Int.reduceGT,endO] | rw [dr_cons])
   repeat (with_reducible refine And.intro (by first | (simp only [maxLen];omega) | omega | decide | (simp;done) | (simp [maxLen];omega)) ?_)
   refine retI ht0 _ rfl (of_decide_eq_true rfl) (by simp [SV.okN,SC.okL,SC.okN,ok1L]) ?_
   simp (maxSteps:=2000000) only [go_sem,↓reduceIte,Nat.reduceLT,Nat.reduceLeDiff,Nat.reduceAdd,Nat.reduceSub,Nat.reduceMul,Nat.reduceEqDiff,reduceCtorEq,Int.reduceToNat,Int.reduceEq,Int.reduceBEq,Int.reduceBNe,Int.reduceLT,Int.reduceLE,Int.reduceNeg,Int.reduceAdd,Int.reduceSub,Int.reduceMul,Int.reduceGE,Int.reduceGT,endO]
   exact retB5 (m:=⟨cl,sk,qu,se,ta⟩) _ _ _ _ _ (rdN_all eI_ok 10 _ rfl rfl) (rdN_all eI_ok 11 _ rfl rfl) (rdN_all eI_ok 12 _ rfl rfl) (rdN_all eI_ok 13 _ rfl rfl) (rdN_all eP_ok 14 _ rfl rfl) (rdT_ok _ _ _ _ _ (⟨cl,sk,qu,se,ta⟩,6,0))
 refine both (fun hop=>?_) (fun n60=>?_)
 ·have hop:op=60:=by simpa using hop
  subst hop
  refine both (fun hin=>?_) (fun hin=>?_)
  ·have hin:hasB (keys ta) arg=false:=by simpa using hin
   have hd:doM ⟨cl,sk,qu,se,ta⟩ 60 arg data=(⟨cl,sk,qu,se,insAt ta (pos (keys ta) arg) (arg,data)⟩,5,0):=by simp [doM,objOf,doTable,hin]
   rw [hd]
   repeat (with_reducible refine And.intro (by first | (simp only [maxLen];omega) | omega | decide | (simp;done) | (simp [maxLen];omega)) ?_)
   refine draw_vc (by kernel_rfl) (mkTab_ok _ _) (of_decide_eq_true rfl) (of_decide_eq_true rfl) ?_
   repeat (first | simp (maxSteps:=2000000) only [go_sem,↓reduceIte,Nat.reduceLT,Nat.reduceLeDiff,Nat.reduceAdd,Nat.reduceSub,Nat.reduceMul,Nat.reduceEqDiff,reduceCtorEq,Int.reduceToNat,Int.reduceEq,Int.reduceBEq,Int.reduceBNe,Int.reduceLT,Int.reduceLE,Int.reduceNeg,Int.reduceAdd,Int.reduceSub,Int.reduceMul,Int.reduceGE,Int.reduceGT,endO,eP] | rw [dr_cons])
   repeat (with_reducible refine And.intro (by first | (simp only [maxLen];omega) | omega | decide | with_reducible exact Or.inl trivial | with_reducible exact Or.inr trivial | with_reducible exact ⟨Or.inl trivial,Or.inr trivial⟩) ?_)
   refine ⟨fun hc=>?_,fun hc=>?_⟩
   ·have hc' : ta.length=pos (keys ta) arg:=by omega
    repeat (with_reducible refine And.intro (by first | (simp only [maxLen];omega) | omega | decide | (simp;done) | (simp [maxLen];omega)) ?_)
    refine draw_vc (by kernel_rfl) (mkTab_ok _ _) (of_decide_eq_true rfl) (of_decide_eq_true rfl) ?_
    repeat (first | simp (maxSteps:=2000000) only [go_sem,↓reduceIte,Nat.reduceLT,Nat.reduceLeDiff,Nat.reduceAdd,Nat.reduceSub,Nat.reduceMul,Nat.reduceEqDiff,reduceCtorEq,Int.reduceToNat,Int.reduceEq,Int.reduceBEq,Int.reduceBNe,Int.reduceLT,Int.reduceLE,Int.reduceNeg,Int.reduceAdd,Int.reduceSub,Int.reduceMul,Int.reduceGE,Int.reduceGT,endO,eP] | rw [dr_cons])
    repeat (with_reducible refine And.intro (by first | (simp only [maxLen];omega) | omega | decide | (simp;done) | (simp [maxLen];omega)) ?_)
    have hy:∀ w',Calls Try.prog 104 #[.bool (!hasB (keys ta) arg)] w' (RetV w' (.agg #[.int .i64 5,.int .i64 0])):=fun w'=>by
     have:=yes_Z (!hasB (keys ta) arg) w'
     simpa [hin] using this
    refine dcallV (.agg [.v (.int .i64 5),.v (.int .i64 0)]) _ (fun E=>rfl) (fun E a w' _=>hy w') ?_
    repeat (first | simp (maxSteps:=2000000) only [go_sem,↓reduceIte,Nat.reduceLT,Nat.reduceLeDiff,Nat.reduceAdd,Nat.reduceSub,Nat.reduceMul,Nat.reduceEqDiff,reduceCtorEq,Int.reduceToNat,Int.reduceEq,Int.reduceBEq,Int.reduceBNe,Int.reduceLT,Int.reduceLE,Int.reduceNeg,Int.reduceAdd,Int.reduceSub,Int.reduceMul,Int.reduceGE,Int.reduceGT,endO] | rw [dr_cons])
    repeat (with_reducible refine And.intro (by first | (simp only [maxLen];omega) | omega | decide | (simp;done) | (simp [maxLen];omega)) ?_)
    refine retI ht0 _ rfl (of_decide_eq_true rfl) (by simp [SV.okN,SC.okL,SC.okN,ok1L]) ?_
    simp (maxSteps:=2000000) only [go_sem,↓reduceIte,Nat.reduceLT,Nat.reduceLeDiff,Nat.reduceAdd,Nat.reduceSub,Nat.reduceMul,Nat.reduceEqDiff,reduceCtorEq,Int.reduceToNat,Int.reduceEq,Int.reduceBEq,Int.reduceBNe,Int.reduceLT,Int.reduceLE,Int.reduceNeg,Int.reduceAdd,Int.reduceSub,Int.reduceMul,Int.reduceGE,Int.reduceGT,endO]
    exact retB5 (m:=⟨cl,sk,qu,se,insAt ta (pos (keys ta) arg) (arg,data)⟩) _ _ _ _ _ (rdN_all eI_ok 10 _ rfl rfl) (rdN_all eI_ok 11 _ rfl rfl) (rdN_all eI_ok 12 _ rfl rfl) (rdN_all eI_ok 13 _ rfl rfl) (rdN_sl eP_ok 23 _ 0 _ _ none rfl (by simp <;> omega) (by rw [insAt_len _ _ _ hpt];omega) (fun q h=>by cases h) (fun e he=>by
     rw [Nat.zero_add]
     have:=ats_ins (enc:=eP) (d:=((0,0):Int×Int)) (x:=(arg,data)) (f0:=(arrOf eP 2 ta (0,0)).at_) (f1:=segs 2 [.v (.int .i64 arg),.v (.int .i64 data)]) (g:=fun _=>[]) hpt (fun e _=>rfl) rfl (fun e he=>by omega) e he
     exact this)) (rdT_ok _ _ _ _ _ (⟨cl,sk,qu,se,insAt ta (pos (keys ta) arg) (arg,data)⟩,5,0))
   ·repeat (with_reducible refine And.intro (by first | (simp only [maxLen];omega) | omega | decide | (simp;done) | (simp [maxLen];omega)) ?_)
    refine draw_vc (by kernel_rfl) (mkTab_ok _ _) (of_decide_eq_true rfl) (of_decide_eq_true rfl) ?_
    repeat (first | simp (maxSteps:=2000000) only [go_sem,↓reduceIte,Nat.reduceLT,Nat.reduceLeDiff,Nat.reduceAdd,Nat.reduceSub,Nat.reduceMul,Nat.reduceEqDiff,reduceCtorEq,Int.reduceToNat,Int.reduceEq,Int.reduceBEq,Int.reduceBNe,Int.reduceLT,Int.reduceLE,Int.reduceNeg,Int.reduceAdd,Int.reduceSub,Int.reduceMul,Int.reduceGE,Int.reduceGT,endO,eP] | rw [dr_cons])
    repeat (with_reducible refine And.intro (by first | (simp only [maxLen];omega) | omega | decide | (simp;done) | (simp [maxLen];omega)) ?_)
    have hy:∀ w',Calls Try.prog 104 #[.bool (!hasB (keys ta) arg)] w' (RetV w' (.agg #[.int .i64 5,.int .i64 0])):=fun w'=>by
     have:=yes_Z (!hasB (keys ta) arg) w'
     simpa [hin] using this
    refine dcallV (.agg [.v (.int .i64 5),.v (.int .i64 0)]) _ (fun E=>rfl) (fun E a w' _=>hy w') ?_
    repeat (first | simp (maxSteps:=2000000) only [go_sem,↓reduceIte,Nat.reduceLT,Nat.reduceLeDiff,Nat.reduceAdd,Nat.reduceSub,Nat.reduceMul,Nat.reduceEqDiff,reduceCtorEq,Int.reduceToNat,Int.reduceEq,Int.reduceBEq,Int.reduceBNe,Int.reduceLT,Int.reduceLE,Int.reduceNeg,Int.reduceAdd,Int.reduceSub,Int.reduceMul,Int.reduceGE,Int.reduceGT,endO] | rw [dr_cons])
    repeat (with_reducible refine And.intro (by first | (simp only [maxLen];omega) | omega | decide | (simp;done) | (simp [maxLen];omega)) ?_)
    refine retI ht0 _ rfl (of_decide_eq_true rfl) (by simp [SV.okN,SC.okL,SC.okN,ok1L]) ?_
    simp (maxSteps:=2000000) only [go_sem,↓reduceIte,Nat.reduceLT,Nat.reduceLeDiff,Nat.reduceAdd,Nat.reduceSub,Nat.reduceMul,Nat.reduceEqDiff,reduceCtorEq,Int.reduceToNat,Int.reduceEq,Int.reduceBEq,Int.reduceBNe,Int.reduceLT,Int.reduceLE,Int.reduceNeg,Int.reduceAdd,Int.reduceSub,Int.reduceMul,Int.reduceGE,Int.reduceGT,endO]
    exact retB5 (m:=⟨cl,sk,qu,se,insAt ta (pos (keys ta) arg) (arg,data)⟩) _ _ _ _ _ (rdN_all eI_ok 10 _ rfl rfl) (rdN_all eI_ok 11 _ rfl rfl) (rdN_all eI_ok 12 _ rfl rfl) (rdN_all eI_ok 13 _ rfl rfl) (rdN_sl eP_ok 22 _ 0 _ _ none rfl (by simp <;> omega) (by rw [insAt_len _ _ _ hpt];omega) (fun q h=>by cases h) (fun e he=>by
     rw [Nat.zero_add]
     have:=ats_ins (enc:=eP) (d:=((0,0):Int×Int)) (x:=(arg,data)) (f0:=(arrOf eP 2 ta (0,0)).at_) (f1:=segs 2 [.v (.int .i64 arg),.v (.int .i64 data)]) (g:=fun e=>(arrOf eP 2 ta (0,0)).at_ (pos (keys ta) arg+e)) hpt (fun e _=>rfl) rfl (fun e _=>rfl) e he
     exact this)) (rdT_ok _ _ _ _ _ (⟨cl,sk,qu,se,insAt ta (pos (keys ta) arg) (arg,data)⟩,5,0))
  ·have hin:hasB (keys ta) arg=true:=by simpa using hin
   have hd:doM ⟨cl,sk,qu,se,ta⟩ 60 arg data=(⟨cl,sk,qu,se,ta⟩,6,0):=by simp [doM,objOf,doTable,hin]
   rw [hd]
   repeat (with_reducible refine And.intro (by first | (simp only [maxLen];omega) | omega | decide | (simp;done) | (simp [maxLen];omega)) ?_)
   refine draw_vc (by kernel_rfl) (mkTab_ok _ _) (of_decide_eq_true rfl) (of_decide_eq_true rfl) ?_
   repeat (first | simp (maxSteps:=2000000) only [go_sem,↓reduceIte,Nat.reduceLT,Nat.reduceLeDiff,Nat.reduceAdd,Nat.reduceSub,Nat.reduceMul,Nat.reduceEqDiff,reduceCtorEq,Int.reduceToNat,Int.reduceEq,Int.reduceBEq,Int.reduceBNe,Int.reduceLT,Int.reduceLE,Int.reduceNeg,Int.reduceAdd,Int.reduceSub,Int.reduceMul,Int.reduceGE,Int.reduceGT,endO,eI] | rw [dr_cons])
   repeat (with_reducible refine And.intro (by first | (simp only [maxLen];omega) | omega | decide | (simp;done) | (simp [maxLen];omega)) ?_)
   have hy:∀ w',Calls Try.prog 104 #[.bool (!hasB (keys ta) arg)] w' (RetV w' (.agg #[.int .i64 6,.int .i64 0])):=fun w'=>by
    have:=yes_Z (!hasB (keys ta) arg) w'
    simpa [hin] using this
   refine dcallV (.agg [.v (.int .i64 6),.v (.int .i64 0)]) _ (fun E=>rfl) (fun E a w' _=>hy w') ?_
   repeat (first | simp (maxSteps:=2000000) only [go_sem,↓reduceIte,Nat.reduceLT,Nat.reduceLeDiff,Nat.reduceAdd,Nat.reduceSub,Nat.reduceMul,Nat.reduceEqDiff,reduceCtorEq,Int.reduceToNat,Int.reduceEq,Int.reduceBEq,Int.reduceBNe,Int.reduceLT,Int.reduceLE,Int.reduceNeg,Int.reduceAdd,Int.reduceSub,Int.reduceMul,Int.reduceGE,Int.reduceGT,endO] | rw [dr_cons])
   repeat (with_reducible refine And.intro (by first | (simp only [maxLen];omega) | omega | decide | (simp;done) | (simp [maxLen];omega)) ?_)
   refine retI ht0 _ rfl (of_decide_eq_true rfl) (by simp [SV.okN,SC.okL,SC.okN,ok1L]) ?_
   simp (maxSteps:=2000000) only [go_sem,↓reduceIte,Nat.reduceLT,Nat.reduceLeDiff,Nat.reduceAdd,Nat.reduceSub,Nat.reduceMul,Nat.reduceEqDiff,reduceCtorEq,Int.reduceToNat,Int.reduceEq,Int.reduceBEq,Int.reduceBNe,Int.reduceLT,Int.reduceLE,Int.reduceNeg,Int.reduceAdd,Int.reduceSub,Int.reduceMul,Int.reduceGE,Int.reduceGT,endO]
   exact retB5 (m:=⟨cl,sk,qu,se,ta⟩) _ _ _ _ _ (rdN_all eI_ok 10 _ rfl rfl) (rdN_all eI_ok 11 _ rfl rfl) (rdN_all eI_ok 12 _ rfl rfl) (rdN_all eI_ok 13 _ rfl rfl) (rdN_all eP_ok 14 _ rfl rfl) (rdT_ok _ _ _ _ _ (⟨cl,sk,qu,se,ta⟩,6,0))
 have hop:op=61∨op=62:=by
  simp only [objOf] at ho
  simp only [b_decR,b_decL,bt_ite,bf_ite,bt_dec,bf_dec,bt_int,bf_int,bt_nint,bf_nint,bt_bool,bf_bool,bt_nbool,bf_nbool,bt_not,bf_not,bt_and,bf_and,bt_or,bf_or,Bool.false_eq_true,Bool.true_eq_false,Bool.not_eq_true,Bool.not_eq_false,reduceCtorEq,false_iff,true_iff,iff_false,iff_true,and_true,true_and,and_false,false_and,or_true,true_or,or_false,false_or,not_true_eq_false,not_false_eq_true,ne_eq] at n22 n23 n30 n31 n40 n41 n50 n51 n52 n60
  omega
 refine both (fun hin=>?_) (fun hin=>?_)
 ·have hin:hasB (keys ta) arg=false:=by simpa using hin
  have hd:doM ⟨cl,sk,qu,se,ta⟩ op arg data=(⟨cl,sk,qu,se,ta⟩,6,0):=by
   have hno:∀ p,ta[pos (keys ta) arg]? = some p→p.1≠arg:=fun p hp e=>by
    simp only [hasB,decide_eq_false_iff_not,keys,List.getElem?_map] at hin
    apply hin
    have hp' : ta[pos (ta.map (·.1)) arg]? = some p:=hp
    rw [hp',← e];rfl
   rcases hop with rfl | rfl <;> simp only [doM,objOf,doTable] <;> cases hq:ta[pos (keys ta) arg]? with
    | none=>simp [hq]
    | some p=>simp [hq,hno p hq]
  rw [hd]
  repeat (with_reducible refine And.intro (by first | (simp only [maxLen];omega) | omega | decide | (simp;done) | (simp [maxLen];omega)) ?_)
  refine draw_vc (by kernel_rfl) (mkTab_ok _ _) (of_decide_eq_true rfl) (of_decide_eq_true rfl) ?_
  repeat (first | simp (maxSteps:=2000000) only [go_sem,↓reduceIte,Nat.reduceLT,Nat.reduceLeDiff,Nat.reduceAdd,Nat.reduceSub,Nat.reduceMul,Nat.reduceEqDiff,reduceCtorEq,Int.reduceToNat,Int.reduceEq,Int.reduceBEq,Int.reduceBNe,Int.reduceLT,Int.reduceLE,Int.reduceNeg,Int.reduceAdd,Int.reduceSub,Int.reduceMul,Int.reduceGE,Int.reduceGT,endO,eP] | rw [dr_cons])
  repeat (with_reducible refine And.intro (by first | (simp only [maxLen];omega) | omega | decide | (simp;done) | (simp [maxLen];omega)) ?_)
  refine dcallV (.agg [.v (.int .i64 6),.v (.int .i64 0)]) _ (fun E=>rfl) (fun E a w' _=>kind_Z 6 w') ?_
  repeat (first | simp (maxSteps:=2000000) only [go_sem,↓reduceIte,Nat.reduceLT,Nat.reduceLeDiff,Nat.reduceAdd,Nat.reduceSub,Nat.reduceMul,Nat.reduceEqDiff,reduceCtorEq,Int.reduceToNat,Int.reduceEq,Int.reduceBEq,Int.reduceBNe,Int.reduceLT,Int.reduceLE,Int.reduceNeg,Int.reduceAdd,Int.reduceSub,Int.reduceMul,Int.reduceGE,Int.reduceGT,endO] | rw [dr_cons])
  repeat (with_reducible refine And.intro (by first | (simp only [maxLen];omega) | omega | decide | (simp;done) | (simp [maxLen];omega)) ?_)
  refine retI ht0 _ rfl (of_decide_eq_true rfl) (by simp [SV.okN,SC.okL,SC.okN,ok1L]) ?_
  simp (maxSteps:=2000000) only [go_sem,↓reduceIte,Nat.reduceLT,Nat.reduceLeDiff,Nat.reduceAdd,Nat.reduceSub,Nat.reduceMul,Nat.reduceEqDiff,reduceCtorEq,Int.reduceToNat,Int.reduceEq,Int.reduceBEq,Int.reduceBNe,Int.reduceLT,Int.reduceLE,Int.reduceNeg,Int.reduceAdd,Int.reduceSub,Int.reduceMul,Int.reduceGE,Int.reduceGT,endO]
  exact retB5 (m:=⟨cl,sk,qu,se,ta⟩) _ _ _ _ _ (rdN_all eI_ok 10 _ rfl rfl) (rdN_all eI_ok 11 _ rfl rfl) (rdN_all eI_ok 12 _ rfl rfl) (rdN_all eI_ok 13 _ rfl rfl) (rdN_all eP_ok 14 _ rfl rfl) (rdT_ok _ _ _ _ _ (⟨cl,sk,qu,se,ta⟩,6,0))
 have hin:hasB (keys ta) arg=true:=by simpa using hin
 obtain ⟨pr,hpr,hpa⟩:∃ pr,ta[pos (keys ta) arg]? = some pr∧pr.1=arg:=by
  simp only [hasB,decide_eq_true_eq,keys,List.getElem?_map,Option.map_eq_some_iff] at hin
  exact hin
 have hlt:pos (keys ta) arg<ta.length:=(List.getElem?_eq_some_iff.1 hpr).1
 have hgd:ta.getD (pos (keys ta) arg) (0,0)=pr:=by rw [List.getD_eq_getElem?_getD,hpr];rfl
 rw [hgd]
 repeat (with_reducible refine And.intro (by first | (simp only [maxLen];omega) | omega | decide | with_reducible exact Or.inl trivial | with_reducible exact Or.inr trivial | with_reducible exact ⟨Or.inl trivial,Or.inr trivial⟩) ?_)
 refine both (fun h61=>?_) (fun h61=>?_)
 ·have h61:op=61:=by simpa using h61
  subst h61
  have hd:doM ⟨cl,sk,qu,se,ta⟩ 61 arg data=(⟨cl,sk,qu,se,delAt ta (pos (keys ta) arg)⟩,2,pr.2):=by simp [doM,objOf,doTable,hpr,hpa]
  rw [hd]
  repeat (with_reducible refine And.intro (by first | (simp only [maxLen];omega) | omega | decide | (simp;done) | (simp [maxLen];omega)) ?_)
  refine draw_vc (by kernel_rfl) (mkTab_ok _ _) (of_decide_eq_true rfl) (of_decide_eq_true rfl) ?_
  repeat (first | simp (maxSteps:=2000000) only [go_sem,↓reduceIte,Nat.reduceLT,Nat.reduceLeDiff,Nat.reduceAdd,Nat.reduceSub,Nat.reduceMul,Nat.reduceEqDiff,reduceCtorEq,Int.reduceToNat,Int.reduceEq,Int.reduceBEq,Int.reduceBNe,Int.reduceLT,Int.reduceLE,Int.reduceNeg,Int.reduceAdd,Int.reduceSub,Int.reduceMul,Int.reduceGE,Int.reduceGT,endO,eP] | rw [dr_cons])
  rw [wr_succ (by omega)]
  repeat (with_reducible refine And.intro (by first | (simp only [maxLen];omega) | omega | decide | with_reducible exact Or.inl trivial | with_reducible exact Or.inr trivial | with_reducible exact ⟨Or.inl trivial,Or.inr trivial⟩) ?_)
  refine ⟨fun hc=>?_,fun hc=>?_⟩
  ·have hc' : ta.length=pos (keys ta) arg+1:=by omega
   repeat (with_reducible refine And.intro (by first | (simp only [maxLen];omega) | omega | decide | (simp;done) | (simp [maxLen];omega)) ?_)
   refine draw_vc (by kernel_rfl) (mkTab_ok _ _) (of_decide_eq_true rfl) (of_decide_eq_true rfl) ?_
   repeat (first | simp (maxSteps:=2000000) only [go_sem,↓reduceIte,Nat.reduceLT,Nat.reduceLeDiff,Nat.reduceAdd,Nat.reduceSub,Nat.reduceMul,Nat.reduceEqDiff,reduceCtorEq,Int.reduceToNat,Int.reduceEq,Int.reduceBEq,Int.reduceBNe,Int.reduceLT,Int.reduceLE,Int.reduceNeg,Int.reduceAdd,Int.reduceSub,Int.reduceMul,Int.reduceGE,Int.reduceGT,endO,eP] | rw [dr_cons])
   repeat (with_reducible refine And.intro (by first | (simp only [maxLen];omega) | omega | decide | (simp;done) | (simp [maxLen];omega)) ?_)
   refine dcallV (.agg [.v (.int .i64 2),.v (.int .i64 pr.2)]) _ (fun E=>rfl) (fun E a w' _=>value_Z pr.2 w') ?_
   repeat (first | simp (maxSteps:=2000000) only [go_sem,↓reduceIte,Nat.reduceLT,Nat.reduceLeDiff,Nat.reduceAdd,Nat.reduceSub,Nat.reduceMul,Nat.reduceEqDiff,reduceCtorEq,Int.reduceToNat,Int.reduceEq,Int.reduceBEq,Int.reduceBNe,Int.reduceLT,Int.reduceLE,Int.reduceNeg,Int.reduceAdd,Int.reduceSub,Int.reduceMul,Int.reduceGE,Int.reduceGT,endO] | rw [dr_cons])
   repeat (with_reducible refine And.intro (by first | (simp only [maxLen];omega) | omega | decide | (simp;done) | (simp [maxLen];omega)) ?_)
   refine retI ht0 _ rfl (of_decide_eq_true rfl) (by simp [SV.okN,SC.okL,SC.okN,ok1L]) ?_
   simp (maxSteps:=2000000) only [go_sem,↓reduceIte,Nat.reduceLT,Nat.reduceLeDiff,Nat.reduceAdd,Nat.reduceSub,Nat.reduceMul,Nat.reduceEqDiff,reduceCtorEq,Int.reduceToNat,Int.reduceEq,Int.reduceBEq,Int.reduceBNe,Int.reduceLT,Int.reduceLE,Int.reduceNeg,Int.reduceAdd,Int.reduceSub,Int.reduceMul,Int.reduceGE,Int.reduceGT,endO]
   exact retB5 (m:=⟨cl,sk,qu,se,delAt ta (pos (keys ta) arg)⟩) _ _ _ _ _ (rdN_all eI_ok 10 _ rfl rfl) (rdN_all eI_ok 11 _ rfl rfl) (rdN_all eI_ok 12 _ rfl rfl) (rdN_all eI_ok 13 _ rfl rfl) (rdN_sl eP_ok 21 _ 0 _ _ none rfl (by simp <;> omega) (by rw [delAt_len _ _ hlt];omega) (fun q h=>by cases h) (fun e he=>by
     rw [Nat.zero_add]
     have:=ats_del (enc:=eP) (d:=((0,0):Int×Int)) (l:=ta) (f0:=(arrOf eP 2 ta (0,0)).at_) (g:=fun _=>[]) hlt (fun e _=>rfl) (fun e he=>by omega) e he
     exact this)) (rdT_ok _ _ _ _ _ (⟨cl,sk,qu,se,delAt ta (pos (keys ta) arg)⟩,2,pr.2))
  ·repeat (with_reducible refine And.intro (by first | (simp only [maxLen];omega) | omega | decide | (simp;done) | (simp [maxLen];omega)) ?_)
   refine draw_vc (by kernel_rfl) (mkTab_ok _ _) (of_decide_eq_true rfl) (of_decide_eq_true rfl) ?_
   repeat (first | simp (maxSteps:=2000000) only [go_sem,↓reduceIte,Nat.reduceLT,Nat.reduceLeDiff,Nat.reduceAdd,Nat.reduceSub,Nat.reduceMul,Nat.reduceEqDiff,reduceCtorEq,Int.reduceToNat,Int.reduceEq,Int.reduceBEq,Int.reduceBNe,Int.reduceLT,Int.reduceLE,Int.reduceNeg,Int.reduceAdd,Int.reduceSub,Int.reduceMul,Int.reduceGE,Int.reduceGT,endO,eP] | rw [dr_cons])
   repeat (with_reducible refine And.intro (by first | (simp only [maxLen];omega) | omega | decide | (simp;done) | (simp [maxLen];omega)) ?_)
   refine dcallV (.agg [.v (.int .i64 2),.v (.int .i64 pr.2)]) _ (fun E=>rfl) (fun E a w' _=>value_Z pr.2 w') ?_
   repeat (first | simp (maxSteps:=2000000) only [go_sem,↓reduceIte,Nat.reduceLT,Nat.reduceLeDiff,Nat.reduceAdd,Nat.reduceSub,Nat.reduceMul,Nat.reduceEqDiff,reduceCtorEq,Int.reduceToNat,Int.reduceEq,Int.reduceBEq,Int.reduceBNe,Int.reduceLT,Int.reduceLE,Int.reduceNeg,Int.reduceAdd,Int.reduceSub,Int.reduceMul,Int.reduceGE,Int.reduceGT,endO] | rw [dr_cons])
   repeat (with_reducible refine And.intro (by first | (simp only [maxLen];omega) | omega | decide | (simp;done) | (simp [maxLen];omega)) ?_)
   refine retI ht0 _ rfl (of_decide_eq_true rfl) (by simp [SV.okN,SC.okL,SC.okN,ok1L]) ?_
   simp (maxSteps:=2000000) only [go_sem,↓reduceIte,Nat.reduceLT,Nat.reduceLeDiff,Nat.reduceAdd,Nat.reduceSub,Nat.reduceMul,Nat.reduceEqDiff,reduceCtorEq,Int.reduceToNat,Int.reduceEq,Int.reduceBEq,Int.reduceBNe,Int.reduceLT,Int.reduceLE,Int.reduceNeg,Int.reduceAdd,Int.reduceSub,Int.reduceMul,Int.reduceGE,Int.reduceGT,endO]
   exact retB5 (m:=⟨cl,sk,qu,se,delAt ta (pos (keys ta) arg)⟩) _ _ _ _ _ (rdN_all eI_ok 10 _ rfl rfl) (rdN_all eI_ok 11 _ rfl rfl) (rdN_all eI_ok 12 _ rfl rfl) (rdN_all eI_ok 13 _ rfl rfl) (rdN_sl eP_ok 20 _ 0 _ _ none rfl (by simp <;> omega) (by rw [delAt_len _ _ hlt];omega) (fun q h=>by cases h) (fun e he=>by
     rw [Nat.zero_add]
     have:=ats_del (enc:=eP) (d:=((0,0):Int×Int)) (l:=ta) (f0:=(arrOf eP 2 ta (0,0)).at_) (g:=fun e=>(arrOf eP 2 ta (0,0)).at_ (pos (keys ta) arg+1+e)) hlt (fun e _=>rfl) (fun e _=>rfl) e he
     exact this)) (rdT_ok _ _ _ _ _ (⟨cl,sk,qu,se,delAt ta (pos (keys ta) arg)⟩,2,pr.2))
 ·have h62:op=62:=by
   rcases hop with rfl | rfl
   ·simp at h61
   ·rfl
  subst h62
  have hd:doM ⟨cl,sk,qu,se,ta⟩ 62 arg data=(⟨cl,sk,qu,se,ta⟩,2,pr.2):=by simp [doM,objOf,doTable,hpr,hpa]
  rw [hd]
  repeat (with_reducible refine And.intro (by first | (simp only [maxLen];omega) | omega | decide | (simp;done) | (simp [maxLen];omega)) ?_)
  refine draw_vc (by kernel_rfl) (mkTab_ok _ _) (of_decide_eq_true rfl) (of_decide_eq_true rfl) ?_
  repeat (first | simp (maxSteps:=2000000) only [go_sem,↓reduceIte,Nat.reduceLT,Nat.reduceLeDiff,Nat.reduceAdd,Nat.reduceSub,Nat.reduceMul,Nat.reduceEqDiff,reduceCtorEq,Int.reduceToNat,Int.reduceEq,Int.reduceBEq,Int.reduceBNe,Int.reduceLT,Int.reduceLE,Int.reduceNeg,Int.reduceAdd,Int.reduceSub,Int.reduceMul,Int.reduceGE,Int.reduceGT,endO,eP] | rw [dr_cons])
  repeat (with_reducible refine And.intro (by first | (simp only [maxLen];omega) | omega | decide | (simp;done) | (simp [maxLen];omega)) ?_)
  refine dcallV (.agg [.v (.int .i64 2),.v (.int .i64 pr.2)]) _ (fun E=>rfl) (fun E a w' _=>value_Z pr.2 w') ?_
  repeat (first | simp (maxSteps:=2000000) only [go_sem,↓reduceIte,Nat.reduceLT,Nat.reduceLeDiff,Nat.reduceAdd,Nat.reduceSub,Nat.reduceMul,Nat.reduceEqDiff,reduceCtorEq,Int.reduceToNat,Int.reduceEq,Int.reduceBEq,Int.reduceBNe,Int.reduceLT,Int.reduceLE,Int.reduceNeg,Int.reduceAdd,Int.reduceSub,Int.reduceMul,Int.reduceGE,Int.reduceGT,endO] | rw [dr_cons])
  repeat (with_reducible refine And.intro (by first | (simp only [maxLen];omega) | omega | decide | (simp;done) | (simp [maxLen];omega)) ?_)
  refine retI ht0 _ rfl (of_decide_eq_true rfl) (by simp [SV.okN,SC.okL,SC.okN,ok1L]) ?_
  simp (maxSteps:=2000000) only [go_sem,↓reduceIte,Nat.reduceLT,Nat.reduceLeDiff,Nat.reduceAdd,Nat.reduceSub,Nat.reduceMul,Nat.reduceEqDiff,reduceCtorEq,Int.reduceToNat,Int.reduceEq,Int.reduceBEq,Int.reduceBNe,Int.reduceLT,Int.reduceLE,Int.reduceNeg,Int.reduceAdd,Int.reduceSub,Int.reduceMul,Int.reduceGE,Int.reduceGT,endO]
  exact retB5 (m:=⟨cl,sk,qu,se,ta⟩) _ _ _ _ _ (rdN_all eI_ok 10 _ rfl rfl) (rdN_all eI_ok 11 _ rfl rfl) (rdN_all eI_ok 12 _ rfl rfl) (rdN_all eI_ok 13 _ rfl rfl) (rdN_all eP_ok 14 _ rfl rfl) (rdT_ok _ _ _ _ _ (⟨cl,sk,qu,se,ta⟩,2,pr.2))
theorem rmDo_Z {w:World} {v:Value} {m:MC} (op arg data:Int) (h:Cont w v m) (hok:MC.okR m) (hm:mayB m=true) (ho:objOf op≠0):Calls Try.prog 83 #[v,.int .i64 op,.int .i64 arg,.int .i64 data] w (RetB w (fun _=>True) 5 (rdT (doM m op arg data)) (mcR (doM m op arg data).1)):=by
 by_cases h6:op=22∨op=23∨op=30∨op=31∨op=40∨op=41
 ·exact rmDo_ZA op arg data h hok hm ho h6
 ·exact rmDo_ZB op arg data h hok hm ho h6
end Go.Proofs.Ytkjeedlkkpgopaa.Z
namespace Go.Proofs.Ytkjeedlkkpgopaa.Z
open Go Go.RowKit
def fullB (op:Int):Bool:=decide (op=22∨op=30∨op=40∨op=50∨op=60)
def allowM (m:MC) (c:Cl):MC×Bool :=
 if c.kind=0 then ((doM m c.op c.arg c.data).1,true) else if c.kind=4 then (if fullB c.op=true then (m,true) else (mc0,false)) else
  if c.kind=(doM m c.op c.arg c.data).2.1∧c.val=(doM m c.op c.arg c.data).2.2 then ((doM m c.op c.arg c.data).1,true) else (mc0,false)
theorem rdN_nw {C:Ctx} {S:St} {α:Type} {enc:α→List Value} {s:Nat} {xs:List α} {d:α} {L:List (Nat×Fm ArrF)} (i:Nat) (hf:NwL C.B L∈S.facts) (hi:atN L (i,0,0)=some (arrOf enc s xs d)):RdN C S (.xv (i,0,0)) (arrOf enc s xs d):=fun E a w' hs=>by
 have hn:=(holds_of hs.sat).2 _ hf
 have tr:∀ {w'' : World} {E2:Env} {x:Nm},E2.χ x=E.χ (i,0,0)→ArrAt E w'' (i,0,0) (arrOf enc s xs d)→ArrAt E2 w'' x (arrOf enc s xs d):=fun {w'' E2 x} hx h=>by
  obtain ⟨ba,cap,h1,h2,h3,h4⟩:=h
  refine ⟨ba,cap,hx.trans h1,h2,h3,?_⟩
  rcases h4 with h4 | ⟨b,off,h5,h7,h6⟩
  ·exact Or.inl h4
  ·refine Or.inr ⟨b,off,h5,h7,fun k hk=>⟨(h6 k hk).1,fun j u hu=>?_⟩⟩
   have:=(h6 k hk).2 j u hu
   simp only [arrOf,List.getElem?_map,Option.map_eq_some_iff] at hu
   obtain ⟨u',_,rfl⟩:=hu
   rw [den_v] at this ⊢
   exact this
 refine ⟨?_,fun w'' hw'' E2 x hx=>tr (by rw [hx,den_xv]) (hn w'' hw'' _ _ hi)⟩
 obtain ⟨ba,cap,h1,_⟩:=hn w' (fun _ _ _=>rfl) _ _ hi
 rw [den_xv,h1]
 rfl
def alT (p:MC×Bool) (b:Nat):SV:=.tup [(true,mcS b),(false,[.bo p.2]),(false,[.v (.int .i64 0)])]
def ralT (p:MC×Bool) (b:Nat):SV:=.tup [(true,mcS b),(false,[.bo p.2])]
theorem alT_ok (c0 c1 c2 c3 c4 x:SC) (p:MC×Bool) (hx:∀ E,x.den E = .bool p.2):∀ b (E E2:Env),E2.χ (b,0,0)=c0.den E→E2.χ (b+1,0,0)=c1.den E→E2.χ (b+2,0,0)=c2.den E→E2.χ (b+3,0,0)=c3.den E→E2.χ (b+4,0,0)=c4.den E →
  (SV.tup [(true,[c0,c1,c2,c3,c4]),(false,[x]),(false,[.v (.int .i64 0)])]).den E=(alT p b).den E2:=fun b E E2 e0 e1 e2 e3 e4=>by
 simp [alT,mcS,SV.den,den1,SC.den,e0,e1,e2,e3,e4,hx]
theorem ralT_ok (c0 c1 c2 c3 c4 x:SC) (p:MC×Bool) (hx:∀ E,x.den E = .bool p.2):∀ b (E E2:Env),E2.χ (b,0,0)=c0.den E→E2.χ (b+1,0,0)=c1.den E→E2.χ (b+2,0,0)=c2.den E→E2.χ (b+3,0,0)=c3.den E→E2.χ (b+4,0,0)=c4.den E →
  (SV.tup [(true,[c0,c1,c2,c3,c4]),(false,[x])]).den E=(ralT p b).den E2:=fun b E E2 e0 e1 e2 e3 e4=>by
 simp [ralT,mcS,SV.den,den1,SC.den,e0,e1,e2,e3,e4,hx]
def ir68:IR:=(.seq (.ops [⟨(some 2),(.box 70 (.t 0)),none⟩,⟨(some 3),(.box 53 (.t 1)),none⟩,⟨(some 4),(.new 70 [(.v (.slice none 0 0)),(.v (.slice none 0 0)),(.v (.slice none 0 0)),(.v (.slice none 0 0)),(.v (.slice none 0 0))]),none⟩,⟨(some 5),(.mv (.k (.c (.v (.bool false))))),none⟩,⟨(some 6),(.mv (.k (.c (.v (.int .i64 0))))),none⟩]) (.kill [0,1,5,6,7,8,9,10,11] (.seq (.ops [⟨(some 11),(.ld true 5 (.t 2)),none⟩,⟨(some 12),(.fa 1 (.t 3)),none⟩,⟨(some 13),(.ld false 1 (.t 12)),none⟩,⟨(some 14),(.fa 2 (.t 3)),none⟩,⟨(some 15),(.ld false 1 (.t 14)),none⟩,⟨(some 16),(.fa 3 (.t 3)),none⟩,⟨(some 17),(.ld false 1 (.t 16)),none⟩,⟨(some 18),(.call 86 [(.t 11),(.t 13),(.t 15),(.t 17)]),none⟩,⟨(some 10),(.mv (.t 18)),none⟩,⟨(some 19),(.ext 0 (.t 10)),none⟩,⟨(some 20),(.ext 1 (.t 10)),none⟩,⟨(some 21),(.ext 2 (.t 10)),none⟩,⟨(some 7),(.new 70 [(.v (.slice none 0 0)),(.v (.slice none 0 0)),(.v (.slice none 0 0)),(.v (.slice none 0 0)),(.v (.slice none 0 0))]),none⟩,⟨(some 8),(.new 51 [(.v (.int .i64 0)),(.v (.int .i64 0))]),none⟩,⟨none,(.st 5 (.t 7) (.t 19)),none⟩,⟨none,(.st 2 (.t 8) (.t 20)),none⟩,⟨(some 9),(.mv (.t 21)),none⟩]) (.kill [10,11,12,13,14,15,16,17,18,19,20,21] (.seq (.seq (.ops [⟨(some 22),(.mv (.t 9)),none⟩,⟨(some 23),(.bin .neq (.t 22) (.k (.c (.v (.int .i64 0))))),none⟩]) (.kill [22] (.cond (.t 23) (.seq (.ops [⟨(some 24),(.build [(.v (.slice none 0 0)),(.v (.slice none 0 0)),(.v (.slice none 0 0)),(.v (.slice none 0 0)),(.v (.slice none 0 0))] []),none⟩,⟨(some 25),(.mv (.t 9)),none⟩,⟨none,(.st 5 (.t 4) (.t 24)),none⟩,⟨(some 5),(.mv (.k (.c (.v (.bool false))))),none⟩,⟨(some 6),(.mv (.t 25)),none⟩]) (.kill [2,3,7,8,9,23,24,25] .ret)) .skip))) (.kill [5,6,9,23] (.seq (.blk 0 (.seq (.ops [⟨(some 27),(.fa 7 (.t 3)),none⟩,⟨(some 28),(.fa 0 (.t 27)),none⟩,⟨(some 29),(.ld false 1 (.t 28)),none⟩,⟨(some 30),(.bin .eql (.t 29) (.k (.c (.v (.int .i64 0))))),none⟩,⟨(some 26),(.mv (.t 30)),none⟩]) (.kill [27,28,29,30] (.cond (.t 26) (.seq (.ops [⟨(some 31),(.ld true 5 (.t 7)),none⟩,⟨none,(.st 5 (.t 4) (.t 31)),none⟩,⟨(some 5),(.mv (.k (.c (.v (.bool true))))),none⟩,⟨(some 6),(.mv (.k (.c (.v (.int .i64 0))))),none⟩]) (.kill [2,3,7,8,26,31] .ret)) (.seq (.ops [⟨(some 33),(.fa 7 (.t 3)),none⟩,⟨(some 34),(.fa 0 (.t 33)),none⟩,⟨(some 35),(.ld false 1 (.t 34)),none⟩,⟨(some 36),(.bin .eql (.t 35) (.k (.c (.v (.int .i64 4))))),none⟩,⟨(some 32),(.mv (.t 36)),none⟩]) (.kill [26,33,34,35,36] (.cond (.t 32) (.seq (.seq (.draw [(⟨(some 37),(.ld true 5 (.t 2)),none⟩,([],[38,39,40,42,43])),(⟨(some 38),(.fa 1 (.t 3)),none⟩,([0],[37,42,43])),(⟨(some 39),(.ld false 1 (.t 38)),none⟩,([0],[37,42,43])),(⟨(some 40),(.call 59 [(.t 39)]),none⟩,([0],[37,42,43])),(⟨(some 41),(.call 88 [(.t 37),(.t 40)]),none⟩,([],[42,43])),(⟨(some 42),(.fa 1 (.t 3)),none⟩,([0,1,2,3,4],[37,38,39,40,41])),(⟨(some 43),(.ld false 1 (.t 42)),none⟩,([0,1,2,3,4],[37,38,39,40,41])),(⟨(some 44),(.call 87 [(.t 41),(.t 43)]),none⟩,([],[]))]) (.kill [3,7,8,32,37,38,39,40,41,42,43] (.cond (.t 44) (.seq (.ops [⟨(some 45),(.ld true 5 (.t 2)),none⟩,⟨(some 46),(.call 89 [(.t 45)]),none⟩,⟨none,(.st 5 (.t 4) (.t 46)),none⟩,⟨(some 5),(.mv (.k (.c (.v (.bool true))))),none⟩,⟨(some 6),(.mv (.k (.c (.v (.int .i64 0))))),none⟩]) (.kill [2,44,45,46] .ret)) .skip))) (.kill [2,5,6,44] (.seq (.ops [⟨(some 47),(.build [(.v (.slice none 0 0)),(.v (.slice none 0 0)),(.v (.slice none 0 0)),(.v (.slice none 0 0)),(.v (.slice none 0 0))] []),none⟩,⟨none,(.st 5 (.t 4) (.t 47)),none⟩,⟨(some 5),(.mv (.k (.c (.v (.bool false))))),none⟩,⟨(some 6),(.mv (.k (.c (.v (.int .i64 0))))),none⟩]) (.kill [47] .ret)))) (.seq (.ops [⟨(some 49),(.fa 7 (.t 3)),none⟩,⟨(some 50),(.ld true 2 (.t 49)),none⟩,⟨(some 51),(.ld true 2 (.t 8)),none⟩,⟨(some 52),(.eqa false [true,true] (.t 50) (.t 51)),none⟩,⟨(some 48),(.mv (.t 52)),none⟩]) (.kill [2,3,8,32,49,50,51,52] (.cond (.t 48) (.seq (.ops [⟨(some 53),(.ld true 5 (.t 7)),none⟩,⟨none,(.st 5 (.t 4) (.t 53)),none⟩,⟨(some 5),(.mv (.k (.c (.v (.bool true))))),none⟩,⟨(some 6),(.mv (.k (.c (.v (.int .i64 0))))),none⟩]) (.kill [7,48,53] .ret)) .skip)))))))))) (.kill [2,3,5,6,7,8,26,27,28,29,30,31,32,33,34,35,36,37,38,39,40,41,42,43,44,45,46,47,48,49,50,51,52,53] (.seq (.ops [⟨(some 54),(.build [(.v (.slice none 0 0)),(.v (.slice none 0 0)),(.v (.slice none 0 0)),(.v (.slice none 0 0)),(.v (.slice none 0 0))] []),none⟩,⟨none,(.st 5 (.t 4) (.t 54)),none⟩,⟨(some 5),(.mv (.k (.c (.v (.bool false))))),none⟩,⟨(some 6),(.mv (.k (.c (.v (.int .i64 0))))),none⟩]) (.kill [54] .ret))))))))))
def rs68:List RS:=[(.cell 4 true 5),(.t 5),(.t 6)]
def nt68:Nat:=55
def ir63:IR:=(.seq (.ops [⟨(some 2),(.box 70 (.t 0)),none⟩,⟨(some 3),(.box 53 (.t 1)),none⟩,⟨(some 4),(.new 70 [(.v (.slice none 0 0)),(.v (.slice none 0 0)),(.v (.slice none 0 0)),(.v (.slice none 0 0)),(.v (.slice none 0 0))]),none⟩,⟨(some 5),(.mv (.k (.c (.v (.bool false))))),none⟩]) (.kill [0,1,5,6,7,8,9,10,11] (.seq (.ops [⟨(some 9),(.ld true 5 (.t 2)),none⟩,⟨(some 10),(.fa 1 (.t 3)),none⟩,⟨(some 11),(.ld false 1 (.t 10)),none⟩,⟨(some 12),(.fa 2 (.t 3)),none⟩,⟨(some 13),(.ld false 1 (.t 12)),none⟩,⟨(some 14),(.fa 3 (.t 3)),none⟩,⟨(some 15),(.ld false 1 (.t 14)),none⟩,⟨(some 16),(.call 83 [(.t 9),(.t 11),(.t 13),(.t 15)]),none⟩,⟨(some 8),(.mv (.t 16)),none⟩,⟨(some 17),(.ext 0 (.t 8)),none⟩,⟨(some 18),(.ext 1 (.t 8)),none⟩,⟨(some 6),(.new 70 [(.v (.slice none 0 0)),(.v (.slice none 0 0)),(.v (.slice none 0 0)),(.v (.slice none 0 0)),(.v (.slice none 0 0))]),none⟩,⟨(some 7),(.new 51 [(.v (.int .i64 0)),(.v (.int .i64 0))]),none⟩,⟨none,(.st 5 (.t 6) (.t 17)),none⟩,⟨none,(.st 2 (.t 7) (.t 18)),none⟩]) (.kill [8,9,10,11,12,13,14,15,16,17,18] (.seq (.seq (.ops [⟨(some 19),(.fa 7 (.t 3)),none⟩,⟨(some 20),(.fa 0 (.t 19)),none⟩,⟨(some 21),(.ld false 1 (.t 20)),none⟩]) (.kill [19,20] (.blk 0 (.seq (.ops [⟨(some 23),(.bin .eql (.t 21) (.k (.c (.v (.int .i64 0))))),none⟩,⟨(some 22),(.mv (.t 23)),none⟩]) (.kill [23] (.cond (.t 22) (.seq (.ops [⟨(some 24),(.ld true 5 (.t 6)),none⟩,⟨none,(.st 5 (.t 4) (.t 24)),none⟩,⟨(some 5),(.mv (.k (.c (.v (.bool true))))),none⟩]) (.kill [2,3,6,7,21,22,24] .ret)) (.seq (.ops [⟨(some 26),(.bin .eql (.t 21) (.k (.c (.v (.int .i64 4))))),none⟩,⟨(some 25),(.mv (.t 26)),none⟩]) (.kill [21,22,26] (.cond (.t 25) (.seq (.seq (.ops [⟨(some 27),(.fa 1 (.t 3)),none⟩,⟨(some 28),(.ld false 1 (.t 27)),none⟩]) (.kill [3,6,7,25,27] (.blk 1 (.seq (.seq (.ops [⟨(some 30),(.bin .eql (.t 28) (.k (.c (.v (.int .i64 22))))),none⟩,⟨(some 29),(.mv (.t 30)),none⟩]) (.kill [30] (.cond (.t 29) .skip (.seq (.ops [⟨(some 31),(.bin .eql (.t 28) (.k (.c (.v (.int .i64 30))))),none⟩,⟨(some 29),(.mv (.t 31)),none⟩]) (.kill [31] (.cond (.t 29) .skip (.seq (.ops [⟨(some 32),(.bin .eql (.t 28) (.k (.c (.v (.int .i64 40))))),none⟩,⟨(some 29),(.mv (.t 32)),none⟩]) (.kill [32] (.cond (.t 29) .skip (.seq (.ops [⟨(some 33),(.bin .eql (.t 28) (.k (.c (.v (.int .i64 50))))),none⟩,⟨(some 29),(.mv (.t 33)),none⟩]) (.kill [33] (.cond (.t 29) .skip (.ops [⟨(some 34),(.bin .eql (.t 28) (.k (.c (.v (.int .i64 60))))),none⟩,⟨(some 29),(.mv (.t 34)),none⟩]))))))))))))) (.kill [28,34] (.cond (.t 29) (.seq (.ops [⟨(some 35),(.ld true 5 (.t 2)),none⟩,⟨(some 36),(.call 84 [(.t 35)]),none⟩,⟨none,(.st 5 (.t 4) (.t 36)),none⟩,⟨(some 5),(.mv (.k (.c (.v (.bool true))))),none⟩]) (.kill [2,29,35,36] .ret)) .skip)))))) (.kill [2,5,28,29,30,31,32,33,34,35,36] (.seq (.ops [⟨(some 37),(.build [(.v (.slice none 0 0)),(.v (.slice none 0 0)),(.v (.slice none 0 0)),(.v (.slice none 0 0)),(.v (.slice none 0 0))] []),none⟩,⟨none,(.st 5 (.t 4) (.t 37)),none⟩,⟨(some 5),(.mv (.k (.c (.v (.bool false))))),none⟩]) (.kill [37] .ret)))) .skip))))))))) (.kill [2,5,21,22,23,24,25,26,27,28,29,30,31,32,33,34,35,36,37] (.seq (.seq (.ops [⟨(some 38),(.fa 0 (.t 7)),none⟩,⟨(some 39),(.ld false 1 (.t 38)),none⟩,⟨(some 40),(.fa 7 (.t 3)),none⟩,⟨(some 41),(.fa 0 (.t 40)),none⟩,⟨(some 42),(.ld false 1 (.t 41)),none⟩,⟨(some 43),(.bin .neq (.t 39) (.t 42)),none⟩,⟨(some 44),(.mv (.t 43)),none⟩,⟨(some 45),(.fa 1 (.t 7)),(some (44,false))⟩,⟨(some 46),(.ld false 1 (.t 45)),(some (44,false))⟩,⟨(some 47),(.fa 7 (.t 3)),(some (44,false))⟩,⟨(some 48),(.fa 1 (.t 47)),(some (44,false))⟩,⟨(some 49),(.ld false 1 (.t 48)),(some (44,false))⟩,⟨(some 50),(.bin .neq (.t 46) (.t 49)),(some (44,false))⟩,⟨(some 51),(.pick (.t 44) (.k (.c (.v (.bool true)))) (.t 50)),none⟩]) (.kill [3,7,38,39,40,41,42,43,44,45,46,47,48,49,50] (.cond (.t 51) (.seq (.ops [⟨(some 52),(.build [(.v (.slice none 0 0)),(.v (.slice none 0 0)),(.v (.slice none 0 0)),(.v (.slice none 0 0)),(.v (.slice none 0 0))] []),none⟩,⟨none,(.st 5 (.t 4) (.t 52)),none⟩,⟨(some 5),(.mv (.k (.c (.v (.bool false))))),none⟩]) (.kill [6,51,52] .ret)) .skip))) (.kill [5,51] (.seq (.ops [⟨(some 53),(.ld true 5 (.t 6)),none⟩,⟨none,(.st 5 (.t 4) (.t 53)),none⟩,⟨(some 5),(.mv (.k (.c (.v (.bool true))))),none⟩]) (.kill [6,53] .ret))))))))))
def rs63:List RS:=[(.cell 4 true 5),(.t 5)]
def nt63:Nat:=54
theorem mcR_id (m:MC) (b:Nat):∀ x A',atN (mcR m b) x=some A'→NewIds b 5 x.1:=fun x A' hx=>by
 simp only [mcR,mcA] at hx
 rcases atN_one hx with ⟨rfl,_⟩ | hx
 ·exact ⟨by simp,by simp⟩
 rcases atN_one hx with ⟨rfl,_⟩ | hx
 ·exact ⟨by simp,by simp⟩
 rcases atN_one hx with ⟨rfl,_⟩ | hx
 ·exact ⟨by simp,by simp⟩
 rcases atN_one hx with ⟨rfl,_⟩ | hx
 ·exact ⟨by simp,by simp⟩
 rcases atN_one hx with ⟨rfl,_⟩ | hx
 ·exact ⟨by simp,by simp⟩
 exact (atN_nil hx).elim
theorem full1 {op:Int} (h:objOf op=1):fullB op=(op == 22):=by
 unfold fullB;unfold objOf at h;repeat' split at h
 all_goals first | omega | (rw [Bool.eq_iff_iff];simp;omega)
theorem full2 {op:Int} (h:objOf op=2):fullB op=(op == 30):=by
 unfold fullB;unfold objOf at h;repeat' split at h
 all_goals first | omega | (rw [Bool.eq_iff_iff];simp;omega)
theorem full3 {op:Int} (h:objOf op=3):fullB op=(op == 40):=by
 unfold fullB;unfold objOf at h;repeat' split at h
 all_goals first | omega | (rw [Bool.eq_iff_iff];simp;omega)
theorem full4 {op:Int} (h:objOf op=4):fullB op=(op == 50 || op == 60):=by
 unfold fullB;unfold objOf at h;repeat' split at h
 all_goals first | omega | (rw [Bool.eq_iff_iff];simp;omega)
theorem full5 {op:Int} (h:objOf op=5):fullB op=(op == 50 || op == 60):=by
 unfold fullB;unfold objOf at h;repeat' split at h
 all_goals first | omega | (rw [Bool.eq_iff_iff];simp;omega)
theorem mcopy_Z {v:Value} {m:MC} {w:World} (h:Cont w v m) (hok:m.ok 0):Calls Try.prog 89 #[v] w (RetB w (fun _=>True) 5 cT (mcR m)):=by
 obtain ⟨x0,x1,x2,x3,x4,rfl,g0,g1,g2,g3,g4⟩:=h
 refine (mCopied (m:=m) ⟨_,_,_,_,_,rfl,g0,g1,g2,g3,g4⟩ hok).mono ?_
 rintro e w' ⟨v',rfl,hown,hb⟩
 refine ⟨_,rfl,hb,fun b=>?_⟩
 obtain ⟨N,h1,h2⟩:=retB_D hown b
 refine ⟨N,h1,fun E2 hE=>?_⟩
 obtain ⟨h3,h4⟩:=h2 E2 hE
 exact ⟨h3,fun w'' _ hw''=>h4 w'' hw''⟩
set_option maxRecDepth 100000 in
set_option maxHeartbeats 400000 in
theorem al_Z {w:World} {v:Value} {m:MC} (c:Cl) (h:Cont w v m) (hok:MC.okR m) (hm:mayB m=true) (ho:objOf c.op≠0):Calls Try.prog 68 #[v,.agg c.enc.toArray] w (RetB w (fun _=>True) 5 (alT (allowM m c)) (mcR (allowM m c).1)):=by
 refine enterC (A:=[]) (c:=ir68) (rs:=rs68) (nt:=nt68) h [.agg (mcS 0),.agg c.sc] _ Try.func68 rfl (by kernel_rfl) (by kernel_rfl) rfl (fun E' h0=>by rw [List.map_cons,h0];simp [SV.den,SC.den,Cl.sc,Cl.enc]) (of_decide_eq_true rfl) ?_
 simp (maxSteps:=2000000) only [ir68,nt68,rs68,go_sem,↓reduceIte,Nat.reduceLT,Nat.reduceLeDiff,Nat.reduceAdd,Nat.reduceSub,Nat.reduceMul,Nat.reduceEqDiff,reduceCtorEq,Int.reduceToNat,Int.reduceEq,Int.reduceBEq,Int.reduceBNe,Int.reduceLT,Int.reduceLE,Int.reduceNeg,Int.reduceAdd,Int.reduceSub,Int.reduceMul,Int.reduceGE,Int.reduceGT,endO,mcS,mcA,Cl.sc,iv]
 refine callF 5 (d3T (doM m c.op c.arg c.data) 0) (mcR (doM m c.op c.arg c.data).1) (fun x A' hx=>?_) (fun E a w' hs=>do_Z c.op c.arg c.data (cont_at hs 0 rfl rfl rfl rfl rfl) hok.1 hm ho) ?_
 ·exact mcR_id _ _ x A' hx
 simp (maxSteps:=2000000) only [go_sem,↓reduceIte,Nat.reduceLT,Nat.reduceLeDiff,Nat.reduceAdd,Nat.reduceSub,Nat.reduceMul,Nat.reduceEqDiff,reduceCtorEq,Int.reduceToNat,Int.reduceEq,Int.reduceBEq,Int.reduceBNe,Int.reduceLT,Int.reduceLE,Int.reduceNeg,Int.reduceAdd,Int.reduceSub,Int.reduceMul,Int.reduceGE,Int.reduceGT,endO,d3T,mcS,mcR,mcA]
 have hB:(mkC Try.prog [] w rs68 (RetB w (fun _=>True) 5 (alT (allowM m c)) (mcR (allowM m c).1))).B=w.heap.size:=rfl
 refine both (fun hk=>?_) (fun hk=>?_)
 ·have hk:c.kind=0:=by simpa using hk
  have hd:allowM m c=((doM m c.op c.arg c.data).1,true):=by simp [allowM,hk]
  rw [hd]
  exact retB5 _ _ _ _ _ (rdN_nw 8 List.mem_cons_self rfl) (rdN_nw 9 List.mem_cons_self rfl) (rdN_nw 10 List.mem_cons_self rfl) (rdN_nw 11 List.mem_cons_self rfl) (rdN_nw 12 List.mem_cons_self rfl) (alT_ok _ _ _ _ _ _ _ fun E=>by rw [den_v])
 have hk:c.kind≠0:=by simpa using hk
 refine both (fun h4=>?_) (fun h4=>?_)
 ·have h4:c.kind=4:=by simpa using h4
  have hd:allowM m c=if fullB c.op=true then (m,true) else (mc0,false):=by simp [allowM,h4]
  rw [hd]
  by_cases h1:objOf c.op=1
  ·skip
   refine draw_vc (by kernel_rfl) (mkTab_ok _ _) (of_decide_eq_true rfl) (of_decide_eq_true rfl) ?_
   repeat (first | simp (maxSteps:=2000000) only [go_sem,↓reduceIte,Nat.reduceLT,Nat.reduceLeDiff,Nat.reduceAdd,Nat.reduceSub,Nat.reduceMul,Nat.reduceEqDiff,reduceCtorEq,Int.reduceToNat,Int.reduceEq,Int.reduceBEq,Int.reduceBNe,Int.reduceLT,Int.reduceLE,Int.reduceNeg,Int.reduceAdd,Int.reduceSub,Int.reduceMul,Int.reduceGE,Int.reduceGT,endO] | rw [dr_cons])
   repeat (with_reducible refine And.intro (by first | (simp only [maxLen];omega) | omega | decide | (simp;done) | (simp [maxLen];omega)) ?_)
   refine dcallV (.c (.v (.int .i64 (objOf c.op)))) _ (fun E=>rfl) (fun E a w' _=>by
    refine (mObject c.op w').mono ?_
    rintro e w'' ⟨rfl,rfl⟩
    exact ⟨rfl,Below.refl _ _⟩) ?_
   repeat (first | simp (maxSteps:=2000000) only [go_sem,↓reduceIte,Nat.reduceLT,Nat.reduceLeDiff,Nat.reduceAdd,Nat.reduceSub,Nat.reduceMul,Nat.reduceEqDiff,reduceCtorEq,Int.reduceToNat,Int.reduceEq,Int.reduceBEq,Int.reduceBNe,Int.reduceLT,Int.reduceLE,Int.reduceNeg,Int.reduceAdd,Int.reduceSub,Int.reduceMul,Int.reduceGE,Int.reduceGT,endO] | rw [dr_cons])
   refine dcall_intro (ks:=[0]) (cr_valN (.c (.ifc 145 (.xv (0,0,0)))) [0] (List.mem_cons_self) fun E a w' hs=>by
    have:=of_any (E.χ (0,0,0)) (E.χ (1,0,0)) (E.χ (2,0,0)) (E.χ (3,0,0)) (E.χ (4,0,0)) (objOf c.op) w'
    simp [ofV,h1] at this
    simp [SV.den,SC.den,h1]
    exact this) rfl trivial trivial (fun k hk=>by cases hk) ?_
   repeat (first | simp (maxSteps:=2000000) only [go_sem,↓reduceIte,Nat.reduceLT,Nat.reduceLeDiff,Nat.reduceAdd,Nat.reduceSub,Nat.reduceMul,Nat.reduceEqDiff,reduceCtorEq,Int.reduceToNat,Int.reduceEq,Int.reduceBEq,Int.reduceBNe,Int.reduceLT,Int.reduceLE,Int.reduceNeg,Int.reduceAdd,Int.reduceSub,Int.reduceMul,Int.reduceGE,Int.reduceGT,endO] | rw [dr_cons])
   refine dcallV (.c (.bo (c.op == 22))) (.bool (c.op == 22)) (fun E=>by rw [den_c,den_b]) (fun E a w' hs=>by
    obtain ⟨ba,cap,hv,_⟩:=(holds_of hs).1 (0,0,0) _ rfl
    have:=full_cell ba m.cell.length cap c.op w'
    simp only [List.map_cons,List.map_nil,den_c,SC.den,hv,arrOf_len]
    exact this) ?_
   repeat (first | simp (maxSteps:=2000000) only [go_sem,↓reduceIte,Nat.reduceLT,Nat.reduceLeDiff,Nat.reduceAdd,Nat.reduceSub,Nat.reduceMul,Nat.reduceEqDiff,reduceCtorEq,Int.reduceToNat,Int.reduceEq,Int.reduceBEq,Int.reduceBNe,Int.reduceLT,Int.reduceLE,Int.reduceNeg,Int.reduceAdd,Int.reduceSub,Int.reduceMul,Int.reduceGE,Int.reduceGT,endO] | rw [dr_cons])
   have hf:fullB c.op=(c.op == 22):=full1 h1
   refine both (fun hf1=>?_) (fun hf1=>?_)
   ·rw [if_pos (by rw [hf];exact hf1)]
    refine callF 5 cT (mcR m) (mcR_id _ _) (fun E a w' hs=>mcopy_Z (cont_at hs 0 rfl rfl rfl rfl rfl) (hok.1.le (by decide))) ?_
    simp (maxSteps:=2000000) only [go_sem,↓reduceIte,Nat.reduceLT,Nat.reduceLeDiff,Nat.reduceAdd,Nat.reduceSub,Nat.reduceMul,Nat.reduceEqDiff,reduceCtorEq,Int.reduceToNat,Int.reduceEq,Int.reduceBEq,Int.reduceBNe,Int.reduceLT,Int.reduceLE,Int.reduceNeg,Int.reduceAdd,Int.reduceSub,Int.reduceMul,Int.reduceGE,Int.reduceGT,endO,cT,mcS,mcR,mcA]
    exact retB5 _ _ _ _ _ (rdN_nw 15 List.mem_cons_self rfl) (rdN_nw 16 List.mem_cons_self rfl) (rdN_nw 17 List.mem_cons_self rfl) (rdN_nw 18 List.mem_cons_self rfl) (rdN_nw 19 List.mem_cons_self rfl) (alT_ok _ _ _ _ _ _ _ fun E=>by rw [den_v])
   ·rw [if_neg (by rw [hf,hf1];simp)]
    exact retB5 _ _ _ _ _ rdN_nil rdN_nil rdN_nil rdN_nil rdN_nil (alT_ok _ _ _ _ _ _ _ fun E=>by rw [den_v])
  by_cases h2:objOf c.op=2
  ·skip
   refine draw_vc (by kernel_rfl) (mkTab_ok _ _) (of_decide_eq_true rfl) (of_decide_eq_true rfl) ?_
   repeat (first | simp (maxSteps:=2000000) only [go_sem,↓reduceIte,Nat.reduceLT,Nat.reduceLeDiff,Nat.reduceAdd,Nat.reduceSub,Nat.reduceMul,Nat.reduceEqDiff,reduceCtorEq,Int.reduceToNat,Int.reduceEq,Int.reduceBEq,Int.reduceBNe,Int.reduceLT,Int.reduceLE,Int.reduceNeg,Int.reduceAdd,Int.reduceSub,Int.reduceMul,Int.reduceGE,Int.reduceGT,endO] | rw [dr_cons])
   repeat (with_reducible refine And.intro (by first | (simp only [maxLen];omega) | omega | decide | (simp;done) | (simp [maxLen];omega)) ?_)
   refine dcallV (.c (.v (.int .i64 (objOf c.op)))) _ (fun E=>rfl) (fun E a w' _=>by
    refine (mObject c.op w').mono ?_
    rintro e w'' ⟨rfl,rfl⟩
    exact ⟨rfl,Below.refl _ _⟩) ?_
   repeat (first | simp (maxSteps:=2000000) only [go_sem,↓reduceIte,Nat.reduceLT,Nat.reduceLeDiff,Nat.reduceAdd,Nat.reduceSub,Nat.reduceMul,Nat.reduceEqDiff,reduceCtorEq,Int.reduceToNat,Int.reduceEq,Int.reduceBEq,Int.reduceBNe,Int.reduceLT,Int.reduceLE,Int.reduceNeg,Int.reduceAdd,Int.reduceSub,Int.reduceMul,Int.reduceGE,Int.reduceGT,endO] | rw [dr_cons])
   refine dcall_intro (ks:=[1]) (cr_valN (.c (.ifc 146 (.xv (1,0,0)))) [1] (List.mem_cons_self) fun E a w' hs=>by
    have:=of_any (E.χ (0,0,0)) (E.χ (1,0,0)) (E.χ (2,0,0)) (E.χ (3,0,0)) (E.χ (4,0,0)) (objOf c.op) w'
    simp [ofV,h2] at this
    simp [SV.den,SC.den,h2]
    exact this) rfl trivial trivial (fun k hk=>by cases hk) ?_
   repeat (first | simp (maxSteps:=2000000) only [go_sem,↓reduceIte,Nat.reduceLT,Nat.reduceLeDiff,Nat.reduceAdd,Nat.reduceSub,Nat.reduceMul,Nat.reduceEqDiff,reduceCtorEq,Int.reduceToNat,Int.reduceEq,Int.reduceBEq,Int.reduceBNe,Int.reduceLT,Int.reduceLE,Int.reduceNeg,Int.reduceAdd,Int.reduceSub,Int.reduceMul,Int.reduceGE,Int.reduceGT,endO] | rw [dr_cons])
   refine dcallV (.c (.bo (c.op == 30))) (.bool (c.op == 30)) (fun E=>by rw [den_c,den_b]) (fun E a w' hs=>by
    obtain ⟨ba,cap,hv,_⟩:=(holds_of hs).1 (1,0,0) _ rfl
    have:=full_stack ba m.stack.length cap c.op w'
    simp only [List.map_cons,List.map_nil,den_c,SC.den,hv,arrOf_len]
    exact this) ?_
   repeat (first | simp (maxSteps:=2000000) only [go_sem,↓reduceIte,Nat.reduceLT,Nat.reduceLeDiff,Nat.reduceAdd,Nat.reduceSub,Nat.reduceMul,Nat.reduceEqDiff,reduceCtorEq,Int.reduceToNat,Int.reduceEq,Int.reduceBEq,Int.reduceBNe,Int.reduceLT,Int.reduceLE,Int.reduceNeg,Int.reduceAdd,Int.reduceSub,Int.reduceMul,Int.reduceGE,Int.reduceGT,endO] | rw [dr_cons])
   have hf:fullB c.op=(c.op == 30):=full2 h2
   refine both (fun hf1=>?_) (fun hf1=>?_)
   ·rw [if_pos (by rw [hf];exact hf1)]
    refine callF 5 cT (mcR m) (mcR_id _ _) (fun E a w' hs=>mcopy_Z (cont_at hs 0 rfl rfl rfl rfl rfl) (hok.1.le (by decide))) ?_
    simp (maxSteps:=2000000) only [go_sem,↓reduceIte,Nat.reduceLT,Nat.reduceLeDiff,Nat.reduceAdd,Nat.reduceSub,Nat.reduceMul,Nat.reduceEqDiff,reduceCtorEq,Int.reduceToNat,Int.reduceEq,Int.reduceBEq,Int.reduceBNe,Int.reduceLT,Int.reduceLE,Int.reduceNeg,Int.reduceAdd,Int.reduceSub,Int.reduceMul,Int.reduceGE,Int.reduceGT,endO,cT,mcS,mcR,mcA]
    exact retB5 _ _ _ _ _ (rdN_nw 15 List.mem_cons_self rfl) (rdN_nw 16 List.mem_cons_self rfl) (rdN_nw 17 List.mem_cons_self rfl) (rdN_nw 18 List.mem_cons_self rfl) (rdN_nw 19 List.mem_cons_self rfl) (alT_ok _ _ _ _ _ _ _ fun E=>by rw [den_v])
   ·rw [if_neg (by rw [hf,hf1];simp)]
    exact retB5 _ _ _ _ _ rdN_nil rdN_nil rdN_nil rdN_nil rdN_nil (alT_ok _ _ _ _ _ _ _ fun E=>by rw [den_v])
  by_cases h3:objOf c.op=3
  ·skip
   refine draw_vc (by kernel_rfl) (mkTab_ok _ _) (of_decide_eq_true rfl) (of_decide_eq_true rfl) ?_
   repeat (first | simp (maxSteps:=2000000) only [go_sem,↓reduceIte,Nat.reduceLT,Nat.reduceLeDiff,Nat.reduceAdd,Nat.reduceSub,Nat.reduceMul,Nat.reduceEqDiff,reduceCtorEq,Int.reduceToNat,Int.reduceEq,Int.reduceBEq,Int.reduceBNe,Int.reduceLT,Int.reduceLE,Int.reduceNeg,Int.reduceAdd,Int.reduceSub,Int.reduceMul,Int.reduceGE,Int.reduceGT,endO] | rw [dr_cons])
   repeat (with_reducible refine And.intro (by first | (simp only [maxLen];omega) | omega | decide | (simp;done) | (simp [maxLen];omega)) ?_)
   refine dcallV (.c (.v (.int .i64 (objOf c.op)))) _ (fun E=>rfl) (fun E a w' _=>by
    refine (mObject c.op w').mono ?_
    rintro e w'' ⟨rfl,rfl⟩
    exact ⟨rfl,Below.refl _ _⟩) ?_
   repeat (first | simp (maxSteps:=2000000) only [go_sem,↓reduceIte,Nat.reduceLT,Nat.reduceLeDiff,Nat.reduceAdd,Nat.reduceSub,Nat.reduceMul,Nat.reduceEqDiff,reduceCtorEq,Int.reduceToNat,Int.reduceEq,Int.reduceBEq,Int.reduceBNe,Int.reduceLT,Int.reduceLE,Int.reduceNeg,Int.reduceAdd,Int.reduceSub,Int.reduceMul,Int.reduceGE,Int.reduceGT,endO] | rw [dr_cons])
   refine dcall_intro (ks:=[2]) (cr_valN (.c (.ifc 147 (.xv (2,0,0)))) [2] (List.mem_cons_self) fun E a w' hs=>by
    have:=of_any (E.χ (0,0,0)) (E.χ (1,0,0)) (E.χ (2,0,0)) (E.χ (3,0,0)) (E.χ (4,0,0)) (objOf c.op) w'
    simp [ofV,h3] at this
    simp [SV.den,SC.den,h3]
    exact this) rfl trivial trivial (fun k hk=>by cases hk) ?_
   repeat (first | simp (maxSteps:=2000000) only [go_sem,↓reduceIte,Nat.reduceLT,Nat.reduceLeDiff,Nat.reduceAdd,Nat.reduceSub,Nat.reduceMul,Nat.reduceEqDiff,reduceCtorEq,Int.reduceToNat,Int.reduceEq,Int.reduceBEq,Int.reduceBNe,Int.reduceLT,Int.reduceLE,Int.reduceNeg,Int.reduceAdd,Int.reduceSub,Int.reduceMul,Int.reduceGE,Int.reduceGT,endO] | rw [dr_cons])
   refine dcallV (.c (.bo (c.op == 40))) (.bool (c.op == 40)) (fun E=>by rw [den_c,den_b]) (fun E a w' hs=>by
    obtain ⟨ba,cap,hv,_⟩:=(holds_of hs).1 (2,0,0) _ rfl
    have:=full_queue ba m.queue.length cap c.op w'
    simp only [List.map_cons,List.map_nil,den_c,SC.den,hv,arrOf_len]
    exact this) ?_
   repeat (first | simp (maxSteps:=2000000) only [go_sem,↓reduceIte,Nat.reduceLT,Nat.reduceLeDiff,Nat.reduceAdd,Nat.reduceSub,Nat.reduceMul,Nat.reduceEqDiff,reduceCtorEq,Int.reduceToNat,Int.reduceEq,Int.reduceBEq,Int.reduceBNe,Int.reduceLT,Int.reduceLE,Int.reduceNeg,Int.reduceAdd,Int.reduceSub,Int.reduceMul,Int.reduceGE,Int.reduceGT,endO] | rw [dr_cons])
   have hf:fullB c.op=(c.op == 40):=full3 h3
   refine both (fun hf1=>?_) (fun hf1=>?_)
   ·rw [if_pos (by rw [hf];exact hf1)]
    refine callF 5 cT (mcR m) (mcR_id _ _) (fun E a w' hs=>mcopy_Z (cont_at hs 0 rfl rfl rfl rfl rfl) (hok.1.le (by decide))) ?_
    simp (maxSteps:=2000000) only [go_sem,↓reduceIte,Nat.reduceLT,Nat.reduceLeDiff,Nat.reduceAdd,Nat.reduceSub,Nat.reduceMul,Nat.reduceEqDiff,reduceCtorEq,Int.reduceToNat,Int.reduceEq,Int.reduceBEq,Int.reduceBNe,Int.reduceLT,Int.reduceLE,Int.reduceNeg,Int.reduceAdd,Int.reduceSub,Int.reduceMul,Int.reduceGE,Int.reduceGT,endO,cT,mcS,mcR,mcA]
    exact retB5 _ _ _ _ _ (rdN_nw 15 List.mem_cons_self rfl) (rdN_nw 16 List.mem_cons_self rfl) (rdN_nw 17 List.mem_cons_self rfl) (rdN_nw 18 List.mem_cons_self rfl) (rdN_nw 19 List.mem_cons_self rfl) (alT_ok _ _ _ _ _ _ _ fun E=>by rw [den_v])
   ·rw [if_neg (by rw [hf,hf1];simp)]
    exact retB5 _ _ _ _ _ rdN_nil rdN_nil rdN_nil rdN_nil rdN_nil (alT_ok _ _ _ _ _ _ _ fun E=>by rw [den_v])
  by_cases h4:objOf c.op=4
  ·skip
   refine draw_vc (by kernel_rfl) (mkTab_ok _ _) (of_decide_eq_true rfl) (of_decide_eq_true rfl) ?_
   repeat (first | simp (maxSteps:=2000000) only [go_sem,↓reduceIte,Nat.reduceLT,Nat.reduceLeDiff,Nat.reduceAdd,Nat.reduceSub,Nat.reduceMul,Nat.reduceEqDiff,reduceCtorEq,Int.reduceToNat,Int.reduceEq,Int.reduceBEq,Int.reduceBNe,Int.reduceLT,Int.reduceLE,Int.reduceNeg,Int.reduceAdd,Int.reduceSub,Int.reduceMul,Int.reduceGE,Int.reduceGT,endO] | rw [dr_cons])
   repeat (with_reducible refine And.intro (by first | (simp only [maxLen];omega) | omega | decide | (simp;done) | (simp [maxLen];omega)) ?_)
   refine dcallV (.c (.v (.int .i64 (objOf c.op)))) _ (fun E=>rfl) (fun E a w' _=>by
    refine (mObject c.op w').mono ?_
    rintro e w'' ⟨rfl,rfl⟩
    exact ⟨rfl,Below.refl _ _⟩) ?_
   repeat (first | simp (maxSteps:=2000000) only [go_sem,↓reduceIte,Nat.reduceLT,Nat.reduceLeDiff,Nat.reduceAdd,Nat.reduceSub,Nat.reduceMul,Nat.reduceEqDiff,reduceCtorEq,Int.reduceToNat,Int.reduceEq,Int.reduceBEq,Int.reduceBNe,Int.reduceLT,Int.reduceLE,Int.reduceNeg,Int.reduceAdd,Int.reduceSub,Int.reduceMul,Int.reduceGE,Int.reduceGT,endO] | rw [dr_cons])
   refine dcall_intro (ks:=[3]) (cr_valN (.c (.ifc 150 (.xv (3,0,0)))) [3] (List.mem_cons_self) fun E a w' hs=>by
    have:=of_any (E.χ (0,0,0)) (E.χ (1,0,0)) (E.χ (2,0,0)) (E.χ (3,0,0)) (E.χ (4,0,0)) (objOf c.op) w'
    simp [ofV,h4] at this
    simp [SV.den,SC.den,h4]
    exact this) rfl trivial trivial (fun k hk=>by cases hk) ?_
   repeat (first | simp (maxSteps:=2000000) only [go_sem,↓reduceIte,Nat.reduceLT,Nat.reduceLeDiff,Nat.reduceAdd,Nat.reduceSub,Nat.reduceMul,Nat.reduceEqDiff,reduceCtorEq,Int.reduceToNat,Int.reduceEq,Int.reduceBEq,Int.reduceBNe,Int.reduceLT,Int.reduceLE,Int.reduceNeg,Int.reduceAdd,Int.reduceSub,Int.reduceMul,Int.reduceGE,Int.reduceGT,endO] | rw [dr_cons])
   refine dcallV (.c (.bo (c.op == 50 || c.op == 60))) (.bool (c.op == 50 || c.op == 60)) (fun E=>by rw [den_c,den_b]) (fun E a w' hs=>by
    obtain ⟨ba,cap,hv,_⟩:=(holds_of hs).1 (3,0,0) _ rfl
    have:=full_set ba m.set.length cap c.op w'
    simp only [List.map_cons,List.map_nil,den_c,SC.den,hv,arrOf_len]
    exact this) ?_
   repeat (first | simp (maxSteps:=2000000) only [go_sem,↓reduceIte,Nat.reduceLT,Nat.reduceLeDiff,Nat.reduceAdd,Nat.reduceSub,Nat.reduceMul,Nat.reduceEqDiff,reduceCtorEq,Int.reduceToNat,Int.reduceEq,Int.reduceBEq,Int.reduceBNe,Int.reduceLT,Int.reduceLE,Int.reduceNeg,Int.reduceAdd,Int.reduceSub,Int.reduceMul,Int.reduceGE,Int.reduceGT,endO] | rw [dr_cons])
   have hf:fullB c.op=(c.op == 50 || c.op == 60):=full4 h4
   refine both (fun hf1=>?_) (fun hf1=>?_)
   ·rw [if_pos (by rw [hf];exact hf1)]
    refine callF 5 cT (mcR m) (mcR_id _ _) (fun E a w' hs=>mcopy_Z (cont_at hs 0 rfl rfl rfl rfl rfl) (hok.1.le (by decide))) ?_
    simp (maxSteps:=2000000) only [go_sem,↓reduceIte,Nat.reduceLT,Nat.reduceLeDiff,Nat.reduceAdd,Nat.reduceSub,Nat.reduceMul,Nat.reduceEqDiff,reduceCtorEq,Int.reduceToNat,Int.reduceEq,Int.reduceBEq,Int.reduceBNe,Int.reduceLT,Int.reduceLE,Int.reduceNeg,Int.reduceAdd,Int.reduceSub,Int.reduceMul,Int.reduceGE,Int.reduceGT,endO,cT,mcS,mcR,mcA]
    exact retB5 _ _ _ _ _ (rdN_nw 15 List.mem_cons_self rfl) (rdN_nw 16 List.mem_cons_self rfl) (rdN_nw 17 List.mem_cons_self rfl) (rdN_nw 18 List.mem_cons_self rfl) (rdN_nw 19 List.mem_cons_self rfl) (alT_ok _ _ _ _ _ _ _ fun E=>by rw [den_v])
   ·rw [if_neg (by rw [hf,hf1];simp)]
    exact retB5 _ _ _ _ _ rdN_nil rdN_nil rdN_nil rdN_nil rdN_nil (alT_ok _ _ _ _ _ _ _ fun E=>by rw [den_v])
  by_cases h5:objOf c.op=5
  ·skip
   refine draw_vc (by kernel_rfl) (mkTab_ok _ _) (of_decide_eq_true rfl) (of_decide_eq_true rfl) ?_
   repeat (first | simp (maxSteps:=2000000) only [go_sem,↓reduceIte,Nat.reduceLT,Nat.reduceLeDiff,Nat.reduceAdd,Nat.reduceSub,Nat.reduceMul,Nat.reduceEqDiff,reduceCtorEq,Int.reduceToNat,Int.reduceEq,Int.reduceBEq,Int.reduceBNe,Int.reduceLT,Int.reduceLE,Int.reduceNeg,Int.reduceAdd,Int.reduceSub,Int.reduceMul,Int.reduceGE,Int.reduceGT,endO] | rw [dr_cons])
   repeat (with_reducible refine And.intro (by first | (simp only [maxLen];omega) | omega | decide | (simp;done) | (simp [maxLen];omega)) ?_)
   refine dcallV (.c (.v (.int .i64 (objOf c.op)))) _ (fun E=>rfl) (fun E a w' _=>by
    refine (mObject c.op w').mono ?_
    rintro e w'' ⟨rfl,rfl⟩
    exact ⟨rfl,Below.refl _ _⟩) ?_
   repeat (first | simp (maxSteps:=2000000) only [go_sem,↓reduceIte,Nat.reduceLT,Nat.reduceLeDiff,Nat.reduceAdd,Nat.reduceSub,Nat.reduceMul,Nat.reduceEqDiff,reduceCtorEq,Int.reduceToNat,Int.reduceEq,Int.reduceBEq,Int.reduceBNe,Int.reduceLT,Int.reduceLE,Int.reduceNeg,Int.reduceAdd,Int.reduceSub,Int.reduceMul,Int.reduceGE,Int.reduceGT,endO] | rw [dr_cons])
   refine dcall_intro (ks:=[4]) (cr_valN (.c (.ifc 151 (.xv (4,0,0)))) [4] (List.mem_cons_self) fun E a w' hs=>by
    have:=of_any (E.χ (0,0,0)) (E.χ (1,0,0)) (E.χ (2,0,0)) (E.χ (3,0,0)) (E.χ (4,0,0)) (objOf c.op) w'
    simp [ofV,h5] at this
    simp [SV.den,SC.den,h5]
    exact this) rfl trivial trivial (fun k hk=>by cases hk) ?_
   repeat (first | simp (maxSteps:=2000000) only [go_sem,↓reduceIte,Nat.reduceLT,Nat.reduceLeDiff,Nat.reduceAdd,Nat.reduceSub,Nat.reduceMul,Nat.reduceEqDiff,reduceCtorEq,Int.reduceToNat,Int.reduceEq,Int.reduceBEq,Int.reduceBNe,Int.reduceLT,Int.reduceLE,Int.reduceNeg,Int.reduceAdd,Int.reduceSub,Int.reduceMul,Int.reduceGE,Int.reduceGT,endO] | rw [dr_cons])
   refine dcallV (.c (.bo (c.op == 50 || c.op == 60))) (.bool (c.op == 50 || c.op == 60)) (fun E=>by rw [den_c,den_b]) (fun E a w' hs=>by
    obtain ⟨ba,cap,hv,_⟩:=(holds_of hs).1 (4,0,0) _ rfl
    have:=full_table ba m.table.length cap c.op w'
    simp only [List.map_cons,List.map_nil,den_c,SC.den,hv,arrOf_len]
    exact this) ?_
   repeat (first | simp (maxSteps:=2000000) only [go_sem,↓reduceIte,Nat.reduceLT,Nat.reduceLeDiff,Nat.reduceAdd,Nat.reduceSub,Nat.reduceMul,Nat.reduceEqDiff,reduceCtorEq,Int.reduceToNat,Int.reduceEq,Int.reduceBEq,Int.reduceBNe,Int.reduceLT,Int.reduceLE,Int.reduceNeg,Int.reduceAdd,Int.reduceSub,Int.reduceMul,Int.reduceGE,Int.reduceGT,endO] | rw [dr_cons])
   have hf:fullB c.op=(c.op == 50 || c.op == 60):=full5 h5
   refine both (fun hf1=>?_) (fun hf1=>?_)
   ·rw [if_pos (by rw [hf];exact hf1)]
    refine callF 5 cT (mcR m) (mcR_id _ _) (fun E a w' hs=>mcopy_Z (cont_at hs 0 rfl rfl rfl rfl rfl) (hok.1.le (by decide))) ?_
    simp (maxSteps:=2000000) only [go_sem,↓reduceIte,Nat.reduceLT,Nat.reduceLeDiff,Nat.reduceAdd,Nat.reduceSub,Nat.reduceMul,Nat.reduceEqDiff,reduceCtorEq,Int.reduceToNat,Int.reduceEq,Int.reduceBEq,Int.reduceBNe,Int.reduceLT,Int.reduceLE,Int.reduceNeg,Int.reduceAdd,Int.reduceSub,Int.reduceMul,Int.reduceGE,Int.reduceGT,endO,cT,mcS,mcR,mcA]
    exact retB5 _ _ _ _ _ (rdN_nw 15 List.mem_cons_self rfl) (rdN_nw 16 List.mem_cons_self rfl) (rdN_nw 17 List.mem_cons_self rfl) (rdN_nw 18 List.mem_cons_self rfl) (rdN_nw 19 List.mem_cons_self rfl) (alT_ok _ _ _ _ _ _ _ fun E=>by rw [den_v])
   ·rw [if_neg (by rw [hf,hf1];simp)]
    exact retB5 _ _ _ _ _ rdN_nil rdN_nil rdN_nil rdN_nil rdN_nil (alT_ok _ _ _ _ _ _ _ fun E=>by rw [den_v])
  rcases objOf_six c.op with h | h | h | h | h | h
  ·exact absurd h ho
  ·exact absurd h h1
  ·exact absurd h h2
  ·exact absurd h h3
  ·exact absurd h h4
  ·exact absurd h h5
 have h4:c.kind≠4:=by simpa using h4
 refine both (fun he=>?_) (fun he=>?_)
 ·have he:c.kind=(doM m c.op c.arg c.data).2.1∧c.val=(doM m c.op c.arg c.data).2.2:=by simpa using he
  have hd:allowM m c=((doM m c.op c.arg c.data).1,true):=by unfold allowM;rw [if_neg hk,if_neg h4,if_pos he]
  rw [hd]
  exact retB5 _ _ _ _ _ (rdN_nw 8 List.mem_cons_self rfl) (rdN_nw 9 List.mem_cons_self rfl) (rdN_nw 10 List.mem_cons_self rfl) (rdN_nw 11 List.mem_cons_self rfl) (rdN_nw 12 List.mem_cons_self rfl) (alT_ok _ _ _ _ _ _ _ fun E=>by rw [den_v])
 ·have he:¬ (c.kind=(doM m c.op c.arg c.data).2.1∧c.val=(doM m c.op c.arg c.data).2.2):=by
   intro h
   rw [h.1,h.2] at he
   simp at he
  have hd:allowM m c=(mc0,false):=by unfold allowM;rw [if_neg hk,if_neg h4,if_neg he]
  rw [hd]
  exact retB5 _ _ _ _ _ rdN_nil rdN_nil rdN_nil rdN_nil rdN_nil (alT_ok _ _ _ _ _ _ _ fun E=>by rw [den_v])
end Go.Proofs.Ytkjeedlkkpgopaa.Z
