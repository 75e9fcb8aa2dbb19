/- WitnessFindsSaid: what its proof is made of. No condition. -/
import Derived.Test.YtkjeedlkkpgopaaPkWitnessFindsAR
set_option linter.unusedSimpArgs false
set_option linter.unusedVariables false
namespace Go.Proofs.Ytkjeedlkkpgopaa.Z
open Go Go.RowKit
set_option maxRecDepth 100000 in
set_option maxHeartbeats 2000000 in
theorem walkF_calls:∀ (k:Nat) (w:World) (v vo vm:Value) (xs:List Cl) (o:List Nat) (m:MC) (hk:k≤9) (h8:(nmA xs).length≤8) (h0:Arr w Cl.enc 9 v xs) (h:Arr w eI 1 vo (oI o)) (hc:Cont w vm m)
  (hm:mayB m=true) (hu:m.upto o.length) (hf:(nmA xs).length+1≤k+o.length) (hn:o.Nodup) (hs:∀ i∈o,i∈nmA xs),Calls Try.prog 52 #[v,vm,vo,.bool false] w (RetN w 1 (wkU (wkN false (srX xs k o m)) (wkL (srX xs k o m)).length) (lsO 3 1 eI (oI (wkL (srX xs k o m))) 0)):=by
 intro k
 induction k with
 | zero =>
  intro w v vo vm xs o m hk h8 h0 h hc hm hu hf hn hs
  have:=len_sub hn hs
  omega
 | succ k ih =>
  intro w v vo vm xs o m hk h8 h0 h hc hm hu hf hn hs
  have hol:=len_sub hn hs
  have hok:MC.okR m:=hu.okR (by omega)
  have hlb:bnd (k+1)≤153391689:=Nat.le_trans (bnd_mono (show k+1≤9 by omega)) (by decide)
  have hlen:=Z.Arr.lenM h0
  simp only [maxLen] at hlen
  have hoil:=oI_len o
  have hlt:∀ i∈o,i<xs.length:=fun i hi=>(nmA_mem (hs i hi)).1
  refine enterOC (A:=[]) (c:=ir52) (rs:=rs52) (nt:=nt52) false h0 h hc Try.func52 rfl (by kernel_rfl) (by kernel_rfl) rfl (of_decide_eq_true rfl) ?_
  rw [srX_succ]
  generalize hR:RetN w 1 _ _=R
  generalize hBB:(if (hY xs).whole (nmA xs) o=true then [o] else [])=B at hR
  simp (maxSteps:=2000000) only [ir52,nt52,rs52,go_sem,↓reduceIte,Nat.reduceLT,Nat.reduceLeDiff,Nat.reduceAdd,Nat.reduceSub,Nat.reduceMul,Nat.reduceEqDiff,reduceCtorEq,Int.reduceToNat,Int.reduceEq,Int.reduceBEq,Int.reduceBNe,Int.reduceLT,Int.reduceLE,Int.reduceNeg,Int.reduceAdd,Int.reduceSub,Int.reduceMul,Int.reduceGE,Int.reduceGT,Cl.enc,iv,endO,mcS,mcA]
  refine callV (.c (.bo ((hY xs).whole (nmA xs) o))) _ (fun E=>rfl) (fun E a w' hs2=>by
   have:=isorder_calls w' _ _ xs (oI o) (arr_at (d:=cl0) hs2 0 rfl) (arr_at (d:=0) hs2 1 rfl)
   rw [iso_whole hn hs] at this
   exact this) ?_
  simp (maxSteps:=2000000) only [go_sem,↓reduceIte,Nat.reduceLT,Nat.reduceLeDiff,Nat.reduceAdd,Nat.reduceSub,Nat.reduceMul,Nat.reduceEqDiff,reduceCtorEq,Int.reduceToNat,Int.reduceEq,Int.reduceBEq,Int.reduceBNe,Int.reduceLT,Int.reduceLE,Int.reduceNeg,Int.reduceAdd,Int.reduceSub,Int.reduceMul,Int.reduceGE,Int.reduceGT,Cl.enc,iv,endO]
  refine both (fun hw=>?_) (fun hw=>?_)
  ·refine And.intro (by simp only [maxLen];omega) ?_
   rw [hw,if_pos rfl] at hBB
   subst hBB
   obtain ⟨B,hB⟩:∃ B:List (List Nat),B=[o]:=⟨_,rfl⟩
   rw [← hB] at hR
   have hB1:B.length≤1:=by rw [hB];simp
   refine loopI (ι:={ n:Nat // n≤xs.length }) (fun n=>⟨83,[(0,.c (.xv (0,0,0))),(2,.c (.xv (1,0,0))),(3,.c (.v (.bool false))),(5,.c (.ptr (7,0,0) 0)),(10,.c (.v (.int .i64 ((B++sgX xs k o m n.1).length:Nat)))),(11,.c (.sl (8,0,0) 1 0 (oI (wkL (B++sgX xs k o m n.1))).length none)),(12,.c (.v (.int .i64 (n.1:Nat))))],
     [(7,.one (.bk (mcS 2) 70)),(8,.one (.ar (oI (wkL (B++sgX xs k o m n.1))).length 1 (ats eI (oI (wkL (B++sgX xs k o m n.1))) 0) 3))],
     (0,.one (arrOf Cl.enc 9 xs cl0)) :: (1,.one (arrOf eI 1 (oI o) 0)) :: mcA 2 m,[],9⟩) (fun n=>xs.length - n.1) ⟨0,by omega⟩ ?_ ?_
   ·simp only [mcS,mcA,List.cons_append,List.nil_append]
    exact le_ren id rfl rfl (by simp [TmpsLe,look,SV.ren,SC.ren,SC.renL,idσ,SV.okN,SC.okN,SC.okL,hB,sgX,wkL]) (by simp [OwnLe,BlkLeO,BlkLe,atN,look,Fm.get,idσ,SC.renL,SC.ren,SC.okL,SC.okN,renL_v,okL_v,ren_ats,ok_ats,hB,sgX,wkL,arrOf,ats]) (by simp [ArrsLe,ArrLeO,atN,look,Fm.get,idσ,arrLe_of,arrLe_0]) rfl
   rintro ⟨n,hnx⟩
   simp (maxSteps:=2000000) only [go_sem,↓reduceIte,Nat.reduceLT,Nat.reduceLeDiff,Nat.reduceAdd,Nat.reduceSub,Nat.reduceMul,Nat.reduceEqDiff,reduceCtorEq,Int.reduceToNat,Int.reduceEq,Int.reduceBEq,Int.reduceBNe,Int.reduceLT,Int.reduceLE,Int.reduceNeg,Int.reduceAdd,Int.reduceSub,Int.reduceMul,Int.reduceGE,Int.reduceGT,Cl.enc,iv,endO,mcS,mcA,List.cons_append,List.nil_append]
   refine both (fun hlt2=>?_) (fun hge=>?_)
   ·rw [decide_eq_true_eq] at hlt2
    have hlt2:n<xs.length:=by omega
    have hsc:=sgX_succ xs k o m n
    have hl1:=sgX_len xs h8 k o m (show n≤xs.length by omega)
    have hl2:=sgX_len xs h8 k o m (show n+1≤xs.length from hlt2)
    have hal:(hY xs).al m n=allowM m (xs.getD n cl0):=rfl
    rw [hal] at hsc
    refine callV (.c (.bo (cntB (xs.getD n cl0) && (hY xs).nextR o n))) _ (fun E=>rfl) (fun E a w' hs2=>rnext_calls w' _ _ xs o n hlt2 hlt (arr_at (d:=cl0) hs2 0 rfl) (arr_at (d:=0) hs2 1 rfl)) ?_
    simp (maxSteps:=2000000) only [go_sem,↓reduceIte,Nat.reduceLT,Nat.reduceLeDiff,Nat.reduceAdd,Nat.reduceSub,Nat.reduceMul,Nat.reduceEqDiff,reduceCtorEq,Int.reduceToNat,Int.reduceEq,Int.reduceBEq,Int.reduceBNe,Int.reduceLT,Int.reduceLE,Int.reduceNeg,Int.reduceAdd,Int.reduceSub,Int.reduceMul,Int.reduceGE,Int.reduceGT,Cl.enc,iv,endO,mcS,mcA,List.cons_append,List.nil_append]
    refine both (fun hb=>?_) (fun hb=>?_)
    ·have hb:(cntB (xs.getD n cl0) && (hY xs).nextR o n)=false:=by revert hb;cases (cntB (xs.getD n cl0) && (hY xs).nextR o n) <;> simp
     rw [hb,if_neg (by simp),List.append_nil] at hsc
     rw [wr_succ (by omega)]
     exact backI ⟨n+1,hlt2⟩ (by simp only;omega) (by simp only [mcS,mcA,List.cons_append,List.nil_append];exact le_ren (id) rfl rfl (by simp [TmpsLe,look,SV.ren,SC.ren,SC.renL,idσ,SV.okN,SC.okN,SC.okL,hsc]) (by simp [OwnLe,BlkLeO,BlkLe,atN,look,Fm.get,idσ,SC.renL,SC.ren,SC.okL,SC.okN,renL_v,okL_v,ren_ats,ok_ats,hsc]) (by simp [ArrsLe,ArrLeO,atN,look,Fm.get,idσ,arrLe_of,arrLe_0]) rfl)
    ·have hb:(cntB (xs.getD n cl0) && (hY xs).nextR o n)=true:=by revert hb;cases (cntB (xs.getD n cl0) && (hY xs).nextR o n) <;> simp
     rw [if_pos hb] at hsc
     have hcn:cntB (xs.getD n cl0)=true:=(Bool.and_eq_true _ _ ▸ hb).1
     have hio:=(nextR_iff.1 (Bool.and_eq_true _ _ ▸ hb).2).1
     have hob:objOf (xs.getD n cl0).op≠0:=by simpa [cntB] using hcn
     refine draw_vc (by kernel_rfl) (mkTab_ok _ _) (of_decide_eq_true rfl) (of_decide_eq_true rfl) ?_
     repeat (first | simp (maxSteps:=2000000) only [go_sem,↓reduceIte,Nat.reduceLT,Nat.reduceLeDiff,Nat.reduceAdd,Nat.reduceSub,Nat.reduceMul,Nat.reduceEqDiff,reduceCtorEq,Int.reduceToNat,Int.reduceEq,Int.reduceBEq,Int.reduceBNe,Int.reduceLT,Int.reduceLE,Int.reduceNeg,Int.reduceAdd,Int.reduceSub,Int.reduceMul,Int.reduceGE,Int.reduceGT,Cl.enc,iv,endO,mcS,mcA] | rw [dr_cons])
     refine And.intro hlt2 (And.intro hlt2 ?_)
     refine dcallL 5 (ralT (allowM m (xs.getD n cl0))) (mcR (allowM m (xs.getD n cl0)).1) (mcR_sz _) (fun E a w' hs=>ral_Z (xs.getD n cl0) (cont_at hs 2 rfl rfl rfl rfl rfl) hok hm hob) ?_ ?_
     ·simp [newOk,keysL,low_mcR,mcA]
     repeat (first | simp (maxSteps:=2000000) only [go_sem,↓reduceIte,Nat.reduceLT,Nat.reduceLeDiff,Nat.reduceAdd,Nat.reduceSub,Nat.reduceMul,Nat.reduceEqDiff,reduceCtorEq,Int.reduceToNat,Int.reduceEq,Int.reduceBEq,Int.reduceBNe,Int.reduceLT,Int.reduceLE,Int.reduceNeg,Int.reduceAdd,Int.reduceSub,Int.reduceMul,Int.reduceGE,Int.reduceGT,Cl.enc,iv,endO,ralT,mcS,low_mcR,mcA,mkC_B] | rw [dr_cons])
     refine And.intro (Or.inl trivial) (And.intro (Or.inr trivial) ?_)
     have hup:=allowM_upto (c:=xs.getD n cl0) hu
     have hmy:=allowM_may (c:=xs.getD n cl0) hm
     generalize allowM m (xs.getD n cl0)=p at hsc hup hmy ⊢
     obtain ⟨m2,b⟩:=p
     simp only at hsc hup hmy
     refine both (fun hbb=>?_) (fun hbb=>?_)
     ·have hbb:b=false:=by simpa using hbb
      rw [hbb,if_neg (by simp),List.append_nil] at hsc
      rw [wr_succ (by omega)]
      exact backI ⟨n+1,hlt2⟩ (by simp only;omega) (by simp only [mcS,mcA,List.cons_append,List.nil_append];exact le_ren (id) rfl rfl (by simp [TmpsLe,look,SV.ren,SC.ren,SC.renL,idσ,SV.okN,SC.okN,SC.okL,hsc]) (by simp [OwnLe,BlkLeO,BlkLe,atN,look,Fm.get,idσ,SC.renL,SC.ren,SC.okL,SC.okN,renL_v,okL_v,ren_ats,ok_ats,hsc]) (by simp [ArrsLe,ArrLeO,atN,look,Fm.get,idσ,arrLe_of,arrLe_0]) rfl)
     ·have hbb:b=true:=by simpa using hbb
      rw [if_pos hbb] at hsc
      have hf8:((oI o).length+1+((oI o).length+1) / 4+192) * 8≤281474976710656:=fit_app8 _ (by omega)
      have hml:(oI o).length+1≤maxLen:=by simp only [maxLen];omega
      have hml0:(oI o).length * 8≤281474976710656∧(oI o).length≤maxLen:=by simp only [maxLen];omega
      have hnn:(o++[n]).Nodup:=by
       rw [List.nodup_append]
       exact ⟨hn,by simp,fun a ha b hb=>by rw [List.mem_singleton] at hb;exact fun e=>hio (by rw [← hb,← e];exact ha)⟩
      have hss:∀ j∈o++[n],j∈nmA xs:=fun j hj=>by
       rcases List.mem_append.1 hj with hj | hj
       ·exact hs j hj
       ·rw [List.mem_singleton] at hj;exact hj ▸ List.mem_filter.2 ⟨List.mem_range.2 hlt2,hcn⟩
      have hll:(o++[n]).length=o.length+1:=by simp
      refine And.intro hml0 (And.intro (by decide) (And.intro (And.intro (Nat.le_refl _) (And.intro hf8 hml)) ?_))
      clear hf8 hml hml0
      refine callN 1 (wkU (wkN false (srX xs k (o++[n]) m2)) (wkL (srX xs k (o++[n]) m2)).length) (lsO 3 1 eI (oI (wkL (srX xs k (o++[n]) m2))) 0) (fun E a w' hs2=>ih w' _ _ _ xs (o++[n]) m2 (by omega) h8 (arr_at (d:=cl0) hs2 0 rfl)
       (arr_own (d:=0) hs2 17 ((oI o).length+1) _ _ rfl (by rw [oI_push];simp) (by rw [oI_push];simp) (fun e he=>ats_push (oI_push o n) rfl (fun e he=>rfl) rfl e he)) (cont_at hs2 9 rfl rfl rfl rfl rfl) hmy (by rw [hll];exact hup) (by rw [hll];omega) hnn hss) ?_
      generalize srX xs k (o++[n]) m2=S' at hsc ⊢
      have hcat:B++sgX xs k o m (n+1)=(B++sgX xs k o m n)++S':=by rw [hsc,List.append_assoc]
      have hcl:=congrArg List.length hcat
      simp only [List.length_append] at hcl
      have hwn:wkN false S' = (S'.length:Nat):=by simp [wkN]
      rw [hwn]
      simp (maxSteps:=2000000) only [go_sem,↓reduceIte,Nat.reduceLT,Nat.reduceLeDiff,Nat.reduceAdd,Nat.reduceSub,Nat.reduceMul,Nat.reduceEqDiff,reduceCtorEq,Int.reduceToNat,Int.reduceEq,Int.reduceBEq,Int.reduceBNe,Int.reduceLT,Int.reduceLE,Int.reduceNeg,Int.reduceAdd,Int.reduceSub,Int.reduceMul,Int.reduceGE,Int.reduceGT,Cl.enc,iv,endO,wkU,lsO]
      have hwp:IntKind.i64.wrap (((B++sgX xs k o m n).length:Nat)+((S'.length:Nat):Int))=((B++sgX xs k o m (n+1)).length:Nat):=by
       rw [List.length_append,List.length_append,wr64 (by omega) (by omega)];omega
      rw [hwp,wr_succ (by omega)]
      refine both (fun hy=>?_) (fun hy=>?_)
      ·have hcn:B++sgX xs k o m n=[]:=by
        by_cases e:B++sgX xs k o m n=[]
        ·exact e
        ·exfalso
         have:((((B++sgX xs k o m n).length:Nat):Int) == 0)=false:=by
          have:=List.length_pos_iff.2 e
          simp only [beq_eq_false_iff_ne,ne_eq];omega
         rw [this] at hy
         simp at hy
       have hwk:wkL (B++sgX xs k o m (n+1))=wkL S':=by rw [hcat,hcn,List.nil_append]
       exact backI ⟨n+1,hlt2⟩ (by simp only;omega) (by simp only [mcS,mcA,List.cons_append,List.nil_append];exact le_ren (fun i=>if i=8 then 18 else i) rfl rfl (by simp [TmpsLe,look,SV.ren,SC.ren,SC.renL,idσ,SV.okN,SC.okN,SC.okL,hwk,oI_len]) (by simp [OwnLe,BlkLeO,BlkLe,atN,look,Fm.get,idσ,SC.renL,SC.ren,SC.okL,SC.okN,renL_v,okL_v,ren_ats,ok_ats,hwk,oI_len]) (by simp [ArrsLe,ArrLeO,atN,look,Fm.get,idσ,arrLe_of,arrLe_0]) rfl)
      ·have hwk:wkL (B++sgX xs k o m (n+1))=wkL (B++sgX xs k o m n):=by
        rw [hcat]
        cases hcu:B++sgX xs k o m n with
        | cons y l=>rfl
        | nil =>
         rw [hcu] at hy
         cases S' with
         | nil=>rfl
         | cons y l=>simp at hy
       exact backI ⟨n+1,hlt2⟩ (by simp only;omega) (by simp only [mcS,mcA,List.cons_append,List.nil_append];exact le_ren (id) rfl rfl (by simp [TmpsLe,look,SV.ren,SC.ren,SC.renL,idσ,SV.okN,SC.okN,SC.okL,hwk]) (by simp [OwnLe,BlkLeO,BlkLe,atN,look,Fm.get,idσ,SC.renL,SC.ren,SC.okL,SC.okN,renL_v,okL_v,ren_ats,ok_ats,hwk]) (by simp [ArrsLe,ArrLeO,atN,look,Fm.get,idσ,arrLe_of,arrLe_0]) rfl)
   ·rw [decide_eq_false_iff_not] at hge
    have hin:n=xs.length:=by omega
    subst hin
    rw [← hR]
    exact wk_ret (z:=((B++sgX xs k o m xs.length).length:Nat)) 8 _ (wkL (B++sgX xs k o m xs.length)) _ rfl (Nat.le_refl _) (fun e he=>rfl) rfl
  ·rw [hw,if_neg (by simp)] at hBB
   subst hBB
   obtain ⟨B,hB⟩:∃ B:List (List Nat),B=[]:=⟨_,rfl⟩
   rw [← hB] at hR
   have hB1:B.length≤1:=by rw [hB];simp
   refine loopI (ι:={ n:Nat // n≤xs.length }) (fun n=>⟨83,[(0,.c (.xv (0,0,0))),(2,.c (.xv (1,0,0))),(3,.c (.v (.bool false))),(5,.c (.ptr (7,0,0) 0)),(10,.c (.v (.int .i64 ((B++sgX xs k o m n.1).length:Nat)))),(11,.c (.sl (8,0,0) 1 0 (oI (wkL (B++sgX xs k o m n.1))).length none)),(12,.c (.v (.int .i64 (n.1:Nat))))],
     [(7,.one (.bk (mcS 2) 70)),(8,.one (.ar (oI (wkL (B++sgX xs k o m n.1))).length 1 (ats eI (oI (wkL (B++sgX xs k o m n.1))) 0) 3))],
     (0,.one (arrOf Cl.enc 9 xs cl0)) :: (1,.one (arrOf eI 1 (oI o) 0)) :: mcA 2 m,[],9⟩) (fun n=>xs.length - n.1) ⟨0,by omega⟩ ?_ ?_
   ·refine le_tr (le_nilown (tmps':=[(0,.c (.xv (0,0,0))),(2,.c (.xv (1,0,0))),(3,.c (.v (.bool false))),(5,.c (.ptr (7,0,0) 0)),(10,.c (.v (.int .i64 0))),(11,.c (.sl (8,0,0) 1 0 0 none)),(12,.c (.v (.int .i64 0)))]) 1 3 (ats eI (oI []) 0) (by simp [TmpsNil,look]) rfl) ?_
    simp only [mcS,mcA,List.cons_append,List.nil_append]
    exact le_ren id rfl rfl (by simp [TmpsLe,look,SV.ren,SC.ren,SC.renL,idσ,SV.okN,SC.okN,SC.okL,hB,sgX,wkL,oI]) (by simp [OwnLe,BlkLeO,BlkLe,atN,look,Fm.get,idσ,SC.renL,SC.ren,SC.okL,SC.okN,renL_v,okL_v,ren_ats,ok_ats,hB,sgX,wkL,oI]) (by simp [ArrsLe,ArrLeO,atN,look,Fm.get,idσ,arrLe_of,arrLe_0]) rfl
   rintro ⟨n,hnx⟩
   simp (maxSteps:=2000000) only [go_sem,↓reduceIte,Nat.reduceLT,Nat.reduceLeDiff,Nat.reduceAdd,Nat.reduceSub,Nat.reduceMul,Nat.reduceEqDiff,reduceCtorEq,Int.reduceToNat,Int.reduceEq,Int.reduceBEq,Int.reduceBNe,Int.reduceLT,Int.reduceLE,Int.reduceNeg,Int.reduceAdd,Int.reduceSub,Int.reduceMul,Int.reduceGE,Int.reduceGT,Cl.enc,iv,endO,mcS,mcA,List.cons_append,List.nil_append]
   refine both (fun hlt2=>?_) (fun hge=>?_)
   ·rw [decide_eq_true_eq] at hlt2
    have hlt2:n<xs.length:=by omega
    have hsc:=sgX_succ xs k o m n
    have hl1:=sgX_len xs h8 k o m (show n≤xs.length by omega)
    have hl2:=sgX_len xs h8 k o m (show n+1≤xs.length from hlt2)
    have hal:(hY xs).al m n=allowM m (xs.getD n cl0):=rfl
    rw [hal] at hsc
    refine callV (.c (.bo (cntB (xs.getD n cl0) && (hY xs).nextR o n))) _ (fun E=>rfl) (fun E a w' hs2=>rnext_calls w' _ _ xs o n hlt2 hlt (arr_at (d:=cl0) hs2 0 rfl) (arr_at (d:=0) hs2 1 rfl)) ?_
    simp (maxSteps:=2000000) only [go_sem,↓reduceIte,Nat.reduceLT,Nat.reduceLeDiff,Nat.reduceAdd,Nat.reduceSub,Nat.reduceMul,Nat.reduceEqDiff,reduceCtorEq,Int.reduceToNat,Int.reduceEq,Int.reduceBEq,Int.reduceBNe,Int.reduceLT,Int.reduceLE,Int.reduceNeg,Int.reduceAdd,Int.reduceSub,Int.reduceMul,Int.reduceGE,Int.reduceGT,Cl.enc,iv,endO,mcS,mcA,List.cons_append,List.nil_append]
    refine both (fun hb=>?_) (fun hb=>?_)
    ·have hb:(cntB (xs.getD n cl0) && (hY xs).nextR o n)=false:=by revert hb;cases (cntB (xs.getD n cl0) && (hY xs).nextR o n) <;> simp
     rw [hb,if_neg (by simp),List.append_nil] at hsc
     rw [wr_succ (by omega)]
     exact backI ⟨n+1,hlt2⟩ (by simp only;omega) (by simp only [mcS,mcA,List.cons_append,List.nil_append];exact le_ren (id) rfl rfl (by simp [TmpsLe,look,SV.ren,SC.ren,SC.renL,idσ,SV.okN,SC.okN,SC.okL,hsc]) (by simp [OwnLe,BlkLeO,BlkLe,atN,look,Fm.get,idσ,SC.renL,SC.ren,SC.okL,SC.okN,renL_v,okL_v,ren_ats,ok_ats,hsc]) (by simp [ArrsLe,ArrLeO,atN,look,Fm.get,idσ,arrLe_of,arrLe_0]) rfl)
    ·have hb:(cntB (xs.getD n cl0) && (hY xs).nextR o n)=true:=by revert hb;cases (cntB (xs.getD n cl0) && (hY xs).nextR o n) <;> simp
     rw [if_pos hb] at hsc
     have hcn:cntB (xs.getD n cl0)=true:=(Bool.and_eq_true _ _ ▸ hb).1
     have hio:=(nextR_iff.1 (Bool.and_eq_true _ _ ▸ hb).2).1
     have hob:objOf (xs.getD n cl0).op≠0:=by simpa [cntB] using hcn
     refine draw_vc (by kernel_rfl) (mkTab_ok _ _) (of_decide_eq_true rfl) (of_decide_eq_true rfl) ?_
     repeat (first | simp (maxSteps:=2000000) only [go_sem,↓reduceIte,Nat.reduceLT,Nat.reduceLeDiff,Nat.reduceAdd,Nat.reduceSub,Nat.reduceMul,Nat.reduceEqDiff,reduceCtorEq,Int.reduceToNat,Int.reduceEq,Int.reduceBEq,Int.reduceBNe,Int.reduceLT,Int.reduceLE,Int.reduceNeg,Int.reduceAdd,Int.reduceSub,Int.reduceMul,Int.reduceGE,Int.reduceGT,Cl.enc,iv,endO,mcS,mcA] | rw [dr_cons])
     refine And.intro hlt2 (And.intro hlt2 ?_)
     refine dcallL 5 (ralT (allowM m (xs.getD n cl0))) (mcR (allowM m (xs.getD n cl0)).1) (mcR_sz _) (fun E a w' hs=>ral_Z (xs.getD n cl0) (cont_at hs 2 rfl rfl rfl rfl rfl) hok hm hob) ?_ ?_
     ·simp [newOk,keysL,low_mcR,mcA]
     repeat (first | simp (maxSteps:=2000000) only [go_sem,↓reduceIte,Nat.reduceLT,Nat.reduceLeDiff,Nat.reduceAdd,Nat.reduceSub,Nat.reduceMul,Nat.reduceEqDiff,reduceCtorEq,Int.reduceToNat,Int.reduceEq,Int.reduceBEq,Int.reduceBNe,Int.reduceLT,Int.reduceLE,Int.reduceNeg,Int.reduceAdd,Int.reduceSub,Int.reduceMul,Int.reduceGE,Int.reduceGT,Cl.enc,iv,endO,ralT,mcS,low_mcR,mcA,mkC_B] | rw [dr_cons])
     refine And.intro (Or.inl trivial) (And.intro (Or.inr trivial) ?_)
     have hup:=allowM_upto (c:=xs.getD n cl0) hu
     have hmy:=allowM_may (c:=xs.getD n cl0) hm
     generalize allowM m (xs.getD n cl0)=p at hsc hup hmy ⊢
     obtain ⟨m2,b⟩:=p
     simp only at hsc hup hmy
     refine both (fun hbb=>?_) (fun hbb=>?_)
     ·have hbb:b=false:=by simpa using hbb
      rw [hbb,if_neg (by simp),List.append_nil] at hsc
      rw [wr_succ (by omega)]
      exact backI ⟨n+1,hlt2⟩ (by simp only;omega) (by simp only [mcS,mcA,List.cons_append,List.nil_append];exact le_ren (id) rfl rfl (by simp [TmpsLe,look,SV.ren,SC.ren,SC.renL,idσ,SV.okN,SC.okN,SC.okL,hsc]) (by simp [OwnLe,BlkLeO,BlkLe,atN,look,Fm.get,idσ,SC.renL,SC.ren,SC.okL,SC.okN,renL_v,okL_v,ren_ats,ok_ats,hsc]) (by simp [ArrsLe,ArrLeO,atN,look,Fm.get,idσ,arrLe_of,arrLe_0]) rfl)
     ·have hbb:b=true:=by simpa using hbb
      rw [if_pos hbb] at hsc
      have hf8:((oI o).length+1+((oI o).length+1) / 4+192) * 8≤281474976710656:=fit_app8 _ (by omega)
      have hml:(oI o).length+1≤maxLen:=by simp only [maxLen];omega
      have hml0:(oI o).length * 8≤281474976710656∧(oI o).length≤maxLen:=by simp only [maxLen];omega
      have hnn:(o++[n]).Nodup:=by
       rw [List.nodup_append]
       exact ⟨hn,by simp,fun a ha b hb=>by rw [List.mem_singleton] at hb;exact fun e=>hio (by rw [← hb,← e];exact ha)⟩
      have hss:∀ j∈o++[n],j∈nmA xs:=fun j hj=>by
       rcases List.mem_append.1 hj with hj | hj
       ·exact hs j hj
       ·rw [List.mem_singleton] at hj;exact hj ▸ List.mem_filter.2 ⟨List.mem_range.2 hlt2,hcn⟩
      have hll:(o++[n]).length=o.length+1:=by simp
      refine And.intro hml0 (And.intro (by decide) (And.intro (And.intro (Nat.le_refl _) (And.intro hf8 hml)) ?_))
      clear hf8 hml hml0
      refine callN 1 (wkU (wkN false (srX xs k (o++[n]) m2)) (wkL (srX xs k (o++[n]) m2)).length) (lsO 3 1 eI (oI (wkL (srX xs k (o++[n]) m2))) 0) (fun E a w' hs2=>ih w' _ _ _ xs (o++[n]) m2 (by omega) h8 (arr_at (d:=cl0) hs2 0 rfl)
       (arr_own (d:=0) hs2 17 ((oI o).length+1) _ _ rfl (by rw [oI_push];simp) (by rw [oI_push];simp) (fun e he=>ats_push (oI_push o n) rfl (fun e he=>rfl) rfl e he)) (cont_at hs2 9 rfl rfl rfl rfl rfl) hmy (by rw [hll];exact hup) (by rw [hll];omega) hnn hss) ?_
      generalize srX xs k (o++[n]) m2=S' at hsc ⊢
      have hcat:B++sgX xs k o m (n+1)=(B++sgX xs k o m n)++S':=by rw [hsc,List.append_assoc]
      have hcl:=congrArg List.length hcat
      simp only [List.length_append] at hcl
      have hwn:wkN false S' = (S'.length:Nat):=by simp [wkN]
      rw [hwn]
      simp (maxSteps:=2000000) only [go_sem,↓reduceIte,Nat.reduceLT,Nat.reduceLeDiff,Nat.reduceAdd,Nat.reduceSub,Nat.reduceMul,Nat.reduceEqDiff,reduceCtorEq,Int.reduceToNat,Int.reduceEq,Int.reduceBEq,Int.reduceBNe,Int.reduceLT,Int.reduceLE,Int.reduceNeg,Int.reduceAdd,Int.reduceSub,Int.reduceMul,Int.reduceGE,Int.reduceGT,Cl.enc,iv,endO,wkU,lsO]
      have hwp:IntKind.i64.wrap (((B++sgX xs k o m n).length:Nat)+((S'.length:Nat):Int))=((B++sgX xs k o m (n+1)).length:Nat):=by
       rw [List.length_append,List.length_append,wr64 (by omega) (by omega)];omega
      rw [hwp,wr_succ (by omega)]
      refine both (fun hy=>?_) (fun hy=>?_)
      ·have hcn:B++sgX xs k o m n=[]:=by
        by_cases e:B++sgX xs k o m n=[]
        ·exact e
        ·exfalso
         have:((((B++sgX xs k o m n).length:Nat):Int) == 0)=false:=by
          have:=List.length_pos_iff.2 e
          simp only [beq_eq_false_iff_ne,ne_eq];omega
         rw [this] at hy
         simp at hy
       have hwk:wkL (B++sgX xs k o m (n+1))=wkL S':=by rw [hcat,hcn,List.nil_append]
       exact backI ⟨n+1,hlt2⟩ (by simp only;omega) (by simp only [mcS,mcA,List.cons_append,List.nil_append];exact le_ren (fun i=>if i=8 then 18 else i) rfl rfl (by simp [TmpsLe,look,SV.ren,SC.ren,SC.renL,idσ,SV.okN,SC.okN,SC.okL,hwk,oI_len]) (by simp [OwnLe,BlkLeO,BlkLe,atN,look,Fm.get,idσ,SC.renL,SC.ren,SC.okL,SC.okN,renL_v,okL_v,ren_ats,ok_ats,hwk,oI_len]) (by simp [ArrsLe,ArrLeO,atN,look,Fm.get,idσ,arrLe_of,arrLe_0]) rfl)
      ·have hwk:wkL (B++sgX xs k o m (n+1))=wkL (B++sgX xs k o m n):=by
        rw [hcat]
        cases hcu:B++sgX xs k o m n with
        | cons y l=>rfl
        | nil =>
         rw [hcu] at hy
         cases S' with
         | nil=>rfl
         | cons y l=>simp at hy
       exact backI ⟨n+1,hlt2⟩ (by simp only;omega) (by simp only [mcS,mcA,List.cons_append,List.nil_append];exact le_ren (id) rfl rfl (by simp [TmpsLe,look,SV.ren,SC.ren,SC.renL,idσ,SV.okN,SC.okN,SC.okL,hwk]) (by simp [OwnLe,BlkLeO,BlkLe,atN,look,Fm.get,idσ,SC.renL,SC.ren,SC.okL,SC.okN,renL_v,okL_v,ren_ats,ok_ats,hwk]) (by simp [ArrsLe,ArrLeO,atN,look,Fm.get,idσ,arrLe_of,arrLe_0]) rfl)
   ·rw [decide_eq_false_iff_not] at hge
    have hin:n=xs.length:=by omega
    subst hin
    rw [← hR]
    exact wk_ret (z:=((B++sgX xs k o m xs.length).length:Nat)) 8 _ (wkL (B++sgX xs k o m xs.length)) _ rfl (Nat.le_refl _) (fun e he=>rfl) rfl
end Go.Proofs.Ytkjeedlkkpgopaa.Z
namespace Go.Proofs.Ytkjeedlkkpgopaa.Z
open Go Go.RowKit
theorem srX_findL {xs:List Cl} (he:nsE xs=0):oI (wkL (srX xs 9 [] mc0))=findL xs∧(srX xs 9 [] mc0=[]↔allY xs=[])∧(srX xs 9 [] mc0).length=(allY xs).length:=by
 have h8:(nmA xs).length≤8:=by have:=nsE_0 he;rw [cyA_len] at this;exact this
 rw [srX_all h8]
 refine ⟨?_,by simp,by simp⟩
 unfold findL
 rw [if_pos he]
 cases allY xs with
 | nil=>rfl
 | cons y l=>rfl
theorem ns_cases (xs:List Cl):(mayQ xs=false∧nsE xs=120)∨(mayQ xs=true∧8<(nmA xs).length∧nsE xs=3)∨(mayQ xs=true∧(nmA xs).length≤8∧nsE xs=0):=by
 unfold nsE
 show _∨(_∧8<(cidx xs xs.length).length∧_)∨(_∧(cidx xs xs.length).length≤8∧_)
 by_cases h1:mayQ xs=true
 ·rw [if_pos h1]
  by_cases h2:(cidx xs xs.length).length≤8
  ·rw [if_pos h2];exact Or.inr (Or.inr ⟨h1,h2,rfl⟩)
  ·rw [if_neg h2];exact Or.inr (Or.inl ⟨h1,by omega,rfl⟩)
 ·rw [if_neg h1];exact Or.inl ⟨by simpa using h1,rfl⟩
def ir27:IR:=(.seq (.ops [⟨(some 2),(.mv (.k (.c (.v (.slice none 0 0))))),none⟩,⟨(some 3),(.mv (.k (.c (.v (.int .i64 0))))),none⟩]) (.kill [1,2,3,4,5,6,7,8,9,10,11] (.seq (.seq (.ops [⟨(some 6),(.mv (.t 0)),none⟩,⟨(some 7),(.call 16 [(.t 6)]),none⟩,⟨(some 8),(.un .not (.t 7)),none⟩]) (.kill [6,7] (.cond (.t 8) (.seq (.ops [⟨(some 2),(.mv (.k (.c (.v (.slice none 0 0))))),none⟩,⟨(some 3),(.mv (.k (.c (.v (.int .i64 120))))),none⟩]) (.kill [0,8] .ret)) .skip))) (.kill [2,3,8] (.seq (.seq (.ops [⟨(some 9),(.mv (.t 0)),none⟩,⟨(some 10),(.call 51 [(.t 9)]),none⟩]) (.kill [9] (.cond (.t 10) (.seq (.ops [⟨(some 2),(.mv (.k (.c (.v (.slice none 0 0))))),none⟩,⟨(some 3),(.mv (.k (.c (.v (.int .i64 3))))),none⟩]) (.kill [0,10] .ret)) .skip))) (.kill [2,3,10] (.seq (.ops [⟨(some 12),(.mv (.t 0)),none⟩,⟨(some 13),(.build [(.v (.slice none 0 0)),(.v (.slice none 0 0)),(.v (.slice none 0 0)),(.v (.slice none 0 0)),(.v (.slice none 0 0))] []),none⟩,⟨(some 14),(.call 52 [(.t 12),(.t 13),(.k (.c (.v (.slice none 0 0)))),(.k (.c (.v (.bool true))))]),none⟩,⟨(some 11),(.mv (.t 14)),none⟩,⟨(some 15),(.ext 0 (.t 11)),none⟩,⟨(some 16),(.ext 1 (.t 11)),none⟩,⟨(some 4),(.mv (.t 15)),none⟩,⟨(some 5),(.mv (.t 16)),none⟩]) (.kill [0,11,12,13,14,15,16] (.seq (.seq (.ops [⟨(some 17),(.mv (.t 4)),none⟩,⟨(some 18),(.bin .eql (.t 17) (.k (.c (.v (.int .i64 0))))),none⟩]) (.kill [4,17] (.cond (.t 18) (.seq (.ops [⟨(some 2),(.mv (.k (.c (.v (.slice none 0 0))))),none⟩,⟨(some 3),(.mv (.k (.c (.v (.int .i64 124))))),none⟩]) (.kill [5,18] .ret)) .skip))) (.kill [2,3,18] (.seq (.ops [⟨(some 19),(.mv (.t 5)),none⟩,⟨(some 2),(.mv (.t 19)),none⟩,⟨(some 3),(.mv (.k (.c (.v (.int .i64 0))))),none⟩]) (.kill [5,19] .ret))))))))))))
def rs27:List RS:=[(.t 2),(.t 3)]
def nt27:Nat:=20
def ir29:IR:=(.seq (.ops [⟨(some 2),(.mv (.k (.c (.v (.int .i64 0))))),none⟩,⟨(some 3),(.mv (.k (.c (.v (.int .i64 0))))),none⟩]) (.kill [1,2,3,4,5,6,7,8,9,10,11] (.seq (.seq (.ops [⟨(some 6),(.mv (.t 0)),none⟩,⟨(some 7),(.call 16 [(.t 6)]),none⟩,⟨(some 8),(.un .not (.t 7)),none⟩]) (.kill [6,7] (.cond (.t 8) (.seq (.ops [⟨(some 2),(.mv (.k (.c (.v (.int .i64 0))))),none⟩,⟨(some 3),(.mv (.k (.c (.v (.int .i64 120))))),none⟩]) (.kill [0,8] .ret)) .skip))) (.kill [2,3,8] (.seq (.seq (.ops [⟨(some 9),(.mv (.t 0)),none⟩,⟨(some 10),(.call 51 [(.t 9)]),none⟩]) (.kill [9] (.cond (.t 10) (.seq (.ops [⟨(some 2),(.mv (.k (.c (.v (.int .i64 0))))),none⟩,⟨(some 3),(.mv (.k (.c (.v (.int .i64 3))))),none⟩]) (.kill [0,10] .ret)) .skip))) (.kill [2,3,10] (.seq (.ops [⟨(some 12),(.mv (.t 0)),none⟩,⟨(some 13),(.build [(.v (.slice none 0 0)),(.v (.slice none 0 0)),(.v (.slice none 0 0)),(.v (.slice none 0 0)),(.v (.slice none 0 0))] []),none⟩,⟨(some 14),(.call 52 [(.t 12),(.t 13),(.k (.c (.v (.slice none 0 0)))),(.k (.c (.v (.bool false))))]),none⟩,⟨(some 11),(.mv (.t 14)),none⟩,⟨(some 15),(.ext 0 (.t 11)),none⟩,⟨(some 16),(.ext 1 (.t 11)),none⟩,⟨(some 4),(.mv (.t 15)),none⟩,⟨(some 5),(.mv (.t 16)),none⟩]) (.kill [0,5,11,12,13,14,15,16] (.seq (.ops [⟨(some 17),(.mv (.t 4)),none⟩,⟨(some 2),(.mv (.t 17)),none⟩,⟨(some 3),(.mv (.k (.c (.v (.int .i64 0))))),none⟩]) (.kill [4,17] .ret))))))))))
def rs29:List RS:=[(.t 2),(.t 3)]
def nt29:Nat:=18
set_option maxRecDepth 100000 in
set_option maxHeartbeats 400000 in
theorem rcount_calls (w:World) (v:Value) (xs:List Cl) (hsz:xs.length * 72≤140737488355328) (h:Arr w Cl.enc 9 v xs):Calls Try.prog 29 #[v] w (RetV w (.tuple #[.int .i64 (cntW xs),.int .i64 (nsE xs)])):=by
 refine enter1 (A:=[]) (c:=ir29) (rs:=rs29) (nt:=nt29) cl0 cl_ok h [.c (.xv (0,0,0))] _ Try.func29 rfl (by kernel_rfl) (by kernel_rfl) rfl (fun E' h0=>by simp [SV.den,SC.den,h0]) (of_decide_eq_true rfl) ?_
 simp (maxSteps:=2000000) only [ir29,nt29,rs29,go_sem,↓reduceIte,Nat.reduceLT,Nat.reduceLeDiff,Nat.reduceAdd,Nat.reduceSub,Nat.reduceMul,Nat.reduceEqDiff,reduceCtorEq,Int.reduceToNat,Int.reduceEq,Int.reduceBEq,Int.reduceBNe,Int.reduceLT,Int.reduceLE,Int.reduceNeg,Int.reduceAdd,Int.reduceSub,Int.reduceMul,Int.reduceGE,Int.reduceGT,Cl.enc,iv,endO]
 refine callV (.c (.v (.bool (mayQ xs)))) _ (fun E=>rfl) (fun E a w' hs=>mayR w' _ xs hsz (arr_at (d:=cl0) hs 0 rfl)) ?_
 obtain ⟨h1,h2⟩ | ⟨h1,h2,h3⟩ | ⟨h1,h2,h3⟩:=ns_cases xs
 ·rw [h1]
  simp (maxSteps:=2000000) only [go_sem,↓reduceIte,Nat.reduceLT,Nat.reduceLeDiff,Nat.reduceAdd,Nat.reduceSub,Nat.reduceMul,Nat.reduceEqDiff,reduceCtorEq,Int.reduceToNat,Int.reduceEq,Int.reduceBEq,Int.reduceBNe,Int.reduceLT,Int.reduceLE,Int.reduceNeg,Int.reduceAdd,Int.reduceSub,Int.reduceMul,Int.reduceGE,Int.reduceGT,Cl.enc,iv,endO]
  exact retV fun E=>by simp [SV.den,den1,SC.den,cntW,h2]
 ·rw [h1]
  simp (maxSteps:=2000000) only [go_sem,↓reduceIte,Nat.reduceLT,Nat.reduceLeDiff,Nat.reduceAdd,Nat.reduceSub,Nat.reduceMul,Nat.reduceEqDiff,reduceCtorEq,Int.reduceToNat,Int.reduceEq,Int.reduceBEq,Int.reduceBNe,Int.reduceLT,Int.reduceLE,Int.reduceNeg,Int.reduceAdd,Int.reduceSub,Int.reduceMul,Int.reduceGE,Int.reduceGT,Cl.enc,iv,endO]
  refine callV (.c (.v (.bool true))) _ (fun E=>rfl) (fun E a w' hs=>by
   have:=long_calls w' _ xs (arr_at (d:=cl0) hs 0 rfl)
   rw [decide_eq_true h2] at this
   exact this) ?_
  simp (maxSteps:=2000000) only [go_sem,↓reduceIte,Nat.reduceLT,Nat.reduceLeDiff,Nat.reduceAdd,Nat.reduceSub,Nat.reduceMul,Nat.reduceEqDiff,reduceCtorEq,Int.reduceToNat,Int.reduceEq,Int.reduceBEq,Int.reduceBNe,Int.reduceLT,Int.reduceLE,Int.reduceNeg,Int.reduceAdd,Int.reduceSub,Int.reduceMul,Int.reduceGE,Int.reduceGT,Cl.enc,iv,endO]
  exact retV fun E=>by simp [SV.den,den1,SC.den,cntW,h3]
 ·rw [h1]
  simp (maxSteps:=2000000) only [go_sem,↓reduceIte,Nat.reduceLT,Nat.reduceLeDiff,Nat.reduceAdd,Nat.reduceSub,Nat.reduceMul,Nat.reduceEqDiff,reduceCtorEq,Int.reduceToNat,Int.reduceEq,Int.reduceBEq,Int.reduceBNe,Int.reduceLT,Int.reduceLE,Int.reduceNeg,Int.reduceAdd,Int.reduceSub,Int.reduceMul,Int.reduceGE,Int.reduceGT,Cl.enc,iv,endO]
  refine callV (.c (.v (.bool false))) _ (fun E=>rfl) (fun E a w' hs=>by
   have:=long_calls w' _ xs (arr_at (d:=cl0) hs 0 rfl)
   rw [decide_eq_false (show ¬ 8<(nmA xs).length by omega)] at this
   exact this) ?_
  simp (maxSteps:=2000000) only [go_sem,↓reduceIte,Nat.reduceLT,Nat.reduceLeDiff,Nat.reduceAdd,Nat.reduceSub,Nat.reduceMul,Nat.reduceEqDiff,reduceCtorEq,Int.reduceToNat,Int.reduceEq,Int.reduceBEq,Int.reduceBNe,Int.reduceLT,Int.reduceLE,Int.reduceNeg,Int.reduceAdd,Int.reduceSub,Int.reduceMul,Int.reduceGE,Int.reduceGT,Cl.enc,iv,endO]
  refine callN 1 (wkU (wkN false (srX xs 9 [] mc0)) (wkL (srX xs 9 [] mc0)).length) (lsO 3 1 eI (oI (wkL (srX xs 9 [] mc0))) 0) (fun E a w' hs=>walkF_calls 9 w' _ (.slice none 0 0) _ xs [] mc0 (Nat.le_refl _) h2 (arr_at (d:=cl0) hs 0 rfl) (Arr.nil _ _ _) (cont_0 w') mc0_may (by simp [MC.upto,mc0]) (by simp;omega) List.nodup_nil (fun i hi=>by cases hi)) ?_
  simp (maxSteps:=2000000) only [go_sem,↓reduceIte,Nat.reduceLT,Nat.reduceLeDiff,Nat.reduceAdd,Nat.reduceSub,Nat.reduceMul,Nat.reduceEqDiff,reduceCtorEq,Int.reduceToNat,Int.reduceEq,Int.reduceBEq,Int.reduceBNe,Int.reduceLT,Int.reduceLE,Int.reduceNeg,Int.reduceAdd,Int.reduceSub,Int.reduceMul,Int.reduceGE,Int.reduceGT,Cl.enc,iv,endO,wkU,lsO]
  exact retV fun E=>by simp [SV.den,den1,SC.den,cntW,h3,wkN,(srX_findL h3).2.2]
set_option maxRecDepth 100000 in
set_option maxHeartbeats 400000 in
theorem rfind_calls (w:World) (v:Value) (xs:List Cl) (hsz:xs.length * 72≤140737488355328) (h:Arr w Cl.enc 9 v xs):Calls Try.prog 27 #[v] w (RetN w 1 (leT 1 (findL xs).length (findE xs)) (lsO 3 1 eI (findL xs) 0)):=by
 refine enter1 (A:=[]) (c:=ir27) (rs:=rs27) (nt:=nt27) cl0 cl_ok h [.c (.xv (0,0,0))] _ Try.func27 rfl (by kernel_rfl) (by kernel_rfl) rfl (fun E' h0=>by simp [SV.den,SC.den,h0]) (of_decide_eq_true rfl) ?_
 generalize hR:RetN w 1 _ _=R
 simp (maxSteps:=2000000) only [ir27,nt27,rs27,go_sem,↓reduceIte,Nat.reduceLT,Nat.reduceLeDiff,Nat.reduceAdd,Nat.reduceSub,Nat.reduceMul,Nat.reduceEqDiff,reduceCtorEq,Int.reduceToNat,Int.reduceEq,Int.reduceBEq,Int.reduceBNe,Int.reduceLT,Int.reduceLE,Int.reduceNeg,Int.reduceAdd,Int.reduceSub,Int.reduceMul,Int.reduceGE,Int.reduceGT,Cl.enc,iv,endO]
 refine callV (.c (.v (.bool (mayQ xs)))) _ (fun E=>rfl) (fun E a w' hs=>mayR w' _ xs hsz (arr_at (d:=cl0) hs 0 rfl)) ?_
 obtain ⟨h1,h2⟩ | ⟨h1,h2,h3⟩ | ⟨h1,h2,h3⟩:=ns_cases xs
 ·rw [h1]
  simp (maxSteps:=2000000) only [go_sem,↓reduceIte,Nat.reduceLT,Nat.reduceLeDiff,Nat.reduceAdd,Nat.reduceSub,Nat.reduceMul,Nat.reduceEqDiff,reduceCtorEq,Int.reduceToNat,Int.reduceEq,Int.reduceBEq,Int.reduceBNe,Int.reduceLT,Int.reduceLE,Int.reduceNeg,Int.reduceAdd,Int.reduceSub,Int.reduceMul,Int.reduceGE,Int.reduceGT,Cl.enc,iv,endO]
  have hF:findL xs=[]∧findE xs=120:=by simp [findL,findE,h2]
  rw [← hR,hF.1,hF.2]
  exact retNE
 ·rw [h1]
  simp (maxSteps:=2000000) only [go_sem,↓reduceIte,Nat.reduceLT,Nat.reduceLeDiff,Nat.reduceAdd,Nat.reduceSub,Nat.reduceMul,Nat.reduceEqDiff,reduceCtorEq,Int.reduceToNat,Int.reduceEq,Int.reduceBEq,Int.reduceBNe,Int.reduceLT,Int.reduceLE,Int.reduceNeg,Int.reduceAdd,Int.reduceSub,Int.reduceMul,Int.reduceGE,Int.reduceGT,Cl.enc,iv,endO]
  refine callV (.c (.v (.bool true))) _ (fun E=>rfl) (fun E a w' hs=>by
   have:=long_calls w' _ xs (arr_at (d:=cl0) hs 0 rfl)
   rw [decide_eq_true h2] at this
   exact this) ?_
  simp (maxSteps:=2000000) only [go_sem,↓reduceIte,Nat.reduceLT,Nat.reduceLeDiff,Nat.reduceAdd,Nat.reduceSub,Nat.reduceMul,Nat.reduceEqDiff,reduceCtorEq,Int.reduceToNat,Int.reduceEq,Int.reduceBEq,Int.reduceBNe,Int.reduceLT,Int.reduceLE,Int.reduceNeg,Int.reduceAdd,Int.reduceSub,Int.reduceMul,Int.reduceGE,Int.reduceGT,Cl.enc,iv,endO]
  have hF:findL xs=[]∧findE xs=3:=by simp [findL,findE,h3]
  rw [← hR,hF.1,hF.2]
  exact retNE
 ·rw [h1]
  simp (maxSteps:=2000000) only [go_sem,↓reduceIte,Nat.reduceLT,Nat.reduceLeDiff,Nat.reduceAdd,Nat.reduceSub,Nat.reduceMul,Nat.reduceEqDiff,reduceCtorEq,Int.reduceToNat,Int.reduceEq,Int.reduceBEq,Int.reduceBNe,Int.reduceLT,Int.reduceLE,Int.reduceNeg,Int.reduceAdd,Int.reduceSub,Int.reduceMul,Int.reduceGE,Int.reduceGT,Cl.enc,iv,endO]
  refine callV (.c (.v (.bool false))) _ (fun E=>rfl) (fun E a w' hs=>by
   have:=long_calls w' _ xs (arr_at (d:=cl0) hs 0 rfl)
   rw [decide_eq_false (show ¬ 8<(nmA xs).length by omega)] at this
   exact this) ?_
  simp (maxSteps:=2000000) only [go_sem,↓reduceIte,Nat.reduceLT,Nat.reduceLeDiff,Nat.reduceAdd,Nat.reduceSub,Nat.reduceMul,Nat.reduceEqDiff,reduceCtorEq,Int.reduceToNat,Int.reduceEq,Int.reduceBEq,Int.reduceBNe,Int.reduceLT,Int.reduceLE,Int.reduceNeg,Int.reduceAdd,Int.reduceSub,Int.reduceMul,Int.reduceGE,Int.reduceGT,Cl.enc,iv,endO]
  obtain ⟨q1,q2,q3⟩:=srX_findL h3
  refine callN 1 (wkU (wkN true (srX xs 9 [] mc0)) (wkL (srX xs 9 [] mc0)).length) (lsO 3 1 eI (oI (wkL (srX xs 9 [] mc0))) 0) (fun E a w' hs=>walkT_calls 9 w' _ (.slice none 0 0) _ xs [] mc0 (Nat.le_refl _) h2 (arr_at (d:=cl0) hs 0 rfl) (Arr.nil _ _ _) (cont_0 w') mc0_may (by simp [MC.upto,mc0]) (by simp;omega) List.nodup_nil (fun i hi=>by cases hi)) ?_
  have q4:(wkL (srX xs 9 [] mc0)).length=(findL xs).length:=by rw [← q1,oI_len]
  rw [q1,q4]
  by_cases hS:srX xs 9 [] mc0=[]
  ·have hw:wkN true (srX xs 9 [] mc0)=0:=by rw [hS];rfl
   rw [hw]
   simp (maxSteps:=2000000) only [go_sem,↓reduceIte,Nat.reduceLT,Nat.reduceLeDiff,Nat.reduceAdd,Nat.reduceSub,Nat.reduceMul,Nat.reduceEqDiff,reduceCtorEq,Int.reduceToNat,Int.reduceEq,Int.reduceBEq,Int.reduceBNe,Int.reduceLT,Int.reduceLE,Int.reduceNeg,Int.reduceAdd,Int.reduceSub,Int.reduceMul,Int.reduceGE,Int.reduceGT,Cl.enc,iv,endO,wkU,lsO]
   have hal:=q2.1 hS
   have hF:findL xs=[]∧findE xs=124:=by simp [findL,findE,h3,hal]
   rw [← hR,hF.1,hF.2]
   exact retNE
  ·have hw:wkN true (srX xs 9 [] mc0)=1:=by simp [wkN,hS]
   rw [hw]
   simp (maxSteps:=2000000) only [go_sem,↓reduceIte,Nat.reduceLT,Nat.reduceLeDiff,Nat.reduceAdd,Nat.reduceSub,Nat.reduceMul,Nat.reduceEqDiff,reduceCtorEq,Int.reduceToNat,Int.reduceEq,Int.reduceBEq,Int.reduceBNe,Int.reduceLT,Int.reduceLE,Int.reduceNeg,Int.reduceAdd,Int.reduceSub,Int.reduceMul,Int.reduceGE,Int.reduceGT,Cl.enc,iv,endO,wkU,lsO]
   have hE:findE xs=0:=by
    unfold findE
    rw [if_pos h3]
    cases hal:allY xs with
    | nil=>exact absurd (q2.2 hal) hS
    | cons y l=>rfl
   rw [← hR,hE]
   exact retLE 1 _ _ rfl rfl (Nat.le_refl _) (fun e he=>rfl)
def ir7:IR:=(.seq (.ops [⟨(some 2),(.mv (.k (.c (.v (.bool false))))),none⟩]) (.kill [1,2,3,4,5,6,7,8,9,10,11] (.seq (.ops [⟨(some 10),(.mv (.t 0)),none⟩,⟨(some 11),(.call 14 [(.t 10)]),none⟩,⟨(some 3),(.mv (.t 11)),none⟩]) (.kill [10,11] (.seq (.ops [⟨(some 13),(.mv (.t 3)),none⟩,⟨(some 14),(.call 26 [(.t 13)]),none⟩,⟨(some 12),(.mv (.t 14)),none⟩,⟨(some 15),(.ext 0 (.t 12)),none⟩,⟨(some 16),(.ext 1 (.t 12)),none⟩,⟨(some 4),(.mv (.t 15)),none⟩,⟨(some 5),(.mv (.t 16)),none⟩]) (.kill [12,13,14,15,16] (.seq (.ops [⟨(some 18),(.mv (.t 0)),none⟩,⟨(some 19),(.call 27 [(.t 18)]),none⟩,⟨(some 17),(.mv (.t 19)),none⟩,⟨(some 20),(.ext 0 (.t 17)),none⟩,⟨(some 21),(.ext 1 (.t 17)),none⟩,⟨(some 6),(.mv (.t 20)),none⟩,⟨(some 7),(.mv (.t 21)),none⟩]) (.kill [17,18,19,20,21] (.seq (.seq (.ops [⟨(some 22),(.mv (.t 4)),none⟩,⟨(some 23),(.mv (.t 6)),none⟩,⟨(some 24),(.call 23 [(.t 22),(.t 23)]),none⟩,⟨(some 25),(.un .not (.t 24)),none⟩,⟨(some 26),(.mv (.t 25)),none⟩,⟨(some 27),(.mv (.t 5)),(some (26,false))⟩,⟨(some 28),(.call 21 [(.t 27)]),(some (26,false))⟩,⟨(some 29),(.mv (.t 7)),(some (26,false))⟩,⟨(some 30),(.bin .neq (.t 28) (.t 29)),(some (26,false))⟩,⟨(some 31),(.pick (.t 26) (.k (.c (.v (.bool true)))) (.t 30)),none⟩,⟨(some 32),(.mv (.t 31)),none⟩,⟨(some 33),(.mv (.t 3)),(some (32,false))⟩,⟨(some 34),(.mv (.t 0)),(some (32,false))⟩,⟨(some 35),(.call 17 [(.t 33),(.t 34)]),(some (32,false))⟩,⟨(some 36),(.un .not (.t 35)),(some (32,false))⟩,⟨(some 37),(.pick (.t 32) (.k (.c (.v (.bool true)))) (.t 36)),none⟩]) (.kill [4,5,6,7,22,23,24,25,26,27,28,29,30,31,32,33,34,35,36] (.cond (.t 37) (.seq (.ops [⟨(some 2),(.mv (.k (.c (.v (.bool false))))),none⟩]) (.kill [0,3,37] .ret)) .skip))) (.kill [2,37] (.seq (.ops [⟨(some 39),(.mv (.t 3)),none⟩,⟨(some 40),(.call 28 [(.t 39)]),none⟩,⟨(some 38),(.mv (.t 40)),none⟩,⟨(some 41),(.ext 0 (.t 38)),none⟩,⟨(some 42),(.ext 1 (.t 38)),none⟩,⟨(some 8),(.mv (.t 41)),none⟩,⟨(some 5),(.mv (.t 42)),none⟩]) (.kill [38,39,40,41,42] (.seq (.ops [⟨(some 44),(.mv (.t 0)),none⟩,⟨(some 45),(.call 29 [(.t 44)]),none⟩,⟨(some 43),(.mv (.t 45)),none⟩,⟨(some 46),(.ext 0 (.t 43)),none⟩,⟨(some 47),(.ext 1 (.t 43)),none⟩,⟨(some 9),(.mv (.t 46)),none⟩,⟨(some 7),(.mv (.t 47)),none⟩]) (.kill [43,44,45,46,47] (.seq (.ops [⟨(some 48),(.mv (.t 8)),none⟩,⟨(some 49),(.mv (.t 9)),none⟩,⟨(some 50),(.bin .eql (.t 48) (.t 49)),none⟩,⟨(some 51),(.mv (.t 50)),none⟩,⟨(some 52),(.mv (.t 5)),(some (51,true))⟩,⟨(some 53),(.call 21 [(.t 52)]),(some (51,true))⟩,⟨(some 54),(.mv (.t 7)),(some (51,true))⟩,⟨(some 55),(.bin .eql (.t 53) (.t 54)),(some (51,true))⟩,⟨(some 56),(.pick (.t 51) (.t 55) (.k (.c (.v (.bool false))))),none⟩,⟨(some 57),(.mv (.t 56)),none⟩,⟨(some 58),(.mv (.t 3)),(some (57,true))⟩,⟨(some 59),(.mv (.t 0)),(some (57,true))⟩,⟨(some 60),(.call 17 [(.t 58),(.t 59)]),(some (57,true))⟩,⟨(some 61),(.pick (.t 57) (.t 60) (.k (.c (.v (.bool false))))),none⟩,⟨(some 2),(.mv (.t 61)),none⟩]) (.kill [0,3,5,7,8,9,48,49,50,51,52,53,54,55,56,57,58,59,60,61] .ret))))))))))))))))
def rs7:List RS:=[(.t 2)]
def nt7:Nat:=62
set_option maxRecDepth 100000 in
set_option maxHeartbeats 400000 in
theorem finds_walk (w:World) (v:Value) (xs:List Cl) (hsz:(xs.length+1) * 72≤140737488355328) (h:Arr w Cl.enc 9 v xs):Calls Try.prog 7 #[v] w (RetV w (.bool true)):=by
 refine enter1 (A:=[]) (c:=ir7) (rs:=rs7) (nt:=nt7) cl0 cl_ok h [.c (.xv (0,0,0))] _ Try.func7 rfl (by kernel_rfl) (by kernel_rfl) rfl (fun E' h0=>by simp [SV.den,SC.den,h0]) (of_decide_eq_true rfl) ?_
 simp (maxSteps:=2000000) only [ir7,nt7,rs7,go_sem,↓reduceIte,Nat.reduceLT,Nat.reduceLeDiff,Nat.reduceAdd,Nat.reduceSub,Nat.reduceMul,Nat.reduceEqDiff,reduceCtorEq,Int.reduceToNat,Int.reduceEq,Int.reduceBEq,Int.reduceBNe,Int.reduceLT,Int.reduceLE,Int.reduceNeg,Int.reduceAdd,Int.reduceSub,Int.reduceMul,Int.reduceGE,Int.reduceGT,Cl.enc,iv,endO]
 refine callN 1 (lsT 9 xs.length) (lsO 53 9 Cl.enc (xs++[mark]) cl0) (fun E a w' hs=>twin_calls w' _ xs (arr_at (d:=cl0) hs 0 rfl) hsz) ?_
 simp (maxSteps:=2000000) only [go_sem,↓reduceIte,Nat.reduceLT,Nat.reduceLeDiff,Nat.reduceAdd,Nat.reduceSub,Nat.reduceMul,Nat.reduceEqDiff,reduceCtorEq,Int.reduceToNat,Int.reduceEq,Int.reduceBEq,Int.reduceBNe,Int.reduceLT,Int.reduceLE,Int.reduceNeg,Int.reduceAdd,Int.reduceSub,Int.reduceMul,Int.reduceGE,Int.reduceGT,Cl.enc,iv,endO,lsT,lsO]
 have hu:(decide (xs=xs) && mark.thread == -77)=true:=by simp [mark]
 have uns:∀ {C:Ctx} {E:Env} {S:St} {a:Act} {w' : World},Sat C.B C.W C.w0 E S a w'→look S.own 1=some (.one (.ar (xs++[mark]).length 9 (ats Cl.enc (xs++[mark]) cl0) 53))→look S.arrs 0=some (.one (arrOf Cl.enc 9 xs cl0)) →
   Calls Try.prog 17 #[(SC.sl (1,0,0) 9 0 xs.length none).den E,E.χ (0,0,0)] w' (RetV w' (.bool true)):=fun hs h1 h2=>by
  have:=unspoilt_calls _ _ _ xs xs mark (tw_tw hs 1 h1) (arr_at (d:=cl0) (l:=0) hs 0 (by simp [atN,h2,Fm.get])) rfl
  rw [hu] at this
  exact this
 refine callN 1 (leT 1 (findL xs).length (findE xs)) (lsO 3 1 eI (findL xs) 0) (fun E a w' hs=>find_calls w' _ xs (by omega) (arr_tw hs 1 rfl)) ?_
 simp (maxSteps:=2000000) only [go_sem,↓reduceIte,Nat.reduceLT,Nat.reduceLeDiff,Nat.reduceAdd,Nat.reduceSub,Nat.reduceMul,Nat.reduceEqDiff,reduceCtorEq,Int.reduceToNat,Int.reduceEq,Int.reduceBEq,Int.reduceBNe,Int.reduceLT,Int.reduceLE,Int.reduceNeg,Int.reduceAdd,Int.reduceSub,Int.reduceMul,Int.reduceGE,Int.reduceGT,Cl.enc,iv,endO,leT,lsO]
 refine callN 1 (leT 1 (findL xs).length (findE xs)) (lsO 3 1 eI (findL xs) 0) (fun E a w' hs=>rfind_calls w' _ xs (by omega) (arr_at (d:=cl0) hs 0 rfl)) ?_
 simp (maxSteps:=2000000) only [go_sem,↓reduceIte,Nat.reduceLT,Nat.reduceLeDiff,Nat.reduceAdd,Nat.reduceSub,Nat.reduceMul,Nat.reduceEqDiff,reduceCtorEq,Int.reduceToNat,Int.reduceEq,Int.reduceBEq,Int.reduceBNe,Int.reduceLT,Int.reduceLE,Int.reduceNeg,Int.reduceAdd,Int.reduceSub,Int.reduceMul,Int.reduceGE,Int.reduceGT,Cl.enc,iv,endO,leT,lsO]
 refine callV (.c (.v (.bool true))) (.bool true) (fun E=>rfl) (fun E a w' hs=>by
  have:=same_calls w' _ _ (findL xs) (findL xs) (own_at (d:=0) hs 2 _ rfl rfl) (own_at (d:=0) hs 3 _ rfl rfl)
  rw [decide_eq_true rfl] at this
  exact this) ?_
 simp (maxSteps:=2000000) only [go_sem,↓reduceIte,Nat.reduceLT,Nat.reduceLeDiff,Nat.reduceAdd,Nat.reduceSub,Nat.reduceMul,Nat.reduceEqDiff,reduceCtorEq,Int.reduceToNat,Int.reduceEq,Int.reduceBEq,Int.reduceBNe,Int.reduceLT,Int.reduceLE,Int.reduceNeg,Int.reduceAdd,Int.reduceSub,Int.reduceMul,Int.reduceGE,Int.reduceGT,Cl.enc,iv,endO]
 refine callV (.c (.v (.int .i64 (findE xs)))) _ (fun E=>rfl) (fun E a w' hs=>num_calls w' _) ?_
 simp (maxSteps:=2000000) only [go_sem,↓reduceIte,Nat.reduceLT,Nat.reduceLeDiff,Nat.reduceAdd,Nat.reduceSub,Nat.reduceMul,Nat.reduceEqDiff,reduceCtorEq,Int.reduceToNat,Int.reduceEq,Int.reduceBEq,Int.reduceBNe,Int.reduceLT,Int.reduceLE,Int.reduceNeg,Int.reduceAdd,Int.reduceSub,Int.reduceMul,Int.reduceGE,Int.reduceGT,Cl.enc,iv,endO,bne_self_eq_false,beq_self_eq_true]
 refine guardW (.c (.v (.bool true))) _ (fun E=>rfl) (fun E a w' hs=>uns hs rfl rfl) ?_
 simp (maxSteps:=2000000) only [go_sem,↓reduceIte,Nat.reduceLT,Nat.reduceLeDiff,Nat.reduceAdd,Nat.reduceSub,Nat.reduceMul,Nat.reduceEqDiff,reduceCtorEq,Int.reduceToNat,Int.reduceEq,Int.reduceBEq,Int.reduceBNe,Int.reduceLT,Int.reduceLE,Int.reduceNeg,Int.reduceAdd,Int.reduceSub,Int.reduceMul,Int.reduceGE,Int.reduceGT,Cl.enc,iv,endO]
 refine callV (.tup [(false,[.v (.int .i64 (cntW xs))]),(false,[.v (.int .i64 (nsE xs))])]) (.tuple #[.int .i64 (cntW xs),.int .i64 (nsE xs)]) (fun E=>rfl) (fun E a w' hs=>countW_calls w' _ xs (by omega) (arr_tw hs 1 rfl)) ?_
 simp (maxSteps:=2000000) only [go_sem,↓reduceIte,Nat.reduceLT,Nat.reduceLeDiff,Nat.reduceAdd,Nat.reduceSub,Nat.reduceMul,Nat.reduceEqDiff,reduceCtorEq,Int.reduceToNat,Int.reduceEq,Int.reduceBEq,Int.reduceBNe,Int.reduceLT,Int.reduceLE,Int.reduceNeg,Int.reduceAdd,Int.reduceSub,Int.reduceMul,Int.reduceGE,Int.reduceGT,Cl.enc,iv,endO]
 refine callV (.tup [(false,[.v (.int .i64 (cntW xs))]),(false,[.v (.int .i64 (nsE xs))])]) (.tuple #[.int .i64 (cntW xs),.int .i64 (nsE xs)]) (fun E=>rfl) (fun E a w' hs=>rcount_calls w' _ xs (by omega) (arr_at (d:=cl0) hs 0 rfl)) ?_
 simp (maxSteps:=2000000) only [go_sem,↓reduceIte,Nat.reduceLT,Nat.reduceLeDiff,Nat.reduceAdd,Nat.reduceSub,Nat.reduceMul,Nat.reduceEqDiff,reduceCtorEq,Int.reduceToNat,Int.reduceEq,Int.reduceBEq,Int.reduceBNe,Int.reduceLT,Int.reduceLE,Int.reduceNeg,Int.reduceAdd,Int.reduceSub,Int.reduceMul,Int.reduceGE,Int.reduceGT,Cl.enc,iv,endO,bne_self_eq_false,beq_self_eq_true]
 refine guardW (.c (.v (.int .i64 (nsE xs)))) _ (fun E=>rfl) (fun E a w' hs=>num_calls w' _) ?_
 simp (maxSteps:=2000000) only [go_sem,↓reduceIte,Nat.reduceLT,Nat.reduceLeDiff,Nat.reduceAdd,Nat.reduceSub,Nat.reduceMul,Nat.reduceEqDiff,reduceCtorEq,Int.reduceToNat,Int.reduceEq,Int.reduceBEq,Int.reduceBNe,Int.reduceLT,Int.reduceLE,Int.reduceNeg,Int.reduceAdd,Int.reduceSub,Int.reduceMul,Int.reduceGE,Int.reduceGT,Cl.enc,iv,endO,bne_self_eq_false,beq_self_eq_true]
 refine guardW (.c (.v (.bool true))) _ (fun E=>rfl) (fun E a w' hs=>uns hs rfl rfl) ?_
 simp (maxSteps:=2000000) only [go_sem,↓reduceIte,Nat.reduceLT,Nat.reduceLeDiff,Nat.reduceAdd,Nat.reduceSub,Nat.reduceMul,Nat.reduceEqDiff,reduceCtorEq,Int.reduceToNat,Int.reduceEq,Int.reduceBEq,Int.reduceBNe,Int.reduceLT,Int.reduceLE,Int.reduceNeg,Int.reduceAdd,Int.reduceSub,Int.reduceMul,Int.reduceGE,Int.reduceGT,Cl.enc,iv,endO]
 exact retV fun E=>by simp [SV.den,SC.den]
end Go.Proofs.Ytkjeedlkkpgopaa.Z
namespace Go.Proofs.Ytkjeedlkkpgopaa.Z
open Go Go.RowKit Go.ChangeShapes Go.WideShapes Go.ChangeAt
theorem own:ownKnob Try.prog.godebug=none:=by kernel_rfl
theorem laidOut:laidOutB Try.prog=true:=by kernel_rfl
theorem leavesCl:leavesIn Try.prog 9 53=some [3,48,3,3,3,3,3,49,3]:=by kernel_rfl
theorem cellsCl:Try.prog.cellsOf 53=9:=by kernel_rfl
theorem bytesCl:Try.prog.bytesOf 53=72:=by kernel_rfl
section
variable {H:Type} {enc:TypeId×Value→H} {w:World}
theorem leavesCs:leavesIn Try.prog 9 22=some [22]:=by kernel_rfl
theorem reach_len {α:Type} {x:List α} {s:Nat} {ws:List Nat} (hr:∀ k∈ws,k≤reachBytes) (h:x=[]∨∃ k∈ws,x.length * s≤k):x.length * s≤140737488351232:=by
 rcases h with rfl | ⟨k,hk,h⟩
 ·simp
 ·have:=hr k hk
  unfold reachBytes at this
  omega
theorem lit_rng {n:Int} (h:(Lit.int .i64 n).wf=true) : -9223372036854775808≤n∧n≤9223372036854775807:=by
 simp [Lit.wf,IntKind.min,IntKind.max,IntKind.signed,IntKind.bits] at h
 omega
def ClR (c:Cl):Prop:=c.beg≤9223372036854775807∧c.fin≤9223372036854775807∧c.point≤9223372036854775807
theorem leaf_calls {b:Nat} {ws:List Nat} {c:Value} (h:LeafAt enc Try.prog w 0 (fun _=>true) true b ws 22 c) :
  ∃ xs:List Cl,Arr w Cl.enc 9 c xs∧(∀ c∈xs,ClR c)∧xs.length+1≤b∧(xs=[]∨∃ k∈ws,xs.length * 72≤k):=by
 obtain ⟨xs,h1,h4,h2,h3⟩:=h.slice (α:=Cl) Try.underlying22 (by decide) cellsCl Cl.enc ClR (fun m cs y hl ht=>by
  match cs,hl with
  | [c0,c1,c2,c3,c4,c5,c6,c7,c8],_ =>
   have L:=leaf_of 9 _ _ leavesCl m _ _ ht
   obtain ⟨x0,rfl,_⟩:=(L 0 _ c0 rfl rfl).int Try.underlying3
   obtain ⟨x1,rfl,_⟩:=(L 1 _ c1 rfl rfl).int Try.underlying48
   obtain ⟨x2,rfl,_⟩:=(L 2 _ c2 rfl rfl).int Try.underlying3
   obtain ⟨x3,rfl,_⟩:=(L 3 _ c3 rfl rfl).int Try.underlying3
   obtain ⟨x4,rfl,r4⟩:=(L 4 _ c4 rfl rfl).int Try.underlying3
   obtain ⟨x5,rfl,r5⟩:=(L 5 _ c5 rfl rfl).int Try.underlying3
   obtain ⟨x6,rfl,r6⟩:=(L 6 _ c6 rfl rfl).int Try.underlying3
   obtain ⟨x7,rfl,_⟩:=(L 7 _ c7 rfl rfl).int Try.underlying49
   obtain ⟨x8,rfl,_⟩:=(L 8 _ c8 rfl rfl).int Try.underlying3
   exact ⟨⟨x0,x1,x2,x3,x4,x5,x6,x7,x8⟩,rfl,(lit_rng r4).2,(lit_rng r5).2,(lit_rng r6).2⟩)
 rw [bytesCl] at h3
 exact ⟨xs,h1,h4,h2,h3⟩
set_option maxRecDepth 100000 in
theorem open_callsR {base:Nat} {v:Value} {d:DataW H} {p:List MemPlace} (hv:Value.okWide Try.prog w .any base 22 v) (h:DataW.Trod enc Try.prog w 0 (fun _=>true) true 22 v d p) :
  ∃ xs,Arr w Cl.enc 9 v xs∧(∀ c∈xs,ClR c)∧((∀ k∈d.weights Try.prog 22,k≤reachBytes)→xs.length * 72≤140737488351232):=by
 obtain ⟨ba,len,cap,rfl⟩:=okWide_slice Try.underlying22 hv
 obtain ⟨fuel,hf⟩:=h
 obtain ⟨xs,h1,h4,_,h2⟩:=leaf_calls (leaf_of 9 _ _ leavesCs fuel _ _ hf 0 22 _ rfl rfl)
 exact ⟨xs,h1,h4,fun hr=>reach_len hr h2⟩
end
end Go.Proofs.Ytkjeedlkkpgopaa.Z
