/- TsoStepsSaid: what its proof is made of. No condition. -/
import Derived.Test.YtmcpdafmkkjlcaaPkTTsoStepsAM
set_option linter.unusedSimpArgs false
set_option linter.unusedVariables false
namespace Go.Proofs.Ytmcpdafmkkjlcaa.Z
open Go Go.RowKit
set_option maxRecDepth 100000 in
set_option maxHeartbeats 8000000 in
theorem rturn_zero (w:World) (E:Env) (L:Lt) (o:Int) (s:LS) (t:Tn) (N:Nat) (hL:checkB L=true) (hwf:WfS L o N s) (hN:N≤100000) (hz:t.thr=0) (h:Handed w E 11 (stP s) (ltA 0 L)) :
  Calls Try.prog 25 (([.agg (ltS 0),.c (.v (.int .i64 o)),.c (.ptr (5,0,0) 0),.agg (t.enc.map .v)]:List SV).map (SV.den E)).toArray w (EffR w E 11 (takesO E (stP s)) (.c (.bo (turnS L o s t).2)) 1 fun b=>killO [10]++stE b (turnS L o s t).1):=by
 refine enterO (c:=ir25) (rs:=rs25) (nt:=nt25) h _ Try.func25 rfl (by kernel_rfl) (by kernel_rfl) rfl (by simp [okVs,SV.okN,SC.okN,SC.okL,okL_v,ltS]) (of_decide_eq_true rfl) ?_
 generalize hR:EffR w E 11 (takesO E (stP s)) (.c (.bo (turnS L o s t).2)) 1 (fun b=>killO [10]++stE b (turnS L o s t).1)=R
 generalize hW:takesO E (stP s)=W
 obtain ⟨z1,z2,z3,z4⟩:=sz_at hL
 obtain ⟨lw,lr,lp,lb,hthr⟩:=hwf
 obtain ⟨thr,out,addr⟩:=t
 have hno:∀ {S2:St},turnS L o s ⟨thr,out,addr⟩=(s,false)→AgF 11 E∈S2.facts→look S2.own 5=some (.one (.bk (stC 6 s) 32))→look S2.own 6=some (.one (.ar s.words.length 1 (ats eI s.words 0) 3))→look S2.own 7=some (.one (.ar s.regs.length 4 (ats R4.enc s.regs r40) 68)) →
   look S2.own 8=some (.one (.ar s.places.length 1 (ats eI s.places 0) 3))→look S2.own 9=some (.one (.ar s.bufs.length 1 (bfC 10 s) 86))→look S2.own 10=some (.fam s.bufs.length (bfO s))→RetVC (mkO Try.prog w W rs25 R) (.c (.v (.bool false))) S2:=fun e h1 h5 h6 h7 h8 h9 h10=>by
  rw [← hR,← hW,e]
  exact retTurn0 h1 (fun E E'=>by simp [SV.den,SC.den]) h5 h6 h7 h8 h9 h10
 by_cases hk:0≤thr∧thr<L.thr.length
 ·obtain ⟨k,rfl⟩:∃ k:Nat,thr=k:=⟨thr.toNat,by omega⟩
  have hk:k<L.thr.length:=by omega
  have hk0:k=0:=by simpa using hz
  have d1:decide ((k:Int)<0)=false:=decide_eq_false (by omega)
  have d2:decide ((k:Int)≥(L.thr.length:Nat))=false:=decide_eq_false (by omega)
  obtain ⟨p0,p1,pb,psc,ppend⟩:=hthr k hk
  cases out with
  | true =>
   simp (maxSteps:=2000000) only [ir25,nt25,rs25,go_sem,↓reduceIte,Nat.reduceLT,Nat.reduceLeDiff,Nat.reduceAdd,Nat.reduceSub,Nat.reduceMul,Nat.reduceEqDiff,reduceCtorEq,Int.reduceToNat,Int.reduceEq,Int.reduceBEq,Int.reduceBNe,Int.reduceLT,Int.reduceLE,Int.reduceNeg,Int.reduceAdd,Int.reduceSub,Int.reduceMul,Int.reduceGE,Int.reduceGT,endO,ltA,ltS,Tn.enc,d1,d2,stP,stO,stC,bfC]
   have ht:turnS L o s ⟨k,true,addr⟩=outS o s k addr:=by
    unfold turnS
    rw [if_pos (by simp only;omega),if_pos rfl]
    simp only [Int.toNat_natCast]
   rw [ht] at hR
   refine call_intro (cr_own 11 (stP s) [] (show 11≤13 by decide) (stP_plain s) (stP_le (fun i h=>h) (fun _ _=>rfl) rfl rfl rfl rfl rfl rfl) trivial stE_key (fun E w h=>rout_own w E o s k addr (by omega) (fun p hp=>by rw [lw];exact ppend p hp) (by omega) h)) (lt11 (show 11≤13 by decide)) ?_
   simp (maxSteps:=2000000) only [go_sem,↓reduceIte,Nat.reduceLT,Nat.reduceLeDiff,Nat.reduceAdd,Nat.reduceSub,Nat.reduceMul,Nat.reduceEqDiff,reduceCtorEq,Int.reduceToNat,Int.reduceEq,Int.reduceBEq,Int.reduceBNe,Int.reduceLT,Int.reduceLE,Int.reduceNeg,Int.reduceAdd,Int.reduceSub,Int.reduceMul,Int.reduceGE,Int.reduceGT,endO,killO,stE]
   rw [← hR,← hW]
   exact retTurnN 13 (by decide) List.mem_cons_self (fun E E'=>by simp [SV.den,SC.den]) rfl rfl rfl rfl rfl rfl
  | false =>
   simp (maxSteps:=2000000) only [ir25,nt25,rs25,go_sem,↓reduceIte,Nat.reduceLT,Nat.reduceLeDiff,Nat.reduceAdd,Nat.reduceSub,Nat.reduceMul,Nat.reduceEqDiff,reduceCtorEq,Int.reduceToNat,Int.reduceEq,Int.reduceBEq,Int.reduceBNe,Int.reduceLT,Int.reduceLE,Int.reduceNeg,Int.reduceAdd,Int.reduceSub,Int.reduceMul,Int.reduceGE,Int.reduceGT,endO,ltA,ltS,Tn.enc,d1,d2,stP,stO,stC,bfC]
   refine draw_vc (by kernel_rfl) (mkTab_ok _ _) (of_decide_eq_true rfl) (of_decide_eq_true rfl) ?_
   repeat (first | simp (maxSteps:=2000000) only [go_sem,↓reduceIte,Nat.reduceLT,Nat.reduceLeDiff,Nat.reduceAdd,Nat.reduceSub,Nat.reduceMul,Nat.reduceEqDiff,reduceCtorEq,Int.reduceToNat,Int.reduceEq,Int.reduceBEq,Int.reduceBNe,Int.reduceLT,Int.reduceLE,Int.reduceNeg,Int.reduceAdd,Int.reduceSub,Int.reduceMul,Int.reduceGE,Int.reduceGT,endO] | rw [dr_cons])
   have hk1:k<s.places.length:=by omega
   have hkr:k<s.regs.length:=by omega
   have hkb:k<s.bufs.length:=by omega
   refine And.intro ⟨hk1,Nat.le_refl _⟩ (And.intro hk1 (And.intro hk (And.intro hk (And.intro hk (both (fun he=>?_) (fun he=>?_))))))
   ·have he:s.places.getD k 0=(L.thr.getD k []).length:=by simpa using he
    exact hno (by unfold turnS;rw [if_pos (by simp only;omega),if_neg (by simp),if_pos (by simpa using he)]) List.mem_cons_self rfl rfl rfl rfl rfl rfl
   have he:¬ s.places.getD k 0=(L.thr.getD k []).length:=by simpa using he
   refine draw_vc (by kernel_rfl) (mkTab_ok _ _) (of_decide_eq_true rfl) (of_decide_eq_true rfl) ?_
   repeat (first | simp (maxSteps:=2000000) only [go_sem,↓reduceIte,Nat.reduceLT,Nat.reduceLeDiff,Nat.reduceAdd,Nat.reduceSub,Nat.reduceMul,Nat.reduceEqDiff,reduceCtorEq,Int.reduceToNat,Int.reduceEq,Int.reduceBEq,Int.reduceBNe,Int.reduceLT,Int.reduceLE,Int.reduceNeg,Int.reduceAdd,Int.reduceSub,Int.reduceMul,Int.reduceGE,Int.reduceGT,endO,Ins.enc] | rw [dr_cons])
   have hpl:(s.places.getD k 0).toNat<(L.thr.getD k []).length:=by omega
   have hfit:=(fits_at hL hk).2 _ (getD_memE (d:=in0) hpl)
   have hst:turnS L o s ⟨k,false,addr⟩=match stepS o s k ((L.thr.getD k []).getD (s.places.getD k 0).toNat in0) with
    | none=>(s,false)
    | some (s',f)=>({ s' with places:=s'.places.set k (if ((L.thr.getD k []).length:Int)<s'.places.getD k 0+f then ((L.thr.getD k []).length:Int) else s'.places.getD k 0+f) },true):=by
    unfold turnS
    rw [if_pos (by simp only;omega),if_neg (by simp),if_neg (by simpa using he)]
    simp only [Int.toNat_natCast]
    cases stepS o s k ((L.thr.getD k []).getD (s.places.getD k 0).toNat in0) with
    | none=>rfl
    | some q=>obtain ⟨s',f⟩:=q;rfl
   generalize (L.thr.getD k []).getD (s.places.getD k 0).toNat in0=ci at hst hfit
   obtain ⟨kind,reg,ad,val,frm,old,cnt⟩:=ci
   simp only [fitsB,decide_eq_true_eq] at hfit
   obtain ⟨f1,f2,f3,f4,f5,f6⟩:=hfit
   refine And.intro hk (And.intro hk (And.intro ⟨hk1,Nat.le_refl _⟩ (And.intro hk1 (And.intro ⟨hk,by omega,by omega⟩ (And.intro ⟨hk,hpl⟩ (And.intro (by simp) (And.intro (by simp) ?_)))))))
   have hwp:IntKind.i64.wrap (s.places.getD k 0+1)=s.places.getD k 0+1:=wrI (by have:=(fits_at hL hk).1;omega)
   have dn:∀ {n:Int},kind≠n→(kind == n)=false:=fun h=>by simpa using h
   subst hk0
   by_cases k1:kind=1
   ·subst k1
    have hg:0≤reg∧reg<4:=f3 (by decide) (by decide)
    have hnr:=nth_r4 (xs:=s.regs) (k:=0) hg
    have had:0≤ad∧ad<s.words.length:=by rw [lw];exact f4 (by decide)
    simp (maxSteps:=2000000) only [go_sem,↓reduceIte,Nat.reduceLT,Nat.reduceLeDiff,Nat.reduceAdd,Nat.reduceSub,Nat.reduceMul,Nat.reduceEqDiff,reduceCtorEq,Int.reduceToNat,Int.reduceEq,Int.reduceBEq,Int.reduceBNe,Int.reduceLT,Int.reduceLE,Int.reduceNeg,Int.reduceAdd,Int.reduceSub,Int.reduceMul,Int.reduceGE,Int.reduceGT,endO,ir25_62]
    refine draw_vc (by kernel_rfl) (mkTab_ok _ _) (of_decide_eq_true rfl) (of_decide_eq_true rfl) ?_
    repeat (first | simp (maxSteps:=2000000) only [go_sem,↓reduceIte,Nat.reduceLT,Nat.reduceLeDiff,Nat.reduceAdd,Nat.reduceSub,Nat.reduceMul,Nat.reduceEqDiff,reduceCtorEq,Int.reduceToNat,Int.reduceEq,Int.reduceBEq,Int.reduceBNe,Int.reduceLT,Int.reduceLE,Int.reduceNeg,Int.reduceAdd,Int.reduceSub,Int.reduceMul,Int.reduceGE,Int.reduceGT,endO,hnr,Nat.mul_one] | rw [dr_cons])
    repeat (with_reducible refine And.intro (by first | omega | (simp only [maxLen];omega) | (simp;done) | (simp;omega)) ?_)
    refine dcallV (.c (.v (.int .i64 (seeS s 0 ad)))) _ (fun E=>rfl) (fun E a w' hs=>see_calls w' _ s 0 ad hkb had (by omega) (see_at hs rfl rfl rfl rfl (fun _=>rfl) (fun _=>rfl))) ?_
    repeat (first | simp (maxSteps:=2000000) only [go_sem,↓reduceIte,Nat.reduceLT,Nat.reduceLeDiff,Nat.reduceAdd,Nat.reduceSub,Nat.reduceMul,Nat.reduceEqDiff,reduceCtorEq,Int.reduceToNat,Int.reduceEq,Int.reduceBEq,Int.reduceBNe,Int.reduceLT,Int.reduceLE,Int.reduceNeg,Int.reduceAdd,Int.reduceSub,Int.reduceMul,Int.reduceGE,Int.reduceGT,endO,hnr,Nat.mul_one] | rw [dr_cons])
    repeat (with_reducible refine And.intro (by first | omega | (simp only [maxLen];omega) | (simp;done) | (simp;omega)) ?_)
    refine draw_vc (by kernel_rfl) (mkTab_ok _ _) (of_decide_eq_true rfl) (of_decide_eq_true rfl) ?_
    repeat (first | simp (maxSteps:=2000000) only [go_sem,↓reduceIte,Nat.reduceLT,Nat.reduceLeDiff,Nat.reduceAdd,Nat.reduceSub,Nat.reduceMul,Nat.reduceEqDiff,reduceCtorEq,Int.reduceToNat,Int.reduceEq,Int.reduceBEq,Int.reduceBNe,Int.reduceLT,Int.reduceLE,Int.reduceNeg,Int.reduceAdd,Int.reduceSub,Int.reduceMul,Int.reduceGE,Int.reduceGT,endO,hwp] | rw [dr_cons])
    repeat (with_reducible refine And.intro (by first | omega | (simp only [maxLen];omega) | (simp;done) | (simp;omega)) ?_)
    have hsx:stepS o s 0 ⟨1,reg,ad,val,frm,old,cnt⟩=some (⟨s.words,s.regs.set 0 ((s.regs.getD 0 r40).put reg (seeS s 0 ad)),s.places,s.bufs⟩,1):=by simp [stepS]
    rw [← hR,← hW,hst,hsx]
    exact retTurnP (s:=⟨s.words,s.regs.set 0 ((s.regs.getD 0 r40).put reg (seeS s 0 ad)),_,s.bufs⟩) (s0:=s) List.mem_cons_self (fun E E'=>by simp [SV.den,SC.den]) (by simp) (by simp) (by simp) rfl rfl rfl rfl rfl (put_r4 hkr hg) rfl (set_atsT (enc:=eI) hk1) rfl rfl
   by_cases k2:kind=2
   ·subst k2
    have had:0≤ad∧ad<s.words.length:=by rw [lw];exact f4 (by decide)
    have hfm:=f5 rfl
    have hadn:ad.toNat<s.words.length:=by omega
    by_cases hfr:frm≥0
    ·have dfr:decide (frm≥0)=true:=decide_eq_true hfr
     have hnf:=nth_r4 (xs:=s.regs) (k:=0) (r:=frm) ⟨hfr,hfm.2⟩
     by_cases ho:o=1
     ·have do1:(o == 1)=true:=by simpa using ho
      simp (maxSteps:=2000000) only [go_sem,↓reduceIte,Nat.reduceLT,Nat.reduceLeDiff,Nat.reduceAdd,Nat.reduceSub,Nat.reduceMul,Nat.reduceEqDiff,reduceCtorEq,Int.reduceToNat,Int.reduceEq,Int.reduceBEq,Int.reduceBNe,Int.reduceLT,Int.reduceLE,Int.reduceNeg,Int.reduceAdd,Int.reduceSub,Int.reduceMul,Int.reduceGE,Int.reduceGT,endO,ir25_62,dfr,do1]
      refine draw_vc (by kernel_rfl) (mkTab_ok _ _) (of_decide_eq_true rfl) (of_decide_eq_true rfl) ?_
      repeat (first | simp (maxSteps:=2000000) only [go_sem,↓reduceIte,Nat.reduceLT,Nat.reduceLeDiff,Nat.reduceAdd,Nat.reduceSub,Nat.reduceMul,Nat.reduceEqDiff,reduceCtorEq,Int.reduceToNat,Int.reduceEq,Int.reduceBEq,Int.reduceBNe,Int.reduceLT,Int.reduceLE,Int.reduceNeg,Int.reduceAdd,Int.reduceSub,Int.reduceMul,Int.reduceGE,Int.reduceGT,endO,hnf,Nat.mul_one,dfr,do1] | rw [dr_cons])
      repeat (with_reducible refine And.intro (by first | omega | (simp only [maxLen];omega) | (simp;done) | (simp;omega)) ?_)
      refine draw_vc (by kernel_rfl) (mkTab_ok _ _) (of_decide_eq_true rfl) (of_decide_eq_true rfl) ?_
      repeat (first | simp (maxSteps:=2000000) only [go_sem,↓reduceIte,Nat.reduceLT,Nat.reduceLeDiff,Nat.reduceAdd,Nat.reduceSub,Nat.reduceMul,Nat.reduceEqDiff,reduceCtorEq,Int.reduceToNat,Int.reduceEq,Int.reduceBEq,Int.reduceBNe,Int.reduceLT,Int.reduceLE,Int.reduceNeg,Int.reduceAdd,Int.reduceSub,Int.reduceMul,Int.reduceGE,Int.reduceGT,endO,dfr,do1] | rw [dr_cons])
      repeat (with_reducible refine And.intro (by first | omega | (simp only [maxLen];omega) | (simp;done) | (simp;omega)) ?_)
      refine draw_vc (by kernel_rfl) (mkTab_ok _ _) (of_decide_eq_true rfl) (of_decide_eq_true rfl) ?_
      repeat (first | simp (maxSteps:=2000000) only [go_sem,↓reduceIte,Nat.reduceLT,Nat.reduceLeDiff,Nat.reduceAdd,Nat.reduceSub,Nat.reduceMul,Nat.reduceEqDiff,reduceCtorEq,Int.reduceToNat,Int.reduceEq,Int.reduceBEq,Int.reduceBNe,Int.reduceLT,Int.reduceLE,Int.reduceNeg,Int.reduceAdd,Int.reduceSub,Int.reduceMul,Int.reduceGE,Int.reduceGT,endO,hwp] | rw [dr_cons])
      repeat (with_reducible refine And.intro (by first | omega | (simp only [maxLen];omega) | (simp;done) | (simp;omega)) ?_)
      have hsx:stepS o s 0 ⟨2,reg,ad,val,frm,old,cnt⟩=some (⟨s.words.set ad.toNat ((s.regs.getD 0 r40).get frm),s.regs,s.places,s.bufs⟩,1):=by rw [st2,if_pos ho,if_pos hfr]
      rw [← hR,← hW,hst,hsx]
      exact retTurnP (s:=⟨s.words.set ad.toNat ((s.regs.getD 0 r40).get frm),s.regs,_,s.bufs⟩) (s0:=s) List.mem_cons_self (fun E E'=>by simp [SV.den,SC.den]) (by simp) rfl (by simp) rfl rfl rfl (set_atsT (enc:=eI) hadn) rfl rfl rfl (set_atsT (enc:=eI) hk1) rfl rfl
     ·have do1:(o == 1)=false:=by simpa using ho
      simp (maxSteps:=2000000) only [go_sem,↓reduceIte,Nat.reduceLT,Nat.reduceLeDiff,Nat.reduceAdd,Nat.reduceSub,Nat.reduceMul,Nat.reduceEqDiff,reduceCtorEq,Int.reduceToNat,Int.reduceEq,Int.reduceBEq,Int.reduceBNe,Int.reduceLT,Int.reduceLE,Int.reduceNeg,Int.reduceAdd,Int.reduceSub,Int.reduceMul,Int.reduceGE,Int.reduceGT,endO,ir25_62,dfr,do1]
      refine draw_vc (by kernel_rfl) (mkTab_ok _ _) (of_decide_eq_true rfl) (of_decide_eq_true rfl) ?_
      repeat (first | simp (maxSteps:=2000000) only [go_sem,↓reduceIte,Nat.reduceLT,Nat.reduceLeDiff,Nat.reduceAdd,Nat.reduceSub,Nat.reduceMul,Nat.reduceEqDiff,reduceCtorEq,Int.reduceToNat,Int.reduceEq,Int.reduceBEq,Int.reduceBNe,Int.reduceLT,Int.reduceLE,Int.reduceNeg,Int.reduceAdd,Int.reduceSub,Int.reduceMul,Int.reduceGE,Int.reduceGT,endO,hnf,Nat.mul_one,dfr,do1] | rw [dr_cons])
      repeat (with_reducible refine And.intro (by first | omega | (simp only [maxLen];omega) | (simp;done) | (simp;omega)) ?_)
      refine draw_vc (by kernel_rfl) (mkTab_ok _ _) (of_decide_eq_true rfl) (of_decide_eq_true rfl) ?_
      repeat (first | simp (maxSteps:=2000000) only [go_sem,↓reduceIte,Nat.reduceLT,Nat.reduceLeDiff,Nat.reduceAdd,Nat.reduceSub,Nat.reduceMul,Nat.reduceEqDiff,reduceCtorEq,Int.reduceToNat,Int.reduceEq,Int.reduceBEq,Int.reduceBNe,Int.reduceLT,Int.reduceLE,Int.reduceNeg,Int.reduceAdd,Int.reduceSub,Int.reduceMul,Int.reduceGE,Int.reduceGT,endO,dfr,do1,bfC,bfO,Pd.enc] | rw [dr_cons])
      repeat (with_reducible refine And.intro (by first | omega | (simp only [maxLen];omega) | (simp;done) | (simp;omega)) ?_)
      refine draw_vc (by kernel_rfl) (mkTab_ok _ _) (of_decide_eq_true rfl) (of_decide_eq_true rfl) ?_
      repeat (first | simp (maxSteps:=2000000) only [go_sem,↓reduceIte,Nat.reduceLT,Nat.reduceLeDiff,Nat.reduceAdd,Nat.reduceSub,Nat.reduceMul,Nat.reduceEqDiff,reduceCtorEq,Int.reduceToNat,Int.reduceEq,Int.reduceBEq,Int.reduceBNe,Int.reduceLT,Int.reduceLE,Int.reduceNeg,Int.reduceAdd,Int.reduceSub,Int.reduceMul,Int.reduceGE,Int.reduceGT,endO,hwp] | rw [dr_cons])
      repeat (with_reducible refine And.intro (by first | omega | (simp only [maxLen];omega) | (simp;done) | (simp;omega)) ?_)
      have hsx:stepS o s 0 ⟨2,reg,ad,val,frm,old,cnt⟩=some (⟨s.words,s.regs,s.places,s.bufs.set 0 (s.bufs.getD 0 []++[⟨ad,(s.regs.getD 0 r40).get frm⟩])⟩,1):=by rw [st2,if_neg ho,if_pos hfr]
      rw [← hR,← hW,hst,hsx]
      exact retTurnA hkb (by decide) List.mem_cons_self (fun E E'=>by simp [SV.den,SC.den]) (by simp) rfl rfl rfl rfl (set_atsT (enc:=eI) hk1) rfl rfl (fun e he=>if_neg he) rfl rfl
    ·have dfr:decide (frm≥0)=false:=decide_eq_false hfr
     by_cases ho:o=1
     ·have do1:(o == 1)=true:=by simpa using ho
      simp (maxSteps:=2000000) only [go_sem,↓reduceIte,Nat.reduceLT,Nat.reduceLeDiff,Nat.reduceAdd,Nat.reduceSub,Nat.reduceMul,Nat.reduceEqDiff,reduceCtorEq,Int.reduceToNat,Int.reduceEq,Int.reduceBEq,Int.reduceBNe,Int.reduceLT,Int.reduceLE,Int.reduceNeg,Int.reduceAdd,Int.reduceSub,Int.reduceMul,Int.reduceGE,Int.reduceGT,endO,ir25_62,dfr,do1]
      refine draw_vc (by kernel_rfl) (mkTab_ok _ _) (of_decide_eq_true rfl) (of_decide_eq_true rfl) ?_
      repeat (first | simp (maxSteps:=2000000) only [go_sem,↓reduceIte,Nat.reduceLT,Nat.reduceLeDiff,Nat.reduceAdd,Nat.reduceSub,Nat.reduceMul,Nat.reduceEqDiff,reduceCtorEq,Int.reduceToNat,Int.reduceEq,Int.reduceBEq,Int.reduceBNe,Int.reduceLT,Int.reduceLE,Int.reduceNeg,Int.reduceAdd,Int.reduceSub,Int.reduceMul,Int.reduceGE,Int.reduceGT,endO,dfr,do1] | rw [dr_cons])
      repeat (with_reducible refine And.intro (by first | omega | (simp only [maxLen];omega) | (simp;done) | (simp;omega)) ?_)
      refine draw_vc (by kernel_rfl) (mkTab_ok _ _) (of_decide_eq_true rfl) (of_decide_eq_true rfl) ?_
      repeat (first | simp (maxSteps:=2000000) only [go_sem,↓reduceIte,Nat.reduceLT,Nat.reduceLeDiff,Nat.reduceAdd,Nat.reduceSub,Nat.reduceMul,Nat.reduceEqDiff,reduceCtorEq,Int.reduceToNat,Int.reduceEq,Int.reduceBEq,Int.reduceBNe,Int.reduceLT,Int.reduceLE,Int.reduceNeg,Int.reduceAdd,Int.reduceSub,Int.reduceMul,Int.reduceGE,Int.reduceGT,endO,hwp] | rw [dr_cons])
      repeat (with_reducible refine And.intro (by first | omega | (simp only [maxLen];omega) | (simp;done) | (simp;omega)) ?_)
      have hsx:stepS o s 0 ⟨2,reg,ad,val,frm,old,cnt⟩=some (⟨s.words.set ad.toNat val,s.regs,s.places,s.bufs⟩,1):=by rw [st2,if_pos ho,if_neg hfr]
      rw [← hR,← hW,hst,hsx]
      exact retTurnP (s:=⟨s.words.set ad.toNat val,s.regs,_,s.bufs⟩) (s0:=s) List.mem_cons_self (fun E E'=>by simp [SV.den,SC.den]) (by simp) rfl (by simp) rfl rfl rfl (set_atsT (enc:=eI) hadn) rfl rfl rfl (set_atsT (enc:=eI) hk1) rfl rfl
     ·have do1:(o == 1)=false:=by simpa using ho
      simp (maxSteps:=2000000) only [go_sem,↓reduceIte,Nat.reduceLT,Nat.reduceLeDiff,Nat.reduceAdd,Nat.reduceSub,Nat.reduceMul,Nat.reduceEqDiff,reduceCtorEq,Int.reduceToNat,Int.reduceEq,Int.reduceBEq,Int.reduceBNe,Int.reduceLT,Int.reduceLE,Int.reduceNeg,Int.reduceAdd,Int.reduceSub,Int.reduceMul,Int.reduceGE,Int.reduceGT,endO,ir25_62,dfr,do1]
      refine draw_vc (by kernel_rfl) (mkTab_ok _ _) (of_decide_eq_true rfl) (of_decide_eq_true rfl) ?_
      repeat (first | simp (maxSteps:=2000000) only [go_sem,↓reduceIte,Nat.reduceLT,Nat.reduceLeDiff,Nat.reduceAdd,Nat.reduceSub,Nat.reduceMul,Nat.reduceEqDiff,reduceCtorEq,Int.reduceToNat,Int.reduceEq,Int.reduceBEq,Int.reduceBNe,Int.reduceLT,Int.reduceLE,Int.reduceNeg,Int.reduceAdd,Int.reduceSub,Int.reduceMul,Int.reduceGE,Int.reduceGT,endO,dfr,do1,bfC,bfO,Pd.enc] | rw [dr_cons])
      repeat (with_reducible refine And.intro (by first | omega | (simp only [maxLen];omega) | (simp;done) | (simp;omega)) ?_)
      refine draw_vc (by kernel_rfl) (mkTab_ok _ _) (of_decide_eq_true rfl) (of_decide_eq_true rfl) ?_
      repeat (first | simp (maxSteps:=2000000) only [go_sem,↓reduceIte,Nat.reduceLT,Nat.reduceLeDiff,Nat.reduceAdd,Nat.reduceSub,Nat.reduceMul,Nat.reduceEqDiff,reduceCtorEq,Int.reduceToNat,Int.reduceEq,Int.reduceBEq,Int.reduceBNe,Int.reduceLT,Int.reduceLE,Int.reduceNeg,Int.reduceAdd,Int.reduceSub,Int.reduceMul,Int.reduceGE,Int.reduceGT,endO,hwp] | rw [dr_cons])
      repeat (with_reducible refine And.intro (by first | omega | (simp only [maxLen];omega) | (simp;done) | (simp;omega)) ?_)
      have hsx:stepS o s 0 ⟨2,reg,ad,val,frm,old,cnt⟩=some (⟨s.words,s.regs,s.places,s.bufs.set 0 (s.bufs.getD 0 []++[⟨ad,val⟩])⟩,1):=by rw [st2,if_neg ho,if_neg hfr]
      rw [← hR,← hW,hst,hsx]
      exact retTurnA hkb (by decide) List.mem_cons_self (fun E E'=>by simp [SV.den,SC.den]) (by simp) rfl rfl rfl rfl (set_atsT (enc:=eI) hk1) rfl rfl (fun e he=>if_neg he) rfl rfl
   by_cases k3:kind=3
   ·subst k3
    have hg:0≤reg∧reg<4:=f3 (by decide) (by decide)
    have hnr:=nth_r4 (xs:=s.regs) (k:=0) hg
    have had:0≤ad∧ad<s.words.length:=by rw [lw];exact f4 (by decide)
    have hadn:ad.toNat<s.words.length:=by omega
    by_cases hbf:(s.bufs.getD 0 []).length>0
    ·have dbf:decide (((s.bufs.getD 0 []).length:Int)>0)=true:=decide_eq_true (by omega)
     simp (maxSteps:=2000000) only [go_sem,↓reduceIte,Nat.reduceLT,Nat.reduceLeDiff,Nat.reduceAdd,Nat.reduceSub,Nat.reduceMul,Nat.reduceEqDiff,reduceCtorEq,Int.reduceToNat,Int.reduceEq,Int.reduceBEq,Int.reduceBNe,Int.reduceLT,Int.reduceLE,Int.reduceNeg,Int.reduceAdd,Int.reduceSub,Int.reduceMul,Int.reduceGE,Int.reduceGT,endO,ir25_62,bfC,bfO,dbf]
     repeat (with_reducible refine And.intro (by first | omega | (simp only [maxLen];omega) | (simp;done) | (simp;omega)) ?_)
     exact hno (by rw [hst,st3,if_pos hbf]) List.mem_cons_self rfl rfl rfl rfl rfl rfl
    have dbf:decide (((s.bufs.getD 0 []).length:Int)>0)=false:=decide_eq_false (by omega)
    simp (maxSteps:=2000000) only [go_sem,↓reduceIte,Nat.reduceLT,Nat.reduceLeDiff,Nat.reduceAdd,Nat.reduceSub,Nat.reduceMul,Nat.reduceEqDiff,reduceCtorEq,Int.reduceToNat,Int.reduceEq,Int.reduceBEq,Int.reduceBNe,Int.reduceLT,Int.reduceLE,Int.reduceNeg,Int.reduceAdd,Int.reduceSub,Int.reduceMul,Int.reduceGE,Int.reduceGT,endO,ir25_62,bfC,bfO,dbf]
    repeat (with_reducible refine And.intro (by first | omega | (simp only [maxLen];omega) | (simp;done) | (simp;omega)) ?_)
    refine draw_vc (by kernel_rfl) (mkTab_ok _ _) (of_decide_eq_true rfl) (of_decide_eq_true rfl) ?_
    repeat (first | simp (maxSteps:=2000000) only [go_sem,↓reduceIte,Nat.reduceLT,Nat.reduceLeDiff,Nat.reduceAdd,Nat.reduceSub,Nat.reduceMul,Nat.reduceEqDiff,reduceCtorEq,Int.reduceToNat,Int.reduceEq,Int.reduceBEq,Int.reduceBNe,Int.reduceLT,Int.reduceLE,Int.reduceNeg,Int.reduceAdd,Int.reduceSub,Int.reduceMul,Int.reduceGE,Int.reduceGT,endO,hnr,Nat.mul_one] | rw [dr_cons])
    repeat (with_reducible refine And.intro (by first | omega | (simp only [maxLen];omega) | (simp;done) | (simp;omega)) ?_)
    rw [put_r4 hkr hg]
    refine draw_vc (by kernel_rfl) (mkTab_ok _ _) (of_decide_eq_true rfl) (of_decide_eq_true rfl) ?_
    repeat (first | simp (maxSteps:=2000000) only [go_sem,↓reduceIte,Nat.reduceLT,Nat.reduceLeDiff,Nat.reduceAdd,Nat.reduceSub,Nat.reduceMul,Nat.reduceEqDiff,reduceCtorEq,Int.reduceToNat,Int.reduceEq,Int.reduceBEq,Int.reduceBNe,Int.reduceLT,Int.reduceLE,Int.reduceNeg,Int.reduceAdd,Int.reduceSub,Int.reduceMul,Int.reduceGE,Int.reduceGT,endO] | rw [dr_cons])
    repeat (with_reducible refine And.intro (by first | omega | (simp only [maxLen];omega) | (simp;done) | (simp;omega)) ?_)
    refine both (fun hq=>?_) (fun hq=>?_)
    ·have hq:s.words.getD ad.toNat 0=old:=by simpa using hq
     refine draw_vc (by kernel_rfl) (mkTab_ok _ _) (of_decide_eq_true rfl) (of_decide_eq_true rfl) ?_
     repeat (first | simp (maxSteps:=2000000) only [go_sem,↓reduceIte,Nat.reduceLT,Nat.reduceLeDiff,Nat.reduceAdd,Nat.reduceSub,Nat.reduceMul,Nat.reduceEqDiff,reduceCtorEq,Int.reduceToNat,Int.reduceEq,Int.reduceBEq,Int.reduceBNe,Int.reduceLT,Int.reduceLE,Int.reduceNeg,Int.reduceAdd,Int.reduceSub,Int.reduceMul,Int.reduceGE,Int.reduceGT,endO] | rw [dr_cons])
     repeat (with_reducible refine And.intro (by first | omega | (simp only [maxLen];omega) | (simp;done) | (simp;omega)) ?_)
     refine draw_vc (by kernel_rfl) (mkTab_ok _ _) (of_decide_eq_true rfl) (of_decide_eq_true rfl) ?_
     repeat (first | simp (maxSteps:=2000000) only [go_sem,↓reduceIte,Nat.reduceLT,Nat.reduceLeDiff,Nat.reduceAdd,Nat.reduceSub,Nat.reduceMul,Nat.reduceEqDiff,reduceCtorEq,Int.reduceToNat,Int.reduceEq,Int.reduceBEq,Int.reduceBNe,Int.reduceLT,Int.reduceLE,Int.reduceNeg,Int.reduceAdd,Int.reduceSub,Int.reduceMul,Int.reduceGE,Int.reduceGT,endO,Nat.mul_one] | rw [dr_cons])
     repeat (with_reducible refine And.intro (by first | omega | (simp only [maxLen];omega) | (simp;done) | (simp;omega)) ?_)
     refine draw_vc (by kernel_rfl) (mkTab_ok _ _) (of_decide_eq_true rfl) (of_decide_eq_true rfl) ?_
     repeat (first | simp (maxSteps:=2000000) only [go_sem,↓reduceIte,Nat.reduceLT,Nat.reduceLeDiff,Nat.reduceAdd,Nat.reduceSub,Nat.reduceMul,Nat.reduceEqDiff,reduceCtorEq,Int.reduceToNat,Int.reduceEq,Int.reduceBEq,Int.reduceBNe,Int.reduceLT,Int.reduceLE,Int.reduceNeg,Int.reduceAdd,Int.reduceSub,Int.reduceMul,Int.reduceGE,Int.reduceGT,endO,hwp] | rw [dr_cons])
     repeat (with_reducible refine And.intro (by first | omega | (simp only [maxLen];omega) | (simp;done) | (simp;omega)) ?_)
     have hkr2:0<(s.regs.set 0 ((s.regs.getD 0 r40).put reg 0)).length:=by simpa using hkr
     have hsx:stepS o s 0 ⟨3,reg,ad,val,frm,old,cnt⟩=some (⟨s.words.set ad.toNat val,s.regs.set 0 ((s.regs.getD 0 r40).put reg 1),s.places,s.bufs⟩,1):=by rw [st3,if_neg hbf,if_pos hq]
     rw [← hR,← hW,hst,hsx]
     exact retTurnP (s:=⟨s.words.set ad.toNat val,s.regs.set 0 ((s.regs.getD 0 r40).put reg 1),_,s.bufs⟩) (s0:=s) List.mem_cons_self (fun E E'=>by simp [SV.den,SC.den]) (by simp) (by simp) (by simp) rfl rfl rfl (set_atsT (enc:=eI) hadn) rfl ((put_r4 hkr2 hg).trans (by rw [put_twice hkr hg])) rfl (set_atsT (enc:=eI) hk1) rfl rfl
    ·have hq:¬ s.words.getD ad.toNat 0=old:=by simpa using hq
     refine draw_vc (by kernel_rfl) (mkTab_ok _ _) (of_decide_eq_true rfl) (of_decide_eq_true rfl) ?_
     repeat (first | simp (maxSteps:=2000000) only [go_sem,↓reduceIte,Nat.reduceLT,Nat.reduceLeDiff,Nat.reduceAdd,Nat.reduceSub,Nat.reduceMul,Nat.reduceEqDiff,reduceCtorEq,Int.reduceToNat,Int.reduceEq,Int.reduceBEq,Int.reduceBNe,Int.reduceLT,Int.reduceLE,Int.reduceNeg,Int.reduceAdd,Int.reduceSub,Int.reduceMul,Int.reduceGE,Int.reduceGT,endO,hwp] | rw [dr_cons])
     repeat (with_reducible refine And.intro (by first | omega | (simp only [maxLen];omega) | (simp;done) | (simp;omega)) ?_)
     have hsx:stepS o s 0 ⟨3,reg,ad,val,frm,old,cnt⟩=some (⟨s.words,s.regs.set 0 ((s.regs.getD 0 r40).put reg 0),s.places,s.bufs⟩,1):=by rw [st3,if_neg hbf,if_neg hq]
     rw [← hR,← hW,hst,hsx]
     exact retTurnP (s:=⟨s.words,s.regs.set 0 ((s.regs.getD 0 r40).put reg 0),_,s.bufs⟩) (s0:=s) List.mem_cons_self (fun E E'=>by simp [SV.den,SC.den]) rfl (by simp) (by simp) rfl rfl rfl rfl rfl rfl rfl (set_atsT (enc:=eI) hk1) rfl rfl
   by_cases k4:kind=4
   ·subst k4
    by_cases hbf:(s.bufs.getD 0 []).length>0
    ·have dbf:decide (((s.bufs.getD 0 []).length:Int)>0)=true:=decide_eq_true (by omega)
     simp (maxSteps:=2000000) only [go_sem,↓reduceIte,Nat.reduceLT,Nat.reduceLeDiff,Nat.reduceAdd,Nat.reduceSub,Nat.reduceMul,Nat.reduceEqDiff,reduceCtorEq,Int.reduceToNat,Int.reduceEq,Int.reduceBEq,Int.reduceBNe,Int.reduceLT,Int.reduceLE,Int.reduceNeg,Int.reduceAdd,Int.reduceSub,Int.reduceMul,Int.reduceGE,Int.reduceGT,endO,ir25_62,bfC,bfO,dbf]
     repeat (with_reducible refine And.intro (by first | omega | (simp only [maxLen];omega) | (simp;done) | (simp;omega)) ?_)
     exact hno (by rw [hst,st4,if_pos hbf]) List.mem_cons_self rfl rfl rfl rfl rfl rfl
    have dbf:decide (((s.bufs.getD 0 []).length:Int)>0)=false:=decide_eq_false (by omega)
    simp (maxSteps:=2000000) only [go_sem,↓reduceIte,Nat.reduceLT,Nat.reduceLeDiff,Nat.reduceAdd,Nat.reduceSub,Nat.reduceMul,Nat.reduceEqDiff,reduceCtorEq,Int.reduceToNat,Int.reduceEq,Int.reduceBEq,Int.reduceBNe,Int.reduceLT,Int.reduceLE,Int.reduceNeg,Int.reduceAdd,Int.reduceSub,Int.reduceMul,Int.reduceGE,Int.reduceGT,endO,ir25_62,bfC,bfO,dbf]
    repeat (with_reducible refine And.intro (by first | omega | (simp only [maxLen];omega) | (simp;done) | (simp;omega)) ?_)
    refine draw_vc (by kernel_rfl) (mkTab_ok _ _) (of_decide_eq_true rfl) (of_decide_eq_true rfl) ?_
    repeat (first | simp (maxSteps:=2000000) only [go_sem,↓reduceIte,Nat.reduceLT,Nat.reduceLeDiff,Nat.reduceAdd,Nat.reduceSub,Nat.reduceMul,Nat.reduceEqDiff,reduceCtorEq,Int.reduceToNat,Int.reduceEq,Int.reduceBEq,Int.reduceBNe,Int.reduceLT,Int.reduceLE,Int.reduceNeg,Int.reduceAdd,Int.reduceSub,Int.reduceMul,Int.reduceGE,Int.reduceGT,endO,hwp] | rw [dr_cons])
    repeat (with_reducible refine And.intro (by first | omega | (simp only [maxLen];omega) | (simp;done) | (simp;omega)) ?_)
    have hsx:stepS o s 0 ⟨4,reg,ad,val,frm,old,cnt⟩=some (⟨s.words,s.regs,s.places,s.bufs⟩,1):=by rw [st4,if_neg hbf]
    rw [← hR,← hW,hst,hsx]
    exact retTurnP (s:=⟨s.words,s.regs,_,s.bufs⟩) (s0:=s) List.mem_cons_self (fun E E'=>by simp [SV.den,SC.den]) rfl rfl (by simp) rfl rfl rfl rfl rfl rfl rfl (set_atsT (enc:=eI) hk1) rfl rfl
   by_cases k5:kind=5
   ·subst k5
    have hg:0≤reg∧reg<4:=f3 (by decide) (by decide)
    have hnr:=nth_r4 (xs:=s.regs) (k:=0) hg
    simp (maxSteps:=2000000) only [go_sem,↓reduceIte,Nat.reduceLT,Nat.reduceLeDiff,Nat.reduceAdd,Nat.reduceSub,Nat.reduceMul,Nat.reduceEqDiff,reduceCtorEq,Int.reduceToNat,Int.reduceEq,Int.reduceBEq,Int.reduceBNe,Int.reduceLT,Int.reduceLE,Int.reduceNeg,Int.reduceAdd,Int.reduceSub,Int.reduceMul,Int.reduceGE,Int.reduceGT,endO,ir25_62]
    refine draw_vc (by kernel_rfl) (mkTab_ok _ _) (of_decide_eq_true rfl) (of_decide_eq_true rfl) ?_
    repeat (first | simp (maxSteps:=2000000) only [go_sem,↓reduceIte,Nat.reduceLT,Nat.reduceLeDiff,Nat.reduceAdd,Nat.reduceSub,Nat.reduceMul,Nat.reduceEqDiff,reduceCtorEq,Int.reduceToNat,Int.reduceEq,Int.reduceBEq,Int.reduceBNe,Int.reduceLT,Int.reduceLE,Int.reduceNeg,Int.reduceAdd,Int.reduceSub,Int.reduceMul,Int.reduceGE,Int.reduceGT,endO,hnr,Nat.mul_one] | rw [dr_cons])
    repeat (with_reducible refine And.intro (by first | omega | (simp only [maxLen];omega) | (simp;done) | (simp;omega)) ?_)
    refine draw_vc (by kernel_rfl) (mkTab_ok _ _) (of_decide_eq_true rfl) (of_decide_eq_true rfl) ?_
    repeat (first | simp (maxSteps:=2000000) only [go_sem,↓reduceIte,Nat.reduceLT,Nat.reduceLeDiff,Nat.reduceAdd,Nat.reduceSub,Nat.reduceMul,Nat.reduceEqDiff,reduceCtorEq,Int.reduceToNat,Int.reduceEq,Int.reduceBEq,Int.reduceBNe,Int.reduceLT,Int.reduceLE,Int.reduceNeg,Int.reduceAdd,Int.reduceSub,Int.reduceMul,Int.reduceGE,Int.reduceGT,endO,hwp] | rw [dr_cons])
    repeat (with_reducible refine And.intro (by first | omega | (simp only [maxLen];omega) | (simp;done) | (simp;omega)) ?_)
    have hsx:stepS o s 0 ⟨5,reg,ad,val,frm,old,cnt⟩=some (⟨s.words,s.regs.set 0 ((s.regs.getD 0 r40).put reg val),s.places,s.bufs⟩,1):=by simp [stepS]
    rw [← hR,← hW,hst,hsx]
    exact retTurnP (s:=⟨s.words,s.regs.set 0 ((s.regs.getD 0 r40).put reg val),_,s.bufs⟩) (s0:=s) List.mem_cons_self (fun E E'=>by simp [SV.den,SC.den]) rfl (by simp) (by simp) rfl rfl rfl rfl rfl (put_r4 hkr hg) rfl (set_atsT (enc:=eI) hk1) rfl rfl
   by_cases k6:kind=6
   ·subst k6
    have hg:0≤reg∧reg<4:=f3 (by decide) (by decide)
    have hnr:=nth_r4 (xs:=s.regs) (k:=0) hg
    simp (maxSteps:=2000000) only [go_sem,↓reduceIte,Nat.reduceLT,Nat.reduceLeDiff,Nat.reduceAdd,Nat.reduceSub,Nat.reduceMul,Nat.reduceEqDiff,reduceCtorEq,Int.reduceToNat,Int.reduceEq,Int.reduceBEq,Int.reduceBNe,Int.reduceLT,Int.reduceLE,Int.reduceNeg,Int.reduceAdd,Int.reduceSub,Int.reduceMul,Int.reduceGE,Int.reduceGT,endO,ir25_62]
    refine draw_vc (by kernel_rfl) (mkTab_ok _ _) (of_decide_eq_true rfl) (of_decide_eq_true rfl) ?_
    repeat (first | simp (maxSteps:=2000000) only [go_sem,↓reduceIte,Nat.reduceLT,Nat.reduceLeDiff,Nat.reduceAdd,Nat.reduceSub,Nat.reduceMul,Nat.reduceEqDiff,reduceCtorEq,Int.reduceToNat,Int.reduceEq,Int.reduceBEq,Int.reduceBNe,Int.reduceLT,Int.reduceLE,Int.reduceNeg,Int.reduceAdd,Int.reduceSub,Int.reduceMul,Int.reduceGE,Int.reduceGT,endO,hnr,Nat.mul_one] | rw [dr_cons])
    repeat (with_reducible refine And.intro (by first | omega | (simp only [maxLen];omega) | (simp;done) | (simp;omega)) ?_)
    refine draw_vc (by kernel_rfl) (mkTab_ok _ _) (of_decide_eq_true rfl) (of_decide_eq_true rfl) ?_
    repeat (first | simp (maxSteps:=2000000) only [go_sem,↓reduceIte,Nat.reduceLT,Nat.reduceLeDiff,Nat.reduceAdd,Nat.reduceSub,Nat.reduceMul,Nat.reduceEqDiff,reduceCtorEq,Int.reduceToNat,Int.reduceEq,Int.reduceBEq,Int.reduceBNe,Int.reduceLT,Int.reduceLE,Int.reduceNeg,Int.reduceAdd,Int.reduceSub,Int.reduceMul,Int.reduceGE,Int.reduceGT,endO,hwp] | rw [dr_cons])
    repeat (with_reducible refine And.intro (by first | omega | (simp only [maxLen];omega) | (simp;done) | (simp;omega)) ?_)
    have hsx:stepS o s 0 ⟨6,reg,ad,val,frm,old,cnt⟩=some (⟨s.words,s.regs.set 0 ((s.regs.getD 0 r40).put reg (IntKind.i64.wrap ((s.regs.getD 0 r40).get reg+val))),s.places,s.bufs⟩,1):=by simp [stepS]
    rw [← hR,← hW,hst,hsx]
    exact retTurnP (s:=⟨s.words,s.regs.set 0 ((s.regs.getD 0 r40).put reg (IntKind.i64.wrap ((s.regs.getD 0 r40).get reg+val))),_,s.bufs⟩) (s0:=s) List.mem_cons_self (fun E E'=>by simp [SV.den,SC.den]) rfl (by simp) (by simp) rfl rfl rfl rfl rfl (put_r4 hkr hg) rfl (set_atsT (enc:=eI) hk1) rfl rfl
   have k7:kind=7:=by omega
   subst k7
   have hg:0≤reg∧reg<4:=f3 (by decide) (by decide)
   have hnr:=nth_r4 (xs:=s.regs) (k:=0) hg
   have hcn:=f6 rfl
   have hw1:IntKind.i64.wrap (1+cnt)=1+cnt:=wrI (by omega)
   have hwc:IntKind.i64.wrap (s.places.getD 0 0+(1+cnt))=s.places.getD 0 0+(1+cnt):=wrI (by have:=(fits_at hL hk).1;omega)
   simp (maxSteps:=2000000) only [go_sem,↓reduceIte,Nat.reduceLT,Nat.reduceLeDiff,Nat.reduceAdd,Nat.reduceSub,Nat.reduceMul,Nat.reduceEqDiff,reduceCtorEq,Int.reduceToNat,Int.reduceEq,Int.reduceBEq,Int.reduceBNe,Int.reduceLT,Int.reduceLE,Int.reduceNeg,Int.reduceAdd,Int.reduceSub,Int.reduceMul,Int.reduceGE,Int.reduceGT,endO,ir25_62]
   refine draw_vc (by kernel_rfl) (mkTab_ok _ _) (of_decide_eq_true rfl) (of_decide_eq_true rfl) ?_
   repeat (first | simp (maxSteps:=2000000) only [go_sem,↓reduceIte,Nat.reduceLT,Nat.reduceLeDiff,Nat.reduceAdd,Nat.reduceSub,Nat.reduceMul,Nat.reduceEqDiff,reduceCtorEq,Int.reduceToNat,Int.reduceEq,Int.reduceBEq,Int.reduceBNe,Int.reduceLT,Int.reduceLE,Int.reduceNeg,Int.reduceAdd,Int.reduceSub,Int.reduceMul,Int.reduceGE,Int.reduceGT,endO,hnr,Nat.mul_one] | rw [dr_cons])
   repeat (with_reducible refine And.intro (by first | omega | (simp only [maxLen];omega) | (simp;done) | (simp;omega)) ?_)
   refine both (fun hq=>?_) (fun hq=>?_)
   ·have hq:(s.regs.getD 0 r40).get reg=val:=by simpa using hq
    refine draw_vc (by kernel_rfl) (mkTab_ok _ _) (of_decide_eq_true rfl) (of_decide_eq_true rfl) ?_
    repeat (first | simp (maxSteps:=2000000) only [go_sem,↓reduceIte,Nat.reduceLT,Nat.reduceLeDiff,Nat.reduceAdd,Nat.reduceSub,Nat.reduceMul,Nat.reduceEqDiff,reduceCtorEq,Int.reduceToNat,Int.reduceEq,Int.reduceBEq,Int.reduceBNe,Int.reduceLT,Int.reduceLE,Int.reduceNeg,Int.reduceAdd,Int.reduceSub,Int.reduceMul,Int.reduceGE,Int.reduceGT,endO,hw1,hwc] | rw [dr_cons])
    repeat (with_reducible refine And.intro (by first | omega | (simp only [maxLen];omega) | (simp;done) | (simp;omega)) ?_)
    have hsx:stepS o s 0 ⟨7,reg,ad,val,frm,old,cnt⟩=some (⟨s.words,s.regs,s.places,s.bufs⟩,1+cnt):=by rw [st7,if_pos hq]
    rw [← hR,← hW,hst,hsx]
    exact retTurnP (s:=⟨s.words,s.regs,_,s.bufs⟩) (s0:=s) List.mem_cons_self (fun E E'=>by simp [SV.den,SC.den]) rfl rfl (by simp) rfl rfl rfl rfl rfl rfl rfl (set_atsT (enc:=eI) hk1) rfl rfl
   ·have hq:¬ (s.regs.getD 0 r40).get reg=val:=by simpa using hq
    refine draw_vc (by kernel_rfl) (mkTab_ok _ _) (of_decide_eq_true rfl) (of_decide_eq_true rfl) ?_
    repeat (first | simp (maxSteps:=2000000) only [go_sem,↓reduceIte,Nat.reduceLT,Nat.reduceLeDiff,Nat.reduceAdd,Nat.reduceSub,Nat.reduceMul,Nat.reduceEqDiff,reduceCtorEq,Int.reduceToNat,Int.reduceEq,Int.reduceBEq,Int.reduceBNe,Int.reduceLT,Int.reduceLE,Int.reduceNeg,Int.reduceAdd,Int.reduceSub,Int.reduceMul,Int.reduceGE,Int.reduceGT,endO,hwp] | rw [dr_cons])
    repeat (with_reducible refine And.intro (by first | omega | (simp only [maxLen];omega) | (simp;done) | (simp;omega)) ?_)
    have hsx:stepS o s 0 ⟨7,reg,ad,val,frm,old,cnt⟩=some (⟨s.words,s.regs,s.places,s.bufs⟩,1):=by rw [st7,if_neg hq]
    rw [← hR,← hW,hst,hsx]
    exact retTurnP (s:=⟨s.words,s.regs,_,s.bufs⟩) (s0:=s) List.mem_cons_self (fun E E'=>by simp [SV.den,SC.den]) rfl rfl (by simp) rfl rfl rfl rfl rfl rfl rfl (set_atsT (enc:=eI) hk1) rfl rfl
 ·have hno2:turnS L o s ⟨thr,out,addr⟩=(s,false):=by unfold turnS;rw [if_neg hk]
  simp (maxSteps:=2000000) only [ir25,nt25,rs25,go_sem,↓reduceIte,Nat.reduceLT,Nat.reduceLeDiff,Nat.reduceAdd,Nat.reduceSub,Nat.reduceMul,Nat.reduceEqDiff,reduceCtorEq,Int.reduceToNat,Int.reduceEq,Int.reduceBEq,Int.reduceBNe,Int.reduceLT,Int.reduceLE,Int.reduceNeg,Int.reduceAdd,Int.reduceSub,Int.reduceMul,Int.reduceGE,Int.reduceGT,endO,ltA,ltS,Tn.enc,stP,stO,stC,bfC]
  refine both (fun hb=>?_) (fun hb=>?_)
  ·exact hno hno2 List.mem_cons_self rfl rfl rfl rfl rfl rfl
  ·exfalso
   simp at hb
   omega
end Go.Proofs.Ytmcpdafmkkjlcaa.Z
namespace Go.Proofs.Ytmcpdafmkkjlcaa.Z
open Go Go.RowKit
def ir14:IR:=(.seq (.ops [⟨(some 2),(.mv (.k (.c (.v (.int .i64 0))))),none⟩]) (.kill [1,2,3,4,5,6,7,8,9,10,11] (.seq (.ops [⟨(some 3),(.mv (.t 0)),none⟩,⟨(some 2),(.mv (.t 3)),none⟩]) (.kill [0,3] .ret))))
def rs14:List RS:=[(.t 2)]
def nt14:Nat:=4
def ir41:IR:=(.seq (.ops [⟨(some 4),(.mv (.k (.c (.v (.bool false))))),none⟩]) (.kill [2,3,4,5,6,7,8,9,10,11] (.seq (.seq (.ops [⟨(some 6),(.mv (.t 0)),none⟩,⟨(some 7),(.len (.t 6)),none⟩,⟨(some 8),(.mv (.t 1)),none⟩,⟨(some 9),(.len (.t 8)),none⟩,⟨(some 10),(.bin .neq (.t 7) (.t 9)),none⟩]) (.kill [6,7,8,9] (.cond (.t 10) (.seq (.ops [⟨(some 4),(.mv (.k (.c (.v (.bool false))))),none⟩]) (.kill [0,1,10] .ret)) .skip))) (.kill [4,10] (.seq (.seq (.ops [⟨(some 5),(.mv (.k (.c (.v (.int .i64 0))))),none⟩]) (.blk 0 (.loop (.seq (.seq (.ops [⟨(some 11),(.mv (.t 5)),none⟩,⟨(some 12),(.mv (.t 0)),none⟩,⟨(some 13),(.len (.t 12)),none⟩,⟨(some 14),(.bin .lss (.t 11) (.t 13)),none⟩]) (.kill [4,11,12,13,15,16,17,18,19,20,21,22,23,24,25] (.cond (.t 14) .skip (.exit 0)))) (.kill [14] (.seq (.blk 1 (.seq (.draw [(⟨(some 17),(.mv (.t 0)),none⟩,([],[18,21,22,23,24])),(⟨(some 18),(.mv (.t 5)),none⟩,([0],[17,21,22,23,24])),(⟨(some 19),(.ia 1 (.t 17) (.t 18)),none⟩,([],[21,22,23,24])),(⟨(some 20),(.ld false 1 (.t 19)),none⟩,([],[21,22,23,24])),(⟨(some 21),(.mv (.t 1)),none⟩,([0,1,2,3],[17,18,19,20,22])),(⟨(some 22),(.mv (.t 5)),none⟩,([0,1,2,3,4],[17,18,19,20,21])),(⟨(some 23),(.ia 1 (.t 21) (.t 22)),none⟩,([0,1,2,3],[17,18,19,20])),(⟨(some 24),(.ld false 1 (.t 23)),none⟩,([0,1,2,3],[17,18,19,20])),(⟨(some 25),(.bin .neq (.t 20) (.t 24)),none⟩,([],[]))]) (.kill [17,18,19,20,21,22,23,24] (.cond (.t 25) (.seq (.ops [⟨(some 4),(.mv (.k (.c (.v (.bool false))))),none⟩]) (.kill [0,1,5,25] .ret)) .skip)))) (.kill [4,17,18,19,20,21,22,23,24,25] (.ops [⟨(some 15),(.mv (.t 5)),none⟩,⟨(some 16),(.bin .add (.t 15) (.k (.c (.v (.int .i64 1))))),none⟩,⟨(some 5),(.mv (.t 16)),none⟩])))))))) (.kill [0,1,4,5,11,12,13,14,15,16,17,18,19,20,21,22,23,24,25] (.seq (.ops [⟨(some 4),(.mv (.k (.c (.v (.bool true))))),none⟩]) .ret)))))))
def rs41:List RS:=[(.t 4)]
def nt41:Nat:=26
def ir13:IR:=(.seq (.ops [⟨(some 2),(.box 32 (.t 0)),none⟩,⟨(some 3),(.box 32 (.t 1)),none⟩,⟨(some 4),(.mv (.k (.c (.v (.bool false))))),none⟩]) (.kill [0,1,4,5,6,7,8,9,10,11] (.seq (.seq (.ops [⟨(some 8),(.fa 0 (.t 2)),none⟩,⟨(some 9),(.ld false 1 (.t 8)),none⟩,⟨(some 10),(.fa 0 (.t 3)),none⟩,⟨(some 11),(.ld false 1 (.t 10)),none⟩,⟨(some 12),(.call 41 [(.t 9),(.t 11)]),none⟩,⟨(some 13),(.un .not (.t 12)),none⟩,⟨(some 14),(.mv (.t 13)),none⟩,⟨(some 15),(.fa 1 (.t 2)),(some (14,false))⟩,⟨(some 16),(.ld false 1 (.t 15)),(some (14,false))⟩,⟨(some 17),(.len (.t 16)),(some (14,false))⟩,⟨(some 18),(.fa 1 (.t 3)),(some (14,false))⟩,⟨(some 19),(.ld false 1 (.t 18)),(some (14,false))⟩,⟨(some 20),(.len (.t 19)),(some (14,false))⟩,⟨(some 21),(.bin .neq (.t 17) (.t 20)),(some (14,false))⟩,⟨(some 22),(.pick (.t 14) (.k (.c (.v (.bool true)))) (.t 21)),none⟩,⟨(some 23),(.mv (.t 22)),none⟩,⟨(some 24),(.fa 2 (.t 2)),(some (23,false))⟩,⟨(some 25),(.ld false 1 (.t 24)),(some (23,false))⟩,⟨(some 26),(.fa 2 (.t 3)),(some (23,false))⟩,⟨(some 27),(.ld false 1 (.t 26)),(some (23,false))⟩,⟨(some 28),(.call 41 [(.t 25),(.t 27)]),(some (23,false))⟩,⟨(some 29),(.un .not (.t 28)),(some (23,false))⟩,⟨(some 30),(.pick (.t 23) (.k (.c (.v (.bool true)))) (.t 29)),none⟩,⟨(some 31),(.mv (.t 30)),none⟩,⟨(some 32),(.fa 3 (.t 2)),(some (31,false))⟩,⟨(some 33),(.ld false 1 (.t 32)),(some (31,false))⟩,⟨(some 34),(.len (.t 33)),(some (31,false))⟩,⟨(some 35),(.fa 3 (.t 3)),(some (31,false))⟩,⟨(some 36),(.ld false 1 (.t 35)),(some (31,false))⟩,⟨(some 37),(.len (.t 36)),(some (31,false))⟩,⟨(some 38),(.bin .neq (.t 34) (.t 37)),(some (31,false))⟩,⟨(some 39),(.pick (.t 31) (.k (.c (.v (.bool true)))) (.t 38)),none⟩]) (.kill [8,9,10,11,12,13,14,15,16,17,18,19,20,21,22,23,24,25,26,27,28,29,30,31,32,33,34,35,36,37,38] (.cond (.t 39) (.seq (.ops [⟨(some 4),(.mv (.k (.c (.v (.bool false))))),none⟩]) (.kill [2,3,39] .ret)) .skip))) (.kill [4,39] (.seq (.seq (.ops [⟨(some 5),(.mv (.k (.c (.v (.int .i64 0))))),none⟩]) (.blk 0 (.loop (.seq (.seq (.ops [⟨(some 40),(.mv (.t 5)),none⟩,⟨(some 41),(.fa 1 (.t 2)),none⟩,⟨(some 42),(.ld false 1 (.t 41)),none⟩,⟨(some 43),(.len (.t 42)),none⟩,⟨(some 44),(.bin .lss (.t 40) (.t 43)),none⟩]) (.kill [4,40,41,42,43,45,46,47,48,49,50,51,52,53,54,55,56,57] (.cond (.t 44) .skip (.exit 0)))) (.kill [44] (.seq (.blk 1 (.seq (.draw [(⟨(some 47),(.fa 1 (.t 2)),none⟩,([],[49,52,53,54,55,56])),(⟨(some 48),(.ld false 1 (.t 47)),none⟩,([],[49,52,53,54,55,56])),(⟨(some 49),(.mv (.t 5)),none⟩,([0,1],[47,48,52,53,54,55,56])),(⟨(some 50),(.ia 4 (.t 48) (.t 49)),none⟩,([],[52,53,54,55,56])),(⟨(some 51),(.ld true 4 (.t 50)),none⟩,([],[52,53,54,55,56])),(⟨(some 52),(.fa 1 (.t 3)),none⟩,([0,1,2,3,4],[47,48,49,50,51,54])),(⟨(some 53),(.ld false 1 (.t 52)),none⟩,([0,1,2,3,4],[47,48,49,50,51,54])),(⟨(some 54),(.mv (.t 5)),none⟩,([0,1,2,3,4,5,6],[47,48,49,50,51,52,53])),(⟨(some 55),(.ia 4 (.t 53) (.t 54)),none⟩,([0,1,2,3,4],[47,48,49,50,51])),(⟨(some 56),(.ld true 4 (.t 55)),none⟩,([0,1,2,3,4],[47,48,49,50,51])),(⟨(some 57),(.eqa true [true,true,true,true] (.t 51) (.t 56)),none⟩,([],[]))]) (.kill [47,48,49,50,51,52,53,54,55,56] (.cond (.t 57) (.seq (.ops [⟨(some 4),(.mv (.k (.c (.v (.bool false))))),none⟩]) (.kill [2,3,5,57] .ret)) .skip)))) (.kill [4,47,48,49,50,51,52,53,54,55,56,57] (.ops [⟨(some 45),(.mv (.t 5)),none⟩,⟨(some 46),(.bin .add (.t 45) (.k (.c (.v (.int .i64 1))))),none⟩,⟨(some 5),(.mv (.t 46)),none⟩])))))))) (.kill [4,5,40,41,42,43,44,45,46,47,48,49,50,51,52,53,54,55,56,57] (.seq (.seq (.ops [⟨(some 6),(.mv (.k (.c (.v (.int .i64 0))))),none⟩]) (.blk 2 (.loop (.seq (.seq (.ops [⟨(some 58),(.mv (.t 6)),none⟩,⟨(some 59),(.fa 3 (.t 2)),none⟩,⟨(some 60),(.ld false 1 (.t 59)),none⟩,⟨(some 61),(.len (.t 60)),none⟩,⟨(some 62),(.bin .lss (.t 58) (.t 61)),none⟩]) (.kill [4,7,58,59,60,61,63,64,65,66,67,68,69,70,71,72,73,74,75,76,77,78,79,80,81,82,83,84,85,86,87,88,89,90,91,92,93,94,95,96,97,98,99,100,101,102,103,104] (.cond (.t 62) .skip (.exit 2)))) (.kill [62] (.seq (.blk 3 (.seq (.seq (.draw [(⟨(some 65),(.fa 3 (.t 2)),none⟩,([],[67,71,72,73,74,75,76])),(⟨(some 66),(.ld false 1 (.t 65)),none⟩,([],[67,71,72,73,74,75,76])),(⟨(some 67),(.mv (.t 6)),none⟩,([0,1],[65,66,71,72,73,74,75,76])),(⟨(some 68),(.ia 1 (.t 66) (.t 67)),none⟩,([],[71,72,73,74,75,76])),(⟨(some 69),(.ld false 1 (.t 68)),none⟩,([],[71,72,73,74,75,76])),(⟨(some 70),(.len (.t 69)),none⟩,([],[71,72,73,74,75,76])),(⟨(some 71),(.fa 3 (.t 3)),none⟩,([0,1,2,3,4,5],[65,66,67,68,69,70,73])),(⟨(some 72),(.ld false 1 (.t 71)),none⟩,([0,1,2,3,4,5],[65,66,67,68,69,70,73])),(⟨(some 73),(.mv (.t 6)),none⟩,([0,1,2,3,4,5,6,7],[65,66,67,68,69,70,71,72])),(⟨(some 74),(.ia 1 (.t 72) (.t 73)),none⟩,([0,1,2,3,4,5],[65,66,67,68,69,70])),(⟨(some 75),(.ld false 1 (.t 74)),none⟩,([0,1,2,3,4,5],[65,66,67,68,69,70])),(⟨(some 76),(.len (.t 75)),none⟩,([0,1,2,3,4,5],[65,66,67,68,69,70])),(⟨(some 77),(.bin .neq (.t 70) (.t 76)),none⟩,([],[]))]) (.kill [65,66,67,68,69,70,71,72,73,74,75,76] (.cond (.t 77) (.seq (.ops [⟨(some 4),(.mv (.k (.c (.v (.bool false))))),none⟩]) (.kill [2,3,6,77] .ret)) .skip))) (.kill [4,77] (.seq (.ops [⟨(some 7),(.mv (.k (.c (.v (.int .i64 0))))),none⟩]) (.blk 4 (.loop (.seq (.seq (.ops [⟨(some 78),(.mv (.t 7)),none⟩,⟨(some 79),(.fa 3 (.t 2)),none⟩,⟨(some 80),(.ld false 1 (.t 79)),none⟩,⟨(some 81),(.mv (.t 6)),none⟩,⟨(some 82),(.ia 1 (.t 80) (.t 81)),none⟩,⟨(some 83),(.ld false 1 (.t 82)),none⟩,⟨(some 84),(.len (.t 83)),none⟩,⟨(some 85),(.bin .lss (.t 78) (.t 84)),none⟩]) (.kill [4,78,79,80,81,82,83,84,86,87,88,89,90,91,92,93,94,95,96,97,98,99,100,101,102,103,104] (.cond (.t 85) .skip (.exit 4)))) (.kill [85] (.seq (.blk 5 (.seq (.draw [(⟨(some 88),(.fa 3 (.t 2)),none⟩,([],[90,93,96,97,98,99,100,101,102,103])),(⟨(some 89),(.ld false 1 (.t 88)),none⟩,([],[90,93,96,97,98,99,100,101,102,103])),(⟨(some 90),(.mv (.t 6)),none⟩,([0,1],[88,89,93,96,97,98,99,100,101,102,103])),(⟨(some 91),(.ia 1 (.t 89) (.t 90)),none⟩,([],[93,96,97,98,99,100,101,102,103])),(⟨(some 92),(.ld false 1 (.t 91)),none⟩,([],[93,96,97,98,99,100,101,102,103])),(⟨(some 93),(.mv (.t 7)),none⟩,([0,1,2,3,4],[88,89,90,91,92,96,97,98,99,100,101,102,103])),(⟨(some 94),(.ia 2 (.t 92) (.t 93)),none⟩,([],[96,97,98,99,100,101,102,103])),(⟨(some 95),(.ld true 2 (.t 94)),none⟩,([],[96,97,98,99,100,101,102,103])),(⟨(some 96),(.fa 3 (.t 3)),none⟩,([0,1,2,3,4,5,6,7],[88,89,90,91,92,93,94,95,98,101])),(⟨(some 97),(.ld false 1 (.t 96)),none⟩,([0,1,2,3,4,5,6,7],[88,89,90,91,92,93,94,95,98,101])),(⟨(some 98),(.mv (.t 6)),none⟩,([0,1,2,3,4,5,6,7,8,9],[88,89,90,91,92,93,94,95,96,97,101])),(⟨(some 99),(.ia 1 (.t 97) (.t 98)),none⟩,([0,1,2,3,4,5,6,7],[88,89,90,91,92,93,94,95,101])),(⟨(some 100),(.ld false 1 (.t 99)),none⟩,([0,1,2,3,4,5,6,7],[88,89,90,91,92,93,94,95,101])),(⟨(some 101),(.mv (.t 7)),none⟩,([0,1,2,3,4,5,6,7,8,9,10,11,12],[88,89,90,91,92,93,94,95,96,97,98,99,100])),(⟨(some 102),(.ia 2 (.t 100) (.t 101)),none⟩,([0,1,2,3,4,5,6,7],[88,89,90,91,92,93,94,95])),(⟨(some 103),(.ld true 2 (.t 102)),none⟩,([0,1,2,3,4,5,6,7],[88,89,90,91,92,93,94,95])),(⟨(some 104),(.eqa true [true,true] (.t 95) (.t 103)),none⟩,([],[]))]) (.kill [88,89,90,91,92,93,94,95,96,97,98,99,100,101,102,103] (.cond (.t 104) (.seq (.ops [⟨(some 4),(.mv (.k (.c (.v (.bool false))))),none⟩]) (.kill [2,3,6,7,104] .ret)) .skip)))) (.kill [4,88,89,90,91,92,93,94,95,96,97,98,99,100,101,102,103,104] (.ops [⟨(some 86),(.mv (.t 7)),none⟩,⟨(some 87),(.bin .add (.t 86) (.k (.c (.v (.int .i64 1))))),none⟩,⟨(some 7),(.mv (.t 87)),none⟩]))))))))))) (.kill [4,7,65,66,67,68,69,70,71,72,73,74,75,76,77,78,79,80,81,82,83,84,85,86,87,88,89,90,91,92,93,94,95,96,97,98,99,100,101,102,103,104] (.ops [⟨(some 63),(.mv (.t 6)),none⟩,⟨(some 64),(.bin .add (.t 63) (.k (.c (.v (.int .i64 1))))),none⟩,⟨(some 6),(.mv (.t 64)),none⟩])))))))) (.kill [2,3,4,6,7,58,59,60,61,62,63,64,65,66,67,68,69,70,71,72,73,74,75,76,77,78,79,80,81,82,83,84,85,86,87,88,89,90,91,92,93,94,95,96,97,98,99,100,101,102,103,104] (.seq (.ops [⟨(some 4),(.mv (.k (.c (.v (.bool true))))),none⟩]) .ret)))))))))
def rs13:List RS:=[(.t 4)]
def nt13:Nat:=105
def ir15:IR:=(.seq (.ops [⟨(some 2),(.box 25 (.t 0)),none⟩,⟨(some 3),(.box 25 (.t 1)),none⟩,⟨(some 4),(.mv (.k (.c (.v (.bool false))))),none⟩]) (.kill [0,1,4,5,6,7,8,9,10,11] (.seq (.seq (.ops [⟨(some 7),(.fa 0 (.t 2)),none⟩,⟨(some 8),(.ld false 1 (.t 7)),none⟩,⟨(some 9),(.fa 0 (.t 3)),none⟩,⟨(some 10),(.ld false 1 (.t 9)),none⟩,⟨(some 11),(.call 41 [(.t 8),(.t 10)]),none⟩,⟨(some 12),(.un .not (.t 11)),none⟩,⟨(some 13),(.mv (.t 12)),none⟩,⟨(some 14),(.fa 1 (.t 2)),(some (13,false))⟩,⟨(some 15),(.ld false 1 (.t 14)),(some (13,false))⟩,⟨(some 16),(.len (.t 15)),(some (13,false))⟩,⟨(some 17),(.fa 1 (.t 3)),(some (13,false))⟩,⟨(some 18),(.ld false 1 (.t 17)),(some (13,false))⟩,⟨(some 19),(.len (.t 18)),(some (13,false))⟩,⟨(some 20),(.bin .neq (.t 16) (.t 19)),(some (13,false))⟩,⟨(some 21),(.pick (.t 13) (.k (.c (.v (.bool true)))) (.t 20)),none⟩]) (.kill [7,8,9,10,11,12,13,14,15,16,17,18,19,20] (.cond (.t 21) (.seq (.ops [⟨(some 4),(.mv (.k (.c (.v (.bool false))))),none⟩]) (.kill [2,3,21] .ret)) .skip))) (.kill [4,21] (.seq (.seq (.ops [⟨(some 5),(.mv (.k (.c (.v (.int .i64 0))))),none⟩]) (.blk 0 (.loop (.seq (.seq (.ops [⟨(some 22),(.mv (.t 5)),none⟩,⟨(some 23),(.fa 1 (.t 2)),none⟩,⟨(some 24),(.ld false 1 (.t 23)),none⟩,⟨(some 25),(.len (.t 24)),none⟩,⟨(some 26),(.bin .lss (.t 22) (.t 25)),none⟩]) (.kill [4,6,22,23,24,25,27,28,29,30,31,32,33,34,35,36,37,38,39,40,41,42,43,44,45,46,47,48,49,50,51,52,53,54,55,56,57,58,59,60,61,62,63,64,65,66,67,68] (.cond (.t 26) .skip (.exit 0)))) (.kill [26] (.seq (.blk 1 (.seq (.seq (.draw [(⟨(some 29),(.fa 1 (.t 2)),none⟩,([],[31,35,36,37,38,39,40])),(⟨(some 30),(.ld false 1 (.t 29)),none⟩,([],[31,35,36,37,38,39,40])),(⟨(some 31),(.mv (.t 5)),none⟩,([0,1],[29,30,35,36,37,38,39,40])),(⟨(some 32),(.ia 1 (.t 30) (.t 31)),none⟩,([],[35,36,37,38,39,40])),(⟨(some 33),(.ld false 1 (.t 32)),none⟩,([],[35,36,37,38,39,40])),(⟨(some 34),(.len (.t 33)),none⟩,([],[35,36,37,38,39,40])),(⟨(some 35),(.fa 1 (.t 3)),none⟩,([0,1,2,3,4,5],[29,30,31,32,33,34,37])),(⟨(some 36),(.ld false 1 (.t 35)),none⟩,([0,1,2,3,4,5],[29,30,31,32,33,34,37])),(⟨(some 37),(.mv (.t 5)),none⟩,([0,1,2,3,4,5,6,7],[29,30,31,32,33,34,35,36])),(⟨(some 38),(.ia 1 (.t 36) (.t 37)),none⟩,([0,1,2,3,4,5],[29,30,31,32,33,34])),(⟨(some 39),(.ld false 1 (.t 38)),none⟩,([0,1,2,3,4,5],[29,30,31,32,33,34])),(⟨(some 40),(.len (.t 39)),none⟩,([0,1,2,3,4,5],[29,30,31,32,33,34])),(⟨(some 41),(.bin .neq (.t 34) (.t 40)),none⟩,([],[]))]) (.kill [29,30,31,32,33,34,35,36,37,38,39,40] (.cond (.t 41) (.seq (.ops [⟨(some 4),(.mv (.k (.c (.v (.bool false))))),none⟩]) (.kill [2,3,5,41] .ret)) .skip))) (.kill [4,41] (.seq (.ops [⟨(some 6),(.mv (.k (.c (.v (.int .i64 0))))),none⟩]) (.blk 2 (.loop (.seq (.seq (.ops [⟨(some 42),(.mv (.t 6)),none⟩,⟨(some 43),(.fa 1 (.t 2)),none⟩,⟨(some 44),(.ld false 1 (.t 43)),none⟩,⟨(some 45),(.mv (.t 5)),none⟩,⟨(some 46),(.ia 1 (.t 44) (.t 45)),none⟩,⟨(some 47),(.ld false 1 (.t 46)),none⟩,⟨(some 48),(.len (.t 47)),none⟩,⟨(some 49),(.bin .lss (.t 42) (.t 48)),none⟩]) (.kill [4,42,43,44,45,46,47,48,50,51,52,53,54,55,56,57,58,59,60,61,62,63,64,65,66,67,68] (.cond (.t 49) .skip (.exit 2)))) (.kill [49] (.seq (.blk 3 (.seq (.draw [(⟨(some 52),(.fa 1 (.t 2)),none⟩,([],[54,57,60,61,62,63,64,65,66,67])),(⟨(some 53),(.ld false 1 (.t 52)),none⟩,([],[54,57,60,61,62,63,64,65,66,67])),(⟨(some 54),(.mv (.t 5)),none⟩,([0,1],[52,53,57,60,61,62,63,64,65,66,67])),(⟨(some 55),(.ia 1 (.t 53) (.t 54)),none⟩,([],[57,60,61,62,63,64,65,66,67])),(⟨(some 56),(.ld false 1 (.t 55)),none⟩,([],[57,60,61,62,63,64,65,66,67])),(⟨(some 57),(.mv (.t 6)),none⟩,([0,1,2,3,4],[52,53,54,55,56,60,61,62,63,64,65,66,67])),(⟨(some 58),(.ia 7 (.t 56) (.t 57)),none⟩,([],[60,61,62,63,64,65,66,67])),(⟨(some 59),(.ld true 7 (.t 58)),none⟩,([],[60,61,62,63,64,65,66,67])),(⟨(some 60),(.fa 1 (.t 3)),none⟩,([0,1,2,3,4,5,6,7],[52,53,54,55,56,57,58,59,62,65])),(⟨(some 61),(.ld false 1 (.t 60)),none⟩,([0,1,2,3,4,5,6,7],[52,53,54,55,56,57,58,59,62,65])),(⟨(some 62),(.mv (.t 5)),none⟩,([0,1,2,3,4,5,6,7,8,9],[52,53,54,55,56,57,58,59,60,61,65])),(⟨(some 63),(.ia 1 (.t 61) (.t 62)),none⟩,([0,1,2,3,4,5,6,7],[52,53,54,55,56,57,58,59,65])),(⟨(some 64),(.ld false 1 (.t 63)),none⟩,([0,1,2,3,4,5,6,7],[52,53,54,55,56,57,58,59,65])),(⟨(some 65),(.mv (.t 6)),none⟩,([0,1,2,3,4,5,6,7,8,9,10,11,12],[52,53,54,55,56,57,58,59,60,61,62,63,64])),(⟨(some 66),(.ia 7 (.t 64) (.t 65)),none⟩,([0,1,2,3,4,5,6,7],[52,53,54,55,56,57,58,59])),(⟨(some 67),(.ld true 7 (.t 66)),none⟩,([0,1,2,3,4,5,6,7],[52,53,54,55,56,57,58,59])),(⟨(some 68),(.eqa true [true,true,true,true,true,true,true] (.t 59) (.t 67)),none⟩,([],[]))]) (.kill [52,53,54,55,56,57,58,59,60,61,62,63,64,65,66,67] (.cond (.t 68) (.seq (.ops [⟨(some 4),(.mv (.k (.c (.v (.bool false))))),none⟩]) (.kill [2,3,5,6,68] .ret)) .skip)))) (.kill [4,52,53,54,55,56,57,58,59,60,61,62,63,64,65,66,67,68] (.ops [⟨(some 50),(.mv (.t 6)),none⟩,⟨(some 51),(.bin .add (.t 50) (.k (.c (.v (.int .i64 1))))),none⟩,⟨(some 6),(.mv (.t 51)),none⟩]))))))))))) (.kill [4,6,29,30,31,32,33,34,35,36,37,38,39,40,41,42,43,44,45,46,47,48,49,50,51,52,53,54,55,56,57,58,59,60,61,62,63,64,65,66,67,68] (.ops [⟨(some 27),(.mv (.t 5)),none⟩,⟨(some 28),(.bin .add (.t 27) (.k (.c (.v (.int .i64 1))))),none⟩,⟨(some 5),(.mv (.t 28)),none⟩])))))))) (.kill [2,3,4,5,6,22,23,24,25,26,27,28,29,30,31,32,33,34,35,36,37,38,39,40,41,42,43,44,45,46,47,48,49,50,51,52,53,54,55,56,57,58,59,60,61,62,63,64,65,66,67,68] (.seq (.ops [⟨(some 4),(.mv (.k (.c (.v (.bool true))))),none⟩]) .ret)))))))
def rs15:List RS:=[(.t 4)]
def nt15:Nat:=69
set_option maxRecDepth 100000 in
set_option maxHeartbeats 400000 in
theorem num_calls (w:World) (e:Int):Calls Try.prog 14 #[.int .i64 e] w (RetV w (.int .i64 e)):=by
 refine enter0 (A:=[]) (c:=ir14) (rs:=rs14) (nt:=nt14) [.c (.v (.int .i64 e))] #[.int .i64 e] Try.func14 rfl (by kernel_rfl) (by kernel_rfl) rfl (fun E'=>by simp [SV.den,SC.den]) (of_decide_eq_true rfl) ?_
 simp (maxSteps:=2000000) only [ir14,nt14,rs14,go_sem,↓reduceIte,Nat.reduceLT,Nat.reduceLeDiff,Nat.reduceAdd,Nat.reduceSub,Nat.reduceMul,Nat.reduceEqDiff,reduceCtorEq,Int.reduceToNat,Int.reduceEq,Int.reduceBEq,Int.reduceBNe,Int.reduceLT,Int.reduceLE,Int.reduceNeg,Int.reduceAdd,Int.reduceSub,Int.reduceMul,Int.reduceGE,Int.reduceGT,endO]
 exact retV fun E=>by simp [SV.den,SC.den]
set_option maxRecDepth 100000 in
set_option maxHeartbeats 400000 in
theorem sints_calls (w:World) (v v' : Value) (xs:List Int) (h:Arr w eI 1 v xs) (h' : Arr w eI 1 v' xs):Calls Try.prog 41 #[v,v'] w (RetV w (.bool true)):=by
 refine enter2 (A:=[]) (c:=ir41) (rs:=rs41) (nt:=nt41) 0 eI_ok h 0 eI_ok h' [.c (.xv (0,0,0)),.c (.xv (1,0,0))] _ Try.func41 rfl (by kernel_rfl) (by kernel_rfl) rfl (fun E' h0 h1=>by simp [SV.den,SC.den,h0,h1]) (of_decide_eq_true rfl) ?_
 simp (maxSteps:=2000000) only [ir41,nt41,rs41,go_sem,↓reduceIte,Nat.reduceLT,Nat.reduceLeDiff,Nat.reduceAdd,Nat.reduceSub,Nat.reduceMul,Nat.reduceEqDiff,reduceCtorEq,Int.reduceToNat,Int.reduceEq,Int.reduceBEq,Int.reduceBNe,Int.reduceLT,Int.reduceLE,Int.reduceNeg,Int.reduceAdd,Int.reduceSub,Int.reduceMul,Int.reduceGE,Int.reduceGT,endO]
 refine loopI (ι:={ i:Nat // i≤xs.length }) (fun i=>⟨26,[(0,.c (.xv (0,0,0))),(1,.c (.xv (1,0,0))),(5,.c (.v (.int .i64 (i.1:Nat))))],[],[(0,.one (arrOf eI 1 xs 0)),(1,.one (arrOf eI 1 xs 0))],[],2⟩)
  (fun i=>xs.length - i.1) ⟨0,by omega⟩ (le_ren id rfl rfl (by simp [TmpsLe,look,SV.ren,SC.ren,SC.renL,ren1L,ren1,idσ,SV.okN,SC.okN,SC.okL,ok1L]) trivial (by simp [ArrsLe,ArrLeO,atN,look,Fm.get,idσ,arrLe_of,arrLe_0]) rfl) ?_
 rintro ⟨i,hi⟩
 have hml:=Z.Arr.lenM h
 simp only [maxLen] at hml
 simp (maxSteps:=2000000) only [go_sem,↓reduceIte,Nat.reduceLT,Nat.reduceLeDiff,Nat.reduceAdd,Nat.reduceSub,Nat.reduceMul,Nat.reduceEqDiff,reduceCtorEq,Int.reduceToNat,Int.reduceEq,Int.reduceBEq,Int.reduceBNe,Int.reduceLT,Int.reduceLE,Int.reduceNeg,Int.reduceAdd,Int.reduceSub,Int.reduceMul,Int.reduceGE,Int.reduceGT,endO]
 refine both (fun hlt=>?_) (fun hge=>?_)
 ·rw [decide_eq_true_eq] at hlt
  have hlt:i<xs.length:=by omega
  refine draw_vc (by kernel_rfl) (mkTab_ok _ _) (of_decide_eq_true rfl) (of_decide_eq_true rfl) ?_
  repeat (first | simp (maxSteps:=2000000) only [go_sem,↓reduceIte,Nat.reduceLT,Nat.reduceLeDiff,Nat.reduceAdd,Nat.reduceSub,Nat.reduceMul,Nat.reduceEqDiff,reduceCtorEq,Int.reduceToNat,Int.reduceEq,Int.reduceBEq,Int.reduceBNe,Int.reduceLT,Int.reduceLE,Int.reduceNeg,Int.reduceAdd,Int.reduceSub,Int.reduceMul,Int.reduceGE,Int.reduceGT,endO,eI] | rw [dr_cons])
  refine And.intro hlt (And.intro hlt (And.intro hlt (And.intro hlt ?_)))
  rw [wr_succ (by omega)]
  exact backI ⟨i+1,by omega⟩ (by simp only;omega) (le_ren id rfl rfl (by simp [TmpsLe,look,SV.ren,SC.ren,SC.renL,ren1L,ren1,idσ,SV.okN,SC.okN,SC.okL,ok1L]) trivial (by simp [ArrsLe,ArrLeO,atN,look,Fm.get,idσ,arrLe_of,arrLe_0]) rfl)
 ·exact retV fun E=>by simp [SV.den,SC.den]
def StR (w:World) (v:Value) (s:LS):Prop:=∃ vw vr vp vb,v = .agg #[vw,vr,vp,vb]∧Arr w eI 1 vw s.words∧Arr w R4.enc 4 vr s.regs∧Arr w eI 1 vp s.places∧Nest w Pd.enc 2 vb s.bufs
def stA (i:Nat) (s:LS):List (Nat×Fm ArrF):=[(i,.one (arrOf eI 1 s.words 0)),(i+1,.one (arrOf R4.enc 4 s.regs r40)),(i+2,.one (arrOf eI 1 s.places 0)),(i+3,.one (nestF (i+4) s.bufs.length)),(i+4,.fam s.bufs.length fun k=>arrOf Pd.enc 2 (s.bufs.getD k []) pd0)]
def stS (i:Nat):List SC:=[.xv (i,0,0),.xv (i+1,0,0),.xv (i+2,0,0),.xv (i+3,0,0)]
theorem nest_one {α:Type} {w:World} {enc:α→List Value} {s:Nat} {ls:List (List α)} {vs:List Value} (h3:vs.length=ls.length) (h4:∀ k,k<ls.length→Arr w enc s (vs.getD k nest0) (ls.getD k [])) (k:Nat):(vs.getD k nest0).oneCell' = true:=by
 by_cases hk:k<ls.length
 ·exact arr_one (h4 k hk)
 ·rw [List.getD_eq_getElem?_getD,List.getElem?_eq_none (by omega)];rfl
theorem enterSt2 {P:Program} {A:List Nat} {f nt:Nat} {fn:Func} {x:Code} {c:IR} {w:World} {rs:List RS} {R:Ending→World→Prop} {v v' : Value} {s:LS} (h:StR w v s) (h' : StR w v' s)
  (hf:P.funcs[f]? = some fn) (hb:fn.body=some x) (hc:compC (mkTab P A) x=some c.strip) (hrs:compR (mkTab P A).T fn.results.toList=some rs) (hn:fn.ntmps=nt) (hnt:2≤nt)
  (hex:exec (mkC P A w rs R) 1000 [.code c] ⟨nt,enumT 0 [.agg (stS 0),.agg (stS 5)],[],stA 0 s++stA 5 s,[],10⟩):Calls P f #[v,v'] w R:=by
 obtain ⟨vw,vr,vp,vb,rfl,h1,h2,h3,us,h4,h5,h6⟩:=h
 obtain ⟨vw',vr',vp',vb',rfl,h1',h2',h3',us',h4',h5',h6'⟩:=h'
 refine enterL [fun _=>vw,fun _=>vr,fun _=>vp,fun _=>vb,fun k=>us.getD k nest0,fun _=>vw',fun _=>vr',fun _=>vp',fun _=>vb',fun k=>us'.getD k nest0] ⟨fun _=>arr_one h1,fun _=>arr_one h2,fun _=>arr_one h3,fun _=>arr_one h4,nest_one h5 h6,fun _=>arr_one h1',fun _=>arr_one h2',fun _=>arr_one h3',fun _=>arr_one h4',nest_one h5' h6',trivial⟩
  (rd_one 0 0 eI_ok h1 (by simp) rfl (rd_one 1 r40 r4_ok h2 (by simp) rfl (rd_one 2 0 eI_ok h3 (by simp) rfl (rd_nest 3 4 pd0 pd_ok h4 h5 h6 (by simp) (by simp) rfl (fun _=>rfl) (rd_one 5 0 eI_ok h1' (by simp) rfl (rd_one 6 r40 r4_ok h2' (by simp) rfl (rd_one 7 0 eI_ok h3' (by simp) rfl (rd_nest 8 9 pd0 pd_ok h4' h5' h6' (by simp) (by simp) rfl (fun _=>rfl) rd_nil))))))))
  [.agg (stS 0),.agg (stS 5)] _ hf hb hc hrs hn (fun E' hE'=>?_) hnt hex
 have e:=fun i hi=>hE' i 0 0 hi
 simp only [List.map_cons,List.map_nil,SV.den,stS,SC.den,e 0 (by simp),e 1 (by simp),e 2 (by simp),e 3 (by simp),Nat.reduceAdd,e 5 (by simp),e 6 (by simp),e 7 (by simp),e 8 (by simp)]
 rfl
theorem enterLt2 {P:Program} {A:List Nat} {f nt:Nat} {fn:Func} {x:Code} {c:IR} {w:World} {rs:List RS} {R:Ending→World→Prop} {v v' : Value} {L:Lt} (h:LtR w v L) (h' : LtR w v' L)
  (hf:P.funcs[f]? = some fn) (hb:fn.body=some x) (hc:compC (mkTab P A) x=some c.strip) (hrs:compR (mkTab P A).T fn.results.toList=some rs) (hn:fn.ntmps=nt) (hnt:2≤nt)
  (hex:exec (mkC P A w rs R) 1000 [.code c] ⟨nt,enumT 0 [.agg (ltS 0),.agg (ltS 3)],[],ltA 0 L++ltA 3 L,[],6⟩):Calls P f #[v,v'] w R:=by
 obtain ⟨vw,vt,rfl,h1,us,h4,h5,h6⟩:=h
 obtain ⟨vw',vt',rfl,h1',us',h4',h5',h6'⟩:=h'
 refine enterL [fun _=>vw,fun _=>vt,fun k=>us.getD k nest0,fun _=>vw',fun _=>vt',fun k=>us'.getD k nest0] ⟨fun _=>arr_one h1,fun _=>arr_one h4,nest_one h5 h6,fun _=>arr_one h1',fun _=>arr_one h4',nest_one h5' h6',trivial⟩
  (rd_one 0 0 eI_ok h1 (by simp) rfl (rd_nest 1 2 in0 in_ok h4 h5 h6 (by simp) (by simp) rfl (fun _=>rfl) (rd_one 3 0 eI_ok h1' (by simp) rfl (rd_nest 4 5 in0 in_ok h4' h5' h6' (by simp) (by simp) rfl (fun _=>rfl) rd_nil))))
  [.agg (ltS 0),.agg (ltS 3)] _ hf hb hc hrs hn (fun E' hE'=>?_) hnt hex
 have e:=fun i hi=>hE' i 0 0 hi
 simp only [List.map_cons,List.map_nil,SV.den,ltS,SC.den,Nat.reduceAdd,e 0 (by simp),e 1 (by simp),e 3 (by simp),e 4 (by simp)]
 rfl
set_option maxRecDepth 100000 in
set_option maxHeartbeats 400000 in
theorem sstate_calls (w:World) (v v' : Value) (s:LS) (h:StR w v s) (h' : StR w v' s):Calls Try.prog 13 #[v,v'] w (RetV w (.bool true)):=by
 have hm1:s.regs.length≤9223372036854775807:=by obtain ⟨_,_,_,_,_,_,h2,_⟩:=h;have:=Z.Arr.lenM h2;simp only [maxLen] at this;exact this
 have hm2:s.bufs.length≤9223372036854775807:=by obtain ⟨_,_,_,_,_,_,_,_,us,h4,h5,_⟩:=h;have:=Z.Arr.lenM h4;simp only [maxLen] at this;omega
 have hm3:∀ k,k<s.bufs.length→(s.bufs.getD k []).length≤9223372036854775807:=fun k hk=>by obtain ⟨_,_,_,_,_,_,_,_,us,h4,h5,h6⟩:=h;have:=Z.Arr.lenM (h6 k hk);simp only [maxLen] at this;exact this
 refine enterSt2 (A:=[]) (c:=ir13) (rs:=rs13) (nt:=nt13) h h' Try.func13 rfl (by kernel_rfl) (by kernel_rfl) rfl (of_decide_eq_true rfl) ?_
 simp (maxSteps:=2000000) only [ir13,nt13,rs13,go_sem,↓reduceIte,Nat.reduceLT,Nat.reduceLeDiff,Nat.reduceAdd,Nat.reduceSub,Nat.reduceMul,Nat.reduceEqDiff,reduceCtorEq,Int.reduceToNat,Int.reduceEq,Int.reduceBEq,Int.reduceBNe,Int.reduceLT,Int.reduceLE,Int.reduceNeg,Int.reduceAdd,Int.reduceSub,Int.reduceMul,Int.reduceGE,Int.reduceGT,endO,stA,stS]
 refine callV (.c (.v (.bool true))) _ (fun E=>rfl) (fun E a w' hs=>sints_calls w' _ _ s.words (arr_at (d:=0) hs 0 rfl) (arr_at (d:=0) hs 5 rfl)) ?_
 simp (maxSteps:=2000000) only [go_sem,↓reduceIte,Nat.reduceLT,Nat.reduceLeDiff,Nat.reduceAdd,Nat.reduceSub,Nat.reduceMul,Nat.reduceEqDiff,reduceCtorEq,Int.reduceToNat,Int.reduceEq,Int.reduceBEq,Int.reduceBNe,Int.reduceLT,Int.reduceLE,Int.reduceNeg,Int.reduceAdd,Int.reduceSub,Int.reduceMul,Int.reduceGE,Int.reduceGT,endO]
 refine guardW (.c (.v (.bool true))) _ (fun E=>rfl) (fun E a w' hs=>sints_calls w' _ _ s.places (arr_at (d:=0) hs 2 rfl) (arr_at (d:=0) hs 7 rfl)) ?_
 simp (maxSteps:=2000000) only [go_sem,↓reduceIte,Nat.reduceLT,Nat.reduceLeDiff,Nat.reduceAdd,Nat.reduceSub,Nat.reduceMul,Nat.reduceEqDiff,reduceCtorEq,Int.reduceToNat,Int.reduceEq,Int.reduceBEq,Int.reduceBNe,Int.reduceLT,Int.reduceLE,Int.reduceNeg,Int.reduceAdd,Int.reduceSub,Int.reduceMul,Int.reduceGE,Int.reduceGT,endO]
 refine loopI (ι:={ i:Nat // i≤s.regs.length }) (fun i=>⟨105,[(2,.c (.ptr (10,0,0) 0)),(3,.c (.ptr (11,0,0) 0)),(5,.c (.v (.int .i64 (i.1:Nat))))],[(10,.one (.bk [.xv (0,0,0),.xv (1,0,0),.xv (2,0,0),.xv (3,0,0)] 32)),(11,.one (.bk [.xv (5,0,0),.xv (6,0,0),.xv (7,0,0),.xv (8,0,0)] 32))],stA 0 s++stA 5 s,[],12⟩)
  (fun i=>s.regs.length - i.1) ⟨0,by omega⟩ (le_ren id rfl rfl (by simp [TmpsLe,look,SV.ren,SC.ren,SC.renL,ren1L,ren1,idσ,SV.okN,SC.okN,SC.okL,ok1L]) (by simp [OwnLe,BlkLeO,BlkLe,atN,look,Fm.get,idσ,SC.renL,SC.ren,SC.okL,SC.okN,renL_v,okL_v]) (by simp +contextual [stA,ArrsLe,ArrLeO,atN,look,Fm.get,idσ,arrLe_of,arrLe_0,arrLe_nest]) rfl) ?_
 rintro ⟨i,hi⟩
 simp (maxSteps:=2000000) only [go_sem,↓reduceIte,Nat.reduceLT,Nat.reduceLeDiff,Nat.reduceAdd,Nat.reduceSub,Nat.reduceMul,Nat.reduceEqDiff,reduceCtorEq,Int.reduceToNat,Int.reduceEq,Int.reduceBEq,Int.reduceBNe,Int.reduceLT,Int.reduceLE,Int.reduceNeg,Int.reduceAdd,Int.reduceSub,Int.reduceMul,Int.reduceGE,Int.reduceGT,endO,stA]
 refine both (fun hlt=>?_) (fun hge=>?_)
 ·rw [decide_eq_true_eq] at hlt
  have hlt:i<s.regs.length:=by omega
  refine draw_vc (by kernel_rfl) (mkTab_ok _ _) (of_decide_eq_true rfl) (of_decide_eq_true rfl) ?_
  repeat (first | simp (maxSteps:=2000000) only [go_sem,↓reduceIte,Nat.reduceLT,Nat.reduceLeDiff,Nat.reduceAdd,Nat.reduceSub,Nat.reduceMul,Nat.reduceEqDiff,reduceCtorEq,Int.reduceToNat,Int.reduceEq,Int.reduceBEq,Int.reduceBNe,Int.reduceLT,Int.reduceLE,Int.reduceNeg,Int.reduceAdd,Int.reduceSub,Int.reduceMul,Int.reduceGE,Int.reduceGT,endO,R4.enc] | rw [dr_cons])
  refine And.intro hlt (And.intro hlt (And.intro hlt (And.intro hlt ?_)))
  rw [wr_succ (by omega)]
  exact backI ⟨i+1,by omega⟩ (by simp only;omega) (le_ren id rfl rfl (by simp [TmpsLe,look,SV.ren,SC.ren,SC.renL,ren1L,ren1,idσ,SV.okN,SC.okN,SC.okL,ok1L]) (by simp [OwnLe,BlkLeO,BlkLe,atN,look,Fm.get,idσ,SC.renL,SC.ren,SC.okL,SC.okN,renL_v,okL_v]) (by simp +contextual [stA,ArrsLe,ArrLeO,atN,look,Fm.get,idσ,arrLe_of,arrLe_0,arrLe_nest]) rfl)
 refine loopI (ι:={ j:Nat // j≤s.bufs.length }) (fun j=>⟨105,[(2,.c (.ptr (10,0,0) 0)),(3,.c (.ptr (11,0,0) 0)),(6,.c (.v (.int .i64 (j.1:Nat))))],[(10,.one (.bk [.xv (0,0,0),.xv (1,0,0),.xv (2,0,0),.xv (3,0,0)] 32)),(11,.one (.bk [.xv (5,0,0),.xv (6,0,0),.xv (7,0,0),.xv (8,0,0)] 32))],stA 0 s++stA 5 s,[],12⟩)
  (fun j=>s.bufs.length - j.1) ⟨0,by omega⟩ (le_ren id rfl rfl (by simp [TmpsLe,look,SV.ren,SC.ren,SC.renL,ren1L,ren1,idσ,SV.okN,SC.okN,SC.okL,ok1L]) (by simp [OwnLe,BlkLeO,BlkLe,atN,look,Fm.get,idσ,SC.renL,SC.ren,SC.okL,SC.okN,renL_v,okL_v]) (by simp +contextual [stA,ArrsLe,ArrLeO,atN,look,Fm.get,idσ,arrLe_of,arrLe_0,arrLe_nest]) rfl) ?_
 rintro ⟨j,hj⟩
 simp (maxSteps:=2000000) only [go_sem,↓reduceIte,Nat.reduceLT,Nat.reduceLeDiff,Nat.reduceAdd,Nat.reduceSub,Nat.reduceMul,Nat.reduceEqDiff,reduceCtorEq,Int.reduceToNat,Int.reduceEq,Int.reduceBEq,Int.reduceBNe,Int.reduceLT,Int.reduceLE,Int.reduceNeg,Int.reduceAdd,Int.reduceSub,Int.reduceMul,Int.reduceGE,Int.reduceGT,endO,stA]
 refine both (fun hlt=>?_) (fun hge=>?_)
 ·rw [decide_eq_true_eq] at hlt
  have hlt:j<s.bufs.length:=by omega
  have hm3:=hm3 j hlt
  refine draw_vc (by kernel_rfl) (mkTab_ok _ _) (of_decide_eq_true rfl) (of_decide_eq_true rfl) ?_
  repeat (first | simp (maxSteps:=2000000) only [go_sem,↓reduceIte,Nat.reduceLT,Nat.reduceLeDiff,Nat.reduceAdd,Nat.reduceSub,Nat.reduceMul,Nat.reduceEqDiff,reduceCtorEq,Int.reduceToNat,Int.reduceEq,Int.reduceBEq,Int.reduceBNe,Int.reduceLT,Int.reduceLE,Int.reduceNeg,Int.reduceAdd,Int.reduceSub,Int.reduceMul,Int.reduceGE,Int.reduceGT,endO] | rw [dr_cons])
  refine And.intro hlt (And.intro hlt (And.intro hlt (And.intro hlt (And.intro hlt (And.intro hlt ?_)))))
  refine loopI (ι:={ i:Nat // i≤(s.bufs.getD j []).length }) (fun i=>⟨105,[(2,.c (.ptr (10,0,0) 0)),(3,.c (.ptr (11,0,0) 0)),(6,.c (.v (.int .i64 j))),(7,.c (.v (.int .i64 (i.1:Nat))))],[(10,.one (.bk [.xv (0,0,0),.xv (1,0,0),.xv (2,0,0),.xv (3,0,0)] 32)),(11,.one (.bk [.xv (5,0,0),.xv (6,0,0),.xv (7,0,0),.xv (8,0,0)] 32))],stA 0 s++stA 5 s,[],12⟩)
   (fun i=>(s.bufs.getD j []).length - i.1) ⟨0,by omega⟩ (le_ren id rfl rfl (by simp [TmpsLe,look,SV.ren,SC.ren,SC.renL,ren1L,ren1,idσ,SV.okN,SC.okN,SC.okL,ok1L]) (by simp [OwnLe,BlkLeO,BlkLe,atN,look,Fm.get,idσ,SC.renL,SC.ren,SC.okL,SC.okN,renL_v,okL_v]) (by simp +contextual [stA,ArrsLe,ArrLeO,atN,look,Fm.get,idσ,arrLe_of,arrLe_0,arrLe_nest]) rfl) ?_
  rintro ⟨i,hi⟩
  simp (maxSteps:=2000000) only [go_sem,↓reduceIte,Nat.reduceLT,Nat.reduceLeDiff,Nat.reduceAdd,Nat.reduceSub,Nat.reduceMul,Nat.reduceEqDiff,reduceCtorEq,Int.reduceToNat,Int.reduceEq,Int.reduceBEq,Int.reduceBNe,Int.reduceLT,Int.reduceLE,Int.reduceNeg,Int.reduceAdd,Int.reduceSub,Int.reduceMul,Int.reduceGE,Int.reduceGT,endO,stA]
  refine And.intro hlt (And.intro hlt (And.intro hlt (both (fun hlti=>?_) (fun hgei=>?_))))
  ·rw [decide_eq_true_eq] at hlti
   have hlti:i<(s.bufs.getD j []).length:=by omega
   refine draw_vc (by kernel_rfl) (mkTab_ok _ _) (of_decide_eq_true rfl) (of_decide_eq_true rfl) ?_
   repeat (first | simp (maxSteps:=2000000) only [go_sem,↓reduceIte,Nat.reduceLT,Nat.reduceLeDiff,Nat.reduceAdd,Nat.reduceSub,Nat.reduceMul,Nat.reduceEqDiff,reduceCtorEq,Int.reduceToNat,Int.reduceEq,Int.reduceBEq,Int.reduceBNe,Int.reduceLT,Int.reduceLE,Int.reduceNeg,Int.reduceAdd,Int.reduceSub,Int.reduceMul,Int.reduceGE,Int.reduceGT,endO,Pd.enc] | rw [dr_cons])
   repeat (with_reducible refine And.intro (by first | omega | exact ⟨hlt,hlti⟩) ?_)
   rw [wr_succ (by omega)]
   exact backI ⟨i+1,by omega⟩ (by simp only;omega) (le_ren id rfl rfl (by simp [TmpsLe,look,SV.ren,SC.ren,SC.renL,ren1L,ren1,idσ,SV.okN,SC.okN,SC.okL,ok1L]) (by simp [OwnLe,BlkLeO,BlkLe,atN,look,Fm.get,idσ,SC.renL,SC.ren,SC.okL,SC.okN,renL_v,okL_v]) (by simp +contextual [stA,ArrsLe,ArrLeO,atN,look,Fm.get,idσ,arrLe_of,arrLe_0,arrLe_nest]) rfl)
  ·rw [wr_succ (by omega)]
   exact backI ⟨j+1,by omega⟩ (by simp only;omega) (le_ren id rfl rfl (by simp [TmpsLe,look,SV.ren,SC.ren,SC.renL,ren1L,ren1,idσ,SV.okN,SC.okN,SC.okL,ok1L]) (by simp [OwnLe,BlkLeO,BlkLe,atN,look,Fm.get,idσ,SC.renL,SC.ren,SC.okL,SC.okN,renL_v,okL_v]) (by simp +contextual [stA,ArrsLe,ArrLeO,atN,look,Fm.get,idσ,arrLe_of,arrLe_0,arrLe_nest]) rfl)
 ·exact retV fun E=>by simp [SV.den,SC.den]
set_option maxRecDepth 100000 in
set_option maxHeartbeats 400000 in
theorem slitmus_calls (w:World) (v v' : Value) (L:Lt) (h:LtR w v L) (h' : LtR w v' L):Calls Try.prog 15 #[v,v'] w (RetV w (.bool true)):=by
 have hm2:L.thr.length≤9223372036854775807:=by obtain ⟨_,_,_,_,us,h4,h5,_⟩:=h;have:=Z.Arr.lenM h4;simp only [maxLen] at this;omega
 have hm3:∀ k,k<L.thr.length→(L.thr.getD k []).length≤9223372036854775807:=fun k hk=>by obtain ⟨_,_,_,_,us,h4,h5,h6⟩:=h;have:=Z.Arr.lenM (h6 k hk);simp only [maxLen] at this;exact this
 refine enterLt2 (A:=[]) (c:=ir15) (rs:=rs15) (nt:=nt15) h h' Try.func15 rfl (by kernel_rfl) (by kernel_rfl) rfl (of_decide_eq_true rfl) ?_
 simp (maxSteps:=2000000) only [ir15,nt15,rs15,go_sem,↓reduceIte,Nat.reduceLT,Nat.reduceLeDiff,Nat.reduceAdd,Nat.reduceSub,Nat.reduceMul,Nat.reduceEqDiff,reduceCtorEq,Int.reduceToNat,Int.reduceEq,Int.reduceBEq,Int.reduceBNe,Int.reduceLT,Int.reduceLE,Int.reduceNeg,Int.reduceAdd,Int.reduceSub,Int.reduceMul,Int.reduceGE,Int.reduceGT,endO,ltA,ltS]
 refine callV (.c (.v (.bool true))) _ (fun E=>rfl) (fun E a w' hs=>sints_calls w' _ _ L.words (arr_at (d:=0) hs 0 rfl) (arr_at (d:=0) hs 3 rfl)) ?_
 simp (maxSteps:=2000000) only [go_sem,↓reduceIte,Nat.reduceLT,Nat.reduceLeDiff,Nat.reduceAdd,Nat.reduceSub,Nat.reduceMul,Nat.reduceEqDiff,reduceCtorEq,Int.reduceToNat,Int.reduceEq,Int.reduceBEq,Int.reduceBNe,Int.reduceLT,Int.reduceLE,Int.reduceNeg,Int.reduceAdd,Int.reduceSub,Int.reduceMul,Int.reduceGE,Int.reduceGT,endO]
 refine loopI (ι:={ j:Nat // j≤L.thr.length }) (fun j=>⟨69,[(2,.c (.ptr (6,0,0) 0)),(3,.c (.ptr (7,0,0) 0)),(5,.c (.v (.int .i64 (j.1:Nat))))],[(6,.one (.bk [.xv (0,0,0),.xv (1,0,0)] 25)),(7,.one (.bk [.xv (3,0,0),.xv (4,0,0)] 25))],ltA 0 L++ltA 3 L,[],8⟩)
  (fun j=>L.thr.length - j.1) ⟨0,by omega⟩ (le_ren id rfl rfl (by simp [TmpsLe,look,SV.ren,SC.ren,SC.renL,ren1L,ren1,idσ,SV.okN,SC.okN,SC.okL,ok1L]) (by simp [OwnLe,BlkLeO,BlkLe,atN,look,Fm.get,idσ,SC.renL,SC.ren,SC.okL,SC.okN,renL_v,okL_v]) (by simp +contextual [ltA,ArrsLe,ArrLeO,atN,look,Fm.get,idσ,arrLe_of,arrLe_0,arrLe_nest]) rfl) ?_
 rintro ⟨j,hj⟩
 simp (maxSteps:=2000000) only [go_sem,↓reduceIte,Nat.reduceLT,Nat.reduceLeDiff,Nat.reduceAdd,Nat.reduceSub,Nat.reduceMul,Nat.reduceEqDiff,reduceCtorEq,Int.reduceToNat,Int.reduceEq,Int.reduceBEq,Int.reduceBNe,Int.reduceLT,Int.reduceLE,Int.reduceNeg,Int.reduceAdd,Int.reduceSub,Int.reduceMul,Int.reduceGE,Int.reduceGT,endO,ltA]
 refine both (fun hlt=>?_) (fun hge=>?_)
 ·rw [decide_eq_true_eq] at hlt
  have hlt:j<L.thr.length:=by omega
  have hm3:=hm3 j hlt
  refine draw_vc (by kernel_rfl) (mkTab_ok _ _) (of_decide_eq_true rfl) (of_decide_eq_true rfl) ?_
  repeat (first | simp (maxSteps:=2000000) only [go_sem,↓reduceIte,Nat.reduceLT,Nat.reduceLeDiff,Nat.reduceAdd,Nat.reduceSub,Nat.reduceMul,Nat.reduceEqDiff,reduceCtorEq,Int.reduceToNat,Int.reduceEq,Int.reduceBEq,Int.reduceBNe,Int.reduceLT,Int.reduceLE,Int.reduceNeg,Int.reduceAdd,Int.reduceSub,Int.reduceMul,Int.reduceGE,Int.reduceGT,endO] | rw [dr_cons])
  repeat (with_reducible refine And.intro hlt ?_)
  refine loopI (ι:={ i:Nat // i≤(L.thr.getD j []).length }) (fun i=>⟨69,[(2,.c (.ptr (6,0,0) 0)),(3,.c (.ptr (7,0,0) 0)),(5,.c (.v (.int .i64 j))),(6,.c (.v (.int .i64 (i.1:Nat))))],[(6,.one (.bk [.xv (0,0,0),.xv (1,0,0)] 25)),(7,.one (.bk [.xv (3,0,0),.xv (4,0,0)] 25))],ltA 0 L++ltA 3 L,[],8⟩)
   (fun i=>(L.thr.getD j []).length - i.1) ⟨0,by omega⟩ (le_ren id rfl rfl (by simp [TmpsLe,look,SV.ren,SC.ren,SC.renL,ren1L,ren1,idσ,SV.okN,SC.okN,SC.okL,ok1L]) (by simp [OwnLe,BlkLeO,BlkLe,atN,look,Fm.get,idσ,SC.renL,SC.ren,SC.okL,SC.okN,renL_v,okL_v]) (by simp +contextual [ltA,ArrsLe,ArrLeO,atN,look,Fm.get,idσ,arrLe_of,arrLe_0,arrLe_nest]) rfl) ?_
  rintro ⟨i,hi⟩
  simp (maxSteps:=2000000) only [go_sem,↓reduceIte,Nat.reduceLT,Nat.reduceLeDiff,Nat.reduceAdd,Nat.reduceSub,Nat.reduceMul,Nat.reduceEqDiff,reduceCtorEq,Int.reduceToNat,Int.reduceEq,Int.reduceBEq,Int.reduceBNe,Int.reduceLT,Int.reduceLE,Int.reduceNeg,Int.reduceAdd,Int.reduceSub,Int.reduceMul,Int.reduceGE,Int.reduceGT,endO,ltA]
  repeat (with_reducible refine And.intro hlt ?_)
  refine both (fun hlti=>?_) (fun hgei=>?_)
  ·rw [decide_eq_true_eq] at hlti
   have hlti:i<(L.thr.getD j []).length:=by omega
   refine draw_vc (by kernel_rfl) (mkTab_ok _ _) (of_decide_eq_true rfl) (of_decide_eq_true rfl) ?_
   repeat (first | simp (maxSteps:=2000000) only [go_sem,↓reduceIte,Nat.reduceLT,Nat.reduceLeDiff,Nat.reduceAdd,Nat.reduceSub,Nat.reduceMul,Nat.reduceEqDiff,reduceCtorEq,Int.reduceToNat,Int.reduceEq,Int.reduceBEq,Int.reduceBNe,Int.reduceLT,Int.reduceLE,Int.reduceNeg,Int.reduceAdd,Int.reduceSub,Int.reduceMul,Int.reduceGE,Int.reduceGT,endO,Ins.enc] | rw [dr_cons])
   repeat (with_reducible refine And.intro (by first | omega | exact ⟨hlt,hlti⟩) ?_)
   rw [wr_succ (by omega)]
   exact backI ⟨i+1,by omega⟩ (by simp only;omega) (le_ren id rfl rfl (by simp [TmpsLe,look,SV.ren,SC.ren,SC.renL,ren1L,ren1,idσ,SV.okN,SC.okN,SC.okL,ok1L]) (by simp [OwnLe,BlkLeO,BlkLe,atN,look,Fm.get,idσ,SC.renL,SC.ren,SC.okL,SC.okN,renL_v,okL_v]) (by simp +contextual [ltA,ArrsLe,ArrLeO,atN,look,Fm.get,idσ,arrLe_of,arrLe_0,arrLe_nest]) rfl)
  ·rw [wr_succ (by omega)]
   exact backI ⟨j+1,by omega⟩ (by simp only;omega) (le_ren id rfl rfl (by simp [TmpsLe,look,SV.ren,SC.ren,SC.renL,ren1L,ren1,idσ,SV.okN,SC.okN,SC.okL,ok1L]) (by simp [OwnLe,BlkLeO,BlkLe,atN,look,Fm.get,idσ,SC.renL,SC.ren,SC.okL,SC.okN,renL_v,okL_v]) (by simp +contextual [ltA,ArrsLe,ArrLeO,atN,look,Fm.get,idσ,arrLe_of,arrLe_0,arrLe_nest]) rfl)
 ·exact retV fun E=>by simp [SV.den,SC.den]
end Go.Proofs.Ytmcpdafmkkjlcaa.Z
namespace Go.Proofs.Ytmcpdafmkkjlcaa.Z
open Go Go.RowKit
theorem le_nilcell {C:Ctx} {nt:Nat} {tmps:List (Nat×SV)} {own:Own} {arrs:List (Nat×Fm ArrF)} {facts:List (Env→World→Prop)} {nid:Nat} (j s ty ty' : Nat) (cs cs' : List SC) (at_:Nat→List SC)
  (hj:look own j=some (.one (.bk cs ty'))) (hn:look own nid=none) (hc:∀ E:Env,E.ν (nid,0,0)=true→E.κ (nid,0,0)=0→cs'.map (SC.den E)=cs.map (SC.den E)) :
  Le C ⟨nt,tmps,own,arrs,facts,nid⟩ ⟨nt,tmps,(nid,.one (.ar 0 s at_ ty)) :: setL own j (.one (.bk cs' ty')),arrs,facts,nid+1⟩:=by
 intro E a w hs
 refine ⟨⟨E.ρ,fun x=>if x.1=nid then 0 else E.κ x,fun x=>if x.1=nid then true else E.ν x,E.χ⟩,fun x=>hs.1 x,fun E2 hE2 ho2=>?_⟩
 have hs2:=hs.2 E2 (fun x hx=>by
  have h:=hE2 x (Nat.lt_succ_of_lt hx)
  have hne:x.1≠nid:=by have:x.1<nid:=hx;omega
  simp only [Same,hne,if_false] at h
  exact h) ho2
 have hsz:=hE2 (nid,0,0) (Nat.lt_succ_self nid)
 have hκ:E2.κ (nid,0,0)=0:=by have h:=hsz.2.1;simpa using h
 have hν:E2.ν (nid,0,0)=true:=by have h:=hsz.2.2.1;simpa using h
 obtain ⟨H,hH,hF⟩:=hs2.mem
 have hat:∀ x b,atN own x=some b→x.1≠nid:=fun x b h e=>by
  obtain ⟨F,hF,_⟩:=atN_some h
  rw [e,hn] at hF
  cases hF
 have hatj:atN own (j,0,0)=some (.bk cs ty'):=by simp [atN,hj,Fm.get]
 have hold:∀ x b,atN (setL own j (.one (.bk cs' ty'))) x=some b→(x=(j,0,0)∧b = .bk cs' ty')∨(x.1≠j∧atN own x=some b):=by
  rintro ⟨k,p,q⟩ b hx
  simp only [atN,look_setL] at hx
  by_cases e:j=k
  ·subst e
   rw [if_pos rfl] at hx
   simp only [Fm.get] at hx
   split at hx
   ·next e=>obtain ⟨rfl,rfl⟩:=e;cases hx;exact Or.inl ⟨rfl,rfl⟩
   ·cases hx
  ·rw [if_neg e] at hx
   exact Or.inr ⟨fun e2=>e e2.symm,hx⟩
 have hwas:∀ x b,atN (setL own j (.one (.bk cs' ty'))) x=some b→∃ c,atN own x=some c:=fun x b hx=>by
  rcases hold x b hx with ⟨rfl,rfl⟩ | ⟨_,hx⟩
  ·exact ⟨_,hatj⟩
  ·exact ⟨_,hx⟩
 refine ⟨hs2.size,hs2.defers,ho2,hs2.tmps,hs2.frame,fun x=>if x.1=nid then emp else H x,⟨fun x b hb=>?_,fun x y b c hb hc hne n=>?_,fun x b hb n o hn=>?_⟩,fun w' hw'=>?_⟩
 ·rcases atN_one hb with ⟨rfl,rfl⟩ | hb
  ·exact Or.inl ⟨trivial,hκ,rfl,by simp⟩
  ·obtain ⟨c,hc'⟩:=hwas x b hb
   simp only [hat x c hc',if_false]
   rcases hold x b hb with ⟨rfl,rfl⟩ | ⟨_,hx⟩
   ·have:=hH.den _ _ hatj
    simp only [Blk.den] at this ⊢
    rw [this,hc E2 hν hκ]
   ·exact hH.den x b hx
 ·rcases atN_one hb with ⟨rfl,rfl⟩ | hb
  ·simp [emp]
  ·rcases atN_one hc with ⟨rfl,rfl⟩ | hc
   ·simp [emp]
   ·obtain ⟨b',hb'⟩:=hwas x b hb
    obtain ⟨c',hc'⟩:=hwas y c hc
    simp only [hat x b' hb',hat y c' hc',if_false]
    exact hH.disj x y b' c' hb' hc' hne n
 ·rcases atN_one hb with ⟨rfl,rfl⟩ | hb
  ·simp [emp] at hn
  ·obtain ⟨b',hb'⟩:=hwas x b hb
   simp only [hat x b' hb',if_false] at hn
   exact hH.sub x b' hb' n o hn
 ·exact hF w' fun n hn hfr=>hw' n hn fun x b hb=>by
   rcases atN_one hb with ⟨rfl,rfl⟩ | hb
   ·simp [emp]
   ·obtain ⟨b',hb'⟩:=hwas x b hb
    simp only [hat x b' hb',if_false]
    exact hfr x b' hb'
def thC (i:Nat) (L:Lt) (k:Nat):List SC:=[.sl (i,k,0) 7 0 (L.thr.getD k []).length none]
def thO (L:Lt) (k:Nat):Blk:=.ar (L.thr.getD k []).length 7 (ats Ins.enc (L.thr.getD k []) in0) 83
def twO (b:Nat) (L:Lt):Own:=[(b,.one (.ar L.words.length 1 (ats eI L.words 0) 3)),(b+1,.one (.ar L.thr.length 1 (thC (b+2) L) 80)),(b+2,.fam L.thr.length (thO L))]
def twS (b:Nat) (L:Lt):List SC:=[.sl (b,0,0) 1 0 L.words.length none,.sl (b+1,0,0) 1 0 L.thr.length none]
theorem fit24 (n:Nat) (h:n * 24≤140737488355328):(n+n / 4+192) * 24≤281474976710656:=by omega
theorem fit56 (n:Nat) (h:n * 56≤140737488351232):(n+n / 4+192) * 56≤281474976710656∧n≤9223372036854775807:=by omega
def LtSz (L:Lt):Prop:=L.words.length * 8≤140737488351232∧L.thr.length * 24≤140737488351232∧∀ k,k<L.thr.length→(L.thr.getD k []).length * 56≤140737488351232
def twσ (i:Nat) (x:Nm):Nm:=if x.1=7 then (12,x.2) else if x.1=8 then (if x.2.1=i then (10,0,0) else x) else x
theorem twσ_inj {i:Nat} {a3 a4 a5 a6 a7:Blk} {f:Nat→Blk}:InjN (twσ i) [(3,.one a3),(4,.one a4),(5,.one a5),(6,.one a6),(7,.one a7),(8,.fam (i+1) f)]:=by
 have hx2:∀ z c,atN ([(3,.one a3),(4,.one a4),(5,.one a5),(6,.one a6),(7,.one a7),(8,.fam (i+1) f)]:Own) z=some c→z=(3,0,0)∨z=(4,0,0)∨z=(5,0,0)∨z=(6,0,0)∨z=(7,0,0)∨∃ k,z=(8,k,0):=fun z c hz=>by
  rcases atN_one hz with ⟨rfl,_⟩ | hz
  ·simp
  rcases atN_one hz with ⟨rfl,_⟩ | hz
  ·simp
  rcases atN_one hz with ⟨rfl,_⟩ | hz
  ·simp
  rcases atN_one hz with ⟨rfl,_⟩ | hz
  ·simp
  rcases atN_one hz with ⟨rfl,_⟩ | hz
  ·simp
  rcases atN_fam hz with ⟨k,_,rfl,_⟩ | hz
  ·simp
  ·exact (atN_nil hz).elim
 have t8:∀ k,twσ i (8,k,0)=if k=i then (10,0,0) else (8,k,0):=fun k=>rfl
 have ne8:∀ k (a:Nm),a.1≠10→a.1≠8→twσ i (8,k,0)≠a:=fun k a h1 h2 e=>by
  rw [t8] at e
  split at e <;> subst e
  ·exact h1 rfl
  ·exact h2 rfl
 intro x y b c hx hy e
 rcases hx2 _ _ hx with rfl | rfl | rfl | rfl | rfl | ⟨k,rfl⟩ <;> rcases hx2 _ _ hy with rfl | rfl | rfl | rfl | rfl | ⟨k',rfl⟩ <;> first
  | rfl
  | (rw [t8,t8] at e;by_cases h1:k=i <;> by_cases h2:k' = i <;> simp [h1,h2] at e ⊢;first | done | exact e)
  | exact absurd e.symm (ne8 k' _ (by simp [twσ]) (by simp [twσ]))
  | exact absurd e (ne8 k _ (by simp [twσ]) (by simp [twσ]))
  | (simp [twσ] at e;done)
def ir10:IR:=(.seq (.ops [⟨(some 1),(.box 25 (.t 0)),none⟩,⟨(some 2),(.new 25 [(.v (.slice none 0 0)),(.v (.slice none 0 0))]),none⟩]) (.kill [0,3,4,5,6,7,8,9,10,11] (.seq (.ops [⟨(some 5),(.mkSl 3 0 1 [] []),none⟩,⟨(some 6),(.fa 0 (.t 1)),none⟩,⟨(some 7),(.ld false 1 (.t 6)),none⟩,⟨(some 8),(.app 3 1 8 [(.v (.int .i64 0))] (.t 5) (.t 7)),none⟩,⟨(some 9),(.build [(.v (.slice none 0 0)),(.v (.slice none 0 0))] [(0,(1,(.t 8)))]),none⟩,⟨(some 3),(.new 25 [(.v (.slice none 0 0)),(.v (.slice none 0 0))]),none⟩,⟨none,(.st 2 (.t 3) (.t 9)),none⟩]) (.kill [5,6,7,8,9] (.seq (.seq (.ops [⟨(some 4),(.mv (.k (.c (.v (.int .i64 0))))),none⟩]) (.blk 0 (.loop (.seq (.seq (.ops [⟨(some 10),(.mv (.t 4)),none⟩,⟨(some 11),(.fa 1 (.t 1)),none⟩,⟨(some 12),(.ld false 1 (.t 11)),none⟩,⟨(some 13),(.len (.t 12)),none⟩,⟨(some 14),(.bin .lss (.t 10) (.t 13)),none⟩]) (.kill [10,11,12,13,15,16,17,18,19,20,21,22,23,24,25,26,27,28] (.cond (.t 14) .skip (.exit 0)))) (.kill [14] (.seq (.blk 1 (.draw [(⟨(some 17),(.fa 1 (.t 3)),none⟩,([],[19,20,21,22,23,24,25,26])),(⟨(some 18),(.ld false 1 (.t 17)),none⟩,([],[19,20,21,22,23,24,25,26])),(⟨(some 19),(.mkSl 83 0 7 [] []),none⟩,([0,1],[17,18,20,21,22,23,24])),(⟨(some 20),(.fa 1 (.t 1)),none⟩,([0,1,2],[17,18,19,22])),(⟨(some 21),(.ld false 1 (.t 20)),none⟩,([0,1,2],[17,18,19,22])),(⟨(some 22),(.mv (.t 4)),none⟩,([0,1,2,3,4],[17,18,19,20,21])),(⟨(some 23),(.ia 1 (.t 21) (.t 22)),none⟩,([0,1,2],[17,18,19])),(⟨(some 24),(.ld false 1 (.t 23)),none⟩,([0,1,2],[17,18,19])),(⟨(some 25),(.app 83 7 56 [(.v (.int .i64 0)),(.v (.int .i64 0)),(.v (.int .i64 0)),(.v (.int .i64 0)),(.v (.int .i64 0)),(.v (.int .i64 0)),(.v (.int .i64 0))] (.t 19) (.t 24)),none⟩,([0,1],[17,18])),(⟨(some 26),(.mkSl 80 1 1 [(.v (.slice none 0 0))] [(0,(1,(.t 25)))]),none⟩,([0,1],[17,18])),(⟨(some 27),(.app 80 1 24 [(.v (.slice none 0 0))] (.t 18) (.t 26)),none⟩,([],[])),(⟨(some 28),(.fa 1 (.t 3)),none⟩,([],[])),(⟨none,(.st 1 (.t 28) (.t 27)),none⟩,([],[]))])) (.kill [17,18,19,20,21,22,23,24,25,26,27,28] (.ops [⟨(some 15),(.mv (.t 4)),none⟩,⟨(some 16),(.bin .add (.t 15) (.k (.c (.v (.int .i64 1))))),none⟩,⟨(some 4),(.mv (.t 16)),none⟩])))))))) (.kill [1,4,10,11,12,13,14,15,16,17,18,19,20,21,22,23,24,25,26,27,28] (.seq (.ops [⟨(some 29),(.ld true 2 (.t 3)),none⟩,⟨none,(.st 2 (.t 2) (.t 29)),none⟩]) (.kill [3,29] .ret))))))))
def rs10:List RS:=[(.cell 2 true 2)]
def nt10:Nat:=30
set_option maxRecDepth 100000 in
set_option maxHeartbeats 1000000 in
theorem twin_calls (w:World) (v:Value) (L:Lt) (hsz:LtSz L) (h:LtR w v L):Calls Try.prog 10 #[v] w (RetN w 3 (fun b=>.agg (twS b L)) (fun b=>twO b L)):=by
 refine enterLt (A:=[]) (c:=ir10) (rs:=rs10) (nt:=nt10) h [.agg (ltS 0)] _ Try.func10 rfl (by kernel_rfl) (by kernel_rfl) rfl (fun E' h0=>by simp only [List.map_cons,List.map_nil,h0]) (of_decide_eq_true rfl) ?_
 obtain ⟨z1,z2,z3⟩:=hsz
 have y1:(L.words.length+L.words.length / 4+192) * 8≤281474976710656:=by omega
 simp (maxSteps:=2000000) only [ir10,nt10,rs10,go_sem,↓reduceIte,Nat.reduceLT,Nat.reduceLeDiff,Nat.reduceAdd,Nat.reduceSub,Nat.reduceMul,Nat.reduceEqDiff,reduceCtorEq,Int.reduceToNat,Int.reduceEq,Int.reduceBEq,Int.reduceBNe,Int.reduceLT,Int.reduceLE,Int.reduceNeg,Int.reduceAdd,Int.reduceSub,Int.reduceMul,Int.reduceGE,Int.reduceGT,endO,ltA,ltS]
 refine And.intro (by decide) (And.intro ⟨y1,by simp only [maxLen];omega⟩ ?_)
 refine loopI (ι:={ i:Nat // i≤L.thr.length }) (fun i=>⟨30,[(1,.c (.ptr (3,0,0) 0)),(2,.c (.ptr (4,0,0) 0)),(3,.c (.ptr (5,0,0) 0)),(4,.c (.v (.int .i64 (i.1:Nat))))],
  [(3,.one (.bk [.xv (0,0,0),.xv (1,0,0)] 25)),(4,.one (.bk [.v (.slice none 0 0),.v (.slice none 0 0)] 25)),(5,.one (.bk [.sl (6,0,0) 1 0 L.words.length none,.sl (7,0,0) 1 0 i.1 none] 25)),(6,.one (.ar L.words.length 1 (ats eI L.words 0) 3)),(7,.one (.ar i.1 1 (thC 8 L) 80)),(8,.fam i.1 (thO L))],[(0,.one (arrOf eI 1 L.words 0)),(1,.one (nestF 2 L.thr.length)),(2,.fam L.thr.length fun k=>arrOf Ins.enc 7 (L.thr.getD k []) in0)],[],9⟩)
  (fun i=>L.thr.length - i.1) ⟨0,by omega⟩ ?_ ?_
 ·refine le_tr (le_nilcell 7 1 80 25 _ [.sl (6,0,0) 1 0 L.words.length none,.sl (8,0,0) 1 0 0 none] (thC 8 L) rfl rfl (fun E h1 h2=>by simp [SC.den,h1,h2])) ?_
  refine le_ren (fun i=>if i=5 then 7 else if i=7 then 8 else if i=8 then 9 else i) rfl rfl (by simp [TmpsLe,look,SV.ren,SC.ren,SC.renL,ren1L,ren1,idσ,SV.okN,SC.okN,SC.okL,ok1L]) ?_ (by simp +contextual [ArrsLe,ArrLeO,atN,look,Fm.get,idσ,arrLe_of,arrLe_0,arrLe_nest]) rfl
  simp [OwnLe,BlkLeO,BlkLe,atN,look,setL,Fm.get,idσ,SC.renL,SC.ren,SC.okL,SC.okN,renL_v,okL_v,ren_ats,ok_ats,appAt,arrOf_ats]
 rintro ⟨i,hi⟩
 simp (maxSteps:=2000000) only [go_sem,↓reduceIte,Nat.reduceLT,Nat.reduceLeDiff,Nat.reduceAdd,Nat.reduceSub,Nat.reduceMul,Nat.reduceEqDiff,reduceCtorEq,Int.reduceToNat,Int.reduceEq,Int.reduceBEq,Int.reduceBNe,Int.reduceLT,Int.reduceLE,Int.reduceNeg,Int.reduceAdd,Int.reduceSub,Int.reduceMul,Int.reduceGE,Int.reduceGT,endO,thC,thO]
 refine both (fun hlt=>?_) (fun hge=>?_)
 ·rw [decide_eq_true_eq] at hlt
  have hlt:i<L.thr.length:=by omega
  refine draw_vc (by kernel_rfl) (mkTab_ok _ _) (of_decide_eq_true rfl) (of_decide_eq_true rfl) ?_
  repeat (first | simp (maxSteps:=2000000) only [go_sem,↓reduceIte,Nat.reduceLT,Nat.reduceLeDiff,Nat.reduceAdd,Nat.reduceSub,Nat.reduceMul,Nat.reduceEqDiff,reduceCtorEq,Int.reduceToNat,Int.reduceEq,Int.reduceBEq,Int.reduceBNe,Int.reduceLT,Int.reduceLE,Int.reduceNeg,Int.reduceAdd,Int.reduceSub,Int.reduceMul,Int.reduceGE,Int.reduceGT,endO,thC,thO] | rw [dr_cons])
  have y2:=fit56 _ (z3 i hlt)
  have y3:(i+1+(i+1) / 4+192) * 24≤281474976710656:=fit24 (i+1) (Nat.le_trans (Nat.mul_le_mul_right 24 hlt) (Nat.le_trans z2 (by decide)))
  have y5:i+1≤maxLen:=Nat.le_trans hlt (by simp only [maxLen];omega)
  refine And.intro (by decide) (And.intro (Or.inl trivial) (And.intro hlt (And.intro hlt (And.intro ⟨hlt,y2.1,y2.2⟩ (And.intro ⟨Or.inl trivial,Or.inr trivial⟩ (And.intro (by decide) (And.intro (Or.inl trivial) (And.intro ⟨Nat.le_refl _,y3,y5⟩ (And.intro ⟨Or.inl trivial,Or.inr trivial⟩ (And.intro (Or.inr trivial) ?_))))))))))
  rw [wr_succ (by omega)]
  refine backI ⟨i+1,by omega⟩ (by simp only;omega) (le_nm (twσ i) ⟨rfl,rfl,by simp [TmpsLe,look,SV.ren,SC.ren,twσ,SV.okN,SC.okN],?_,?_,?_⟩)
  ·refine ⟨⟨of_decide_eq_true rfl,by simp [BlkLeO,BlkLe,atN,look,Fm.get,twσ,SC.renL,SC.ren,SC.okL,SC.okN]⟩,⟨of_decide_eq_true rfl,by simp [BlkLeO,BlkLe,atN,look,Fm.get,twσ,SC.renL,SC.ren,SC.okL,SC.okN]⟩,⟨of_decide_eq_true rfl,by simp [BlkLeO,BlkLe,atN,look,Fm.get,twσ,SC.renL,SC.ren,SC.okL,SC.okN]⟩,⟨of_decide_eq_true rfl,arLe_same⟩,⟨of_decide_eq_true rfl,?_⟩,⟨of_decide_eq_true rfl,fun k hk=>?_⟩,trivial⟩
   ·refine ⟨Nat.le_refl _,rfl,rfl,fun e he=>⟨?_,by simp [thC,SC.okL,SC.okN]⟩⟩
    by_cases h:e=i
    ·subst h;simp [appAt,thC,SC.renL,SC.ren,twσ,take',drop',segs]
    ·have:e<i:=by have he' : e<i+1:=he;omega
     simp [appAt,this,thC,SC.renL,SC.ren,twσ,h]
   ·by_cases h:k=i
    ·subst h
     simp only [twσ,atN,look,Nat.reduceEqDiff,reduceIte,Fm.get,and_self,thO]
     exact arLe_of (Nat.le_refl _) fun e he=>by simp [appAt,arrOf_ats]
    ·have:k<i:=by have hk' : k<i+1:=hk;omega
     simp only [twσ,atN,look,Nat.reduceEqDiff,reduceIte,Fm.get,h,this,and_self,thO]
     exact arLe_same
  ·refine ⟨⟨of_decide_eq_true rfl,arrLe_of⟩,⟨of_decide_eq_true rfl,⟨rfl,rfl,fun e _=>⟨by simp [nestF,SC.renL,SC.ren,twσ],by simp [nestF,SC.okL,SC.okN]⟩,Nat.le_refl _⟩⟩,⟨of_decide_eq_true rfl,fun k hk=>?_⟩,trivial⟩
   simp only [twσ,atN,look,Nat.reduceEqDiff,reduceIte,Fm.get,hk,and_self]
   exact arrLe_of
  ·exact twσ_inj
 ·rw [decide_eq_false_iff_not] at hge
  have hin:i=L.thr.length:=by omega
  subst hin
  refine retN (fun j=>j+6) (fun b=>⟨?_,?_⟩) (fun b=>?_) (fun b=>?_)
  ·simp [twS,SV.ren,SC.renL,SC.ren,fromσ]
  ·simp [twS,SV.okN,SC.okL,SC.okN,NewIds]
  ·refine ⟨⟨⟨by omega,by omega⟩,?_⟩,⟨⟨by omega,by omega⟩,?_⟩,⟨⟨by omega,by omega⟩,fun k hk=>?_⟩,trivial⟩
   ·simp only [fromσ,Nat.sub_self,Nat.zero_add,atN,look,Nat.reduceEqDiff,reduceIte,Fm.get,and_self];exact arLe_same
   ·simp only [fromσ,Nat.add_sub_cancel_left,Nat.reduceAdd,atN,look,Nat.reduceEqDiff,reduceIte,Fm.get,and_self]
    exact ⟨Nat.le_refl _,rfl,rfl,fun e he=>⟨by simp [thC,SC.renL,SC.ren,fromσ],by simp [thC,SC.okL,SC.okN,NewIds]⟩⟩
   ·simp only [fromσ,Nat.add_sub_cancel_left,Nat.reduceAdd,atN,look,Nat.reduceEqDiff,reduceIte,Fm.get,hk,and_self,thO];exact arLe_same
  ·exact injN_from fun x hx y hy e=>by
    simp [twO,keysL] at hx hy
    omega
end Go.Proofs.Ytmcpdafmkkjlcaa.Z
namespace Go.Proofs.Ytmcpdafmkkjlcaa.Z
open Go Go.RowKit
theorem iturn_own (w:World) (E:Env) (L:Lt) (o:Int) (s:LS) (t:Tn) (N:Nat) (hL:checkB L=true) (hwf:WfS L o N s) (hN:N≤100000) (h:Handed w E 11 (stP s) (ltA 0 L)) :
  Calls Try.prog 40 (([.agg (ltS 0),.c (.v (.int .i64 o)),.c (.ptr (5,0,0) 0),.agg (t.enc.map .v)]:List SV).map (SV.den E)).toArray w (EffR w E 11 (takesO E (stP s)) (.c (.bo (turnS L o s t).2)) 1 fun b=>killO [10]++stE b (turnS L o s t).1):=by
 by_cases hz:t.thr=0
 ·exact iturn_zero w E L o s t N hL hwf hN hz h
 ·exact iturn_pos w E L o s t N hL hwf hN hz h
theorem rturn_own (w:World) (E:Env) (L:Lt) (o:Int) (s:LS) (t:Tn) (N:Nat) (hL:checkB L=true) (hwf:WfS L o N s) (hN:N≤100000) (h:Handed w E 11 (stP s) (ltA 0 L)) :
  Calls Try.prog 25 (([.agg (ltS 0),.c (.v (.int .i64 o)),.c (.ptr (5,0,0) 0),.agg (t.enc.map .v)]:List SV).map (SV.den E)).toArray w (EffR w E 11 (takesO E (stP s)) (.c (.bo (turnS L o s t).2)) 1 fun b=>killO [10]++stE b (turnS L o s t).1):=by
 by_cases hz:t.thr=0
 ·exact rturn_zero w E L o s t N hL hwf hN hz h
 ·exact rturn_pos w E L o s t N hL hwf hN hz h
end Go.Proofs.Ytmcpdafmkkjlcaa.Z
