/- TsoFinalsSaid: what its proof is made of. No condition. -/
import Derived.Test.YtmcpdafmkkjlcaaPkTTsoFinalsAN
set_option linter.unusedSimpArgs false
set_option linter.unusedVariables false
namespace Go.Proofs.Ytmcpdafmkkjlcaa.Z
open Go Go.RowKit
set_option maxRecDepth 100000 in
set_option maxHeartbeats 8000000 in
theorem rturn_zero (w:World) (E:Env) (L:Lt) (o:Int) (s:LS) (t:Tn) (N:Nat) (hL:checkB L=true) (hwf:WfS L o N s) (hN:N≤100000) (hz:t.thr=0) (h:Handed w E 11 (stP s) (ltA 0 L)) :
  Calls Try.prog 25 (([.agg (ltS 0),.c (.v (.int .i64 o)),.c (.ptr (5,0,0) 0),.agg (t.enc.map .v)]:List SV).map (SV.den E)).toArray w (EffR w E 11 (takesO E (stP s)) (.c (.bo (turnS L o s t).2)) 1 fun b=>killO [10]++stE b (turnS L o s t).1):=by
 refine enterO (c:=ir25) (rs:=rs25) (nt:=nt25) h _ Try.func25 rfl (by kernel_rfl) (by kernel_rfl) rfl (by simp [okVs,SV.okN,SC.okN,SC.okL,okL_v,ltS]) (of_decide_eq_true rfl) ?_
 generalize hR:EffR w E 11 (takesO E (stP s)) (.c (.bo (turnS L o s t).2)) 1 (fun b=>killO [10]++stE b (turnS L o s t).1)=R
 generalize hW:takesO E (stP s)=W
 obtain ⟨z1,z2,z3,z4⟩:=sz_at hL
 obtain ⟨lw,lr,lp,lb,hthr⟩:=hwf
 obtain ⟨thr,out,addr⟩:=t
 have hno:∀ {S2:St},turnS L o s ⟨thr,out,addr⟩=(s,false)→AgF 11 E∈S2.facts→look S2.own 5=some (.one (.bk (stC 6 s) 32))→look S2.own 6=some (.one (.ar s.words.length 1 (ats eI s.words 0) 3))→look S2.own 7=some (.one (.ar s.regs.length 4 (ats R4.enc s.regs r40) 68)) →
   look S2.own 8=some (.one (.ar s.places.length 1 (ats eI s.places 0) 3))→look S2.own 9=some (.one (.ar s.bufs.length 1 (bfC 10 s) 86))→look S2.own 10=some (.fam s.bufs.length (bfO s))→RetVC (mkO Try.prog w W rs25 R) (.c (.v (.bool false))) S2:=fun e h1 h5 h6 h7 h8 h9 h10=>by
  rw [← hR,← hW,e]
  exact retTurn0 h1 (fun E E'=>by simp [SV.den,SC.den]) h5 h6 h7 h8 h9 h10
 by_cases hk:0≤thr∧thr<L.thr.length
 ·obtain ⟨k,rfl⟩:∃ k:Nat,thr=k:=⟨thr.toNat,by omega⟩
  have hk:k<L.thr.length:=by omega
  have hk0:k=0:=by simpa using hz
  have d1:decide ((k:Int)<0)=false:=decide_eq_false (by omega)
  have d2:decide ((k:Int)≥(L.thr.length:Nat))=false:=decide_eq_false (by omega)
  obtain ⟨p0,p1,pb,psc,ppend⟩:=hthr k hk
  cases out with
  | true =>
   simp (maxSteps:=2000000) only [ir25,nt25,rs25,go_sem,↓reduceIte,Nat.reduceLT,Nat.reduceLeDiff,Nat.reduceAdd,Nat.reduceSub,Nat.reduceMul,Nat.reduceEqDiff,reduceCtorEq,Int.reduceToNat,Int.reduceEq,Int.reduceBEq,Int.reduceBNe,Int.reduceLT,Int.reduceLE,Int.reduceNeg,Int.reduceAdd,Int.reduceSub,Int.reduceMul,Int.reduceGE,Int.reduceGT,endO,ltA,ltS,Tn.enc,d1,d2,stP,stO,stC,bfC]
   have ht:turnS L o s ⟨k,true,addr⟩=outS o s k addr:=by
    unfold turnS
    rw [if_pos (by simp only;omega),if_pos rfl]
    simp only [Int.toNat_natCast]
   rw [ht] at hR
   refine call_intro (cr_own 11 (stP s) [] (show 11≤13 by decide) (stP_plain s) (stP_le (fun i h=>h) (fun _ _=>rfl) rfl rfl rfl rfl rfl rfl) trivial stE_key (fun E w h=>rout_own w E o s k addr (by omega) (fun p hp=>by rw [lw];exact ppend p hp) (by omega) h)) (lt11 (show 11≤13 by decide)) ?_
   simp (maxSteps:=2000000) only [go_sem,↓reduceIte,Nat.reduceLT,Nat.reduceLeDiff,Nat.reduceAdd,Nat.reduceSub,Nat.reduceMul,Nat.reduceEqDiff,reduceCtorEq,Int.reduceToNat,Int.reduceEq,Int.reduceBEq,Int.reduceBNe,Int.reduceLT,Int.reduceLE,Int.reduceNeg,Int.reduceAdd,Int.reduceSub,Int.reduceMul,Int.reduceGE,Int.reduceGT,endO,killO,stE]
   rw [← hR,← hW]
   exact retTurnN 13 (by decide) List.mem_cons_self (fun E E'=>by simp [SV.den,SC.den]) rfl rfl rfl rfl rfl rfl
  | false =>
   simp (maxSteps:=2000000) only [ir25,nt25,rs25,go_sem,↓reduceIte,Nat.reduceLT,Nat.reduceLeDiff,Nat.reduceAdd,Nat.reduceSub,Nat.reduceMul,Nat.reduceEqDiff,reduceCtorEq,Int.reduceToNat,Int.reduceEq,Int.reduceBEq,Int.reduceBNe,Int.reduceLT,Int.reduceLE,Int.reduceNeg,Int.reduceAdd,Int.reduceSub,Int.reduceMul,Int.reduceGE,Int.reduceGT,endO,ltA,ltS,Tn.enc,d1,d2,stP,stO,stC,bfC]
   refine draw_vc (by kernel_rfl) (mkTab_ok _ _) (of_decide_eq_true rfl) (of_decide_eq_true rfl) ?_
   repeat (first | simp (maxSteps:=2000000) only [go_sem,↓reduceIte,Nat.reduceLT,Nat.reduceLeDiff,Nat.reduceAdd,Nat.reduceSub,Nat.reduceMul,Nat.reduceEqDiff,reduceCtorEq,Int.reduceToNat,Int.reduceEq,Int.reduceBEq,Int.reduceBNe,Int.reduceLT,Int.reduceLE,Int.reduceNeg,Int.reduceAdd,Int.reduceSub,Int.reduceMul,Int.reduceGE,Int.reduceGT,endO] | rw [dr_cons])
   have hk1:k<s.places.length:=by omega
   have hkr:k<s.regs.length:=by omega
   have hkb:k<s.bufs.length:=by omega
   refine And.intro ⟨hk1,Nat.le_refl _⟩ (And.intro hk1 (And.intro hk (And.intro hk (And.intro hk (both (fun he=>?_) (fun he=>?_))))))
   ·have he:s.places.getD k 0=(L.thr.getD k []).length:=by simpa using he
    exact hno (by unfold turnS;rw [if_pos (by simp only;omega),if_neg (by simp),if_pos (by simpa using he)]) List.mem_cons_self rfl rfl rfl rfl rfl rfl
   have he:¬ s.places.getD k 0=(L.thr.getD k []).length:=by simpa using he
   refine draw_vc (by kernel_rfl) (mkTab_ok _ _) (of_decide_eq_true rfl) (of_decide_eq_true rfl) ?_
   repeat (first | simp (maxSteps:=2000000) only [go_sem,↓reduceIte,Nat.reduceLT,Nat.reduceLeDiff,Nat.reduceAdd,Nat.reduceSub,Nat.reduceMul,Nat.reduceEqDiff,reduceCtorEq,Int.reduceToNat,Int.reduceEq,Int.reduceBEq,Int.reduceBNe,Int.reduceLT,Int.reduceLE,Int.reduceNeg,Int.reduceAdd,Int.reduceSub,Int.reduceMul,Int.reduceGE,Int.reduceGT,endO,Ins.enc] | rw [dr_cons])
   have hpl:(s.places.getD k 0).toNat<(L.thr.getD k []).length:=by omega
   have hfit:=(fits_at hL hk).2 _ (getD_memE (d:=in0) hpl)
   have hst:turnS L o s ⟨k,false,addr⟩=match stepS o s k ((L.thr.getD k []).getD (s.places.getD k 0).toNat in0) with
    | none=>(s,false)
    | some (s',f)=>({ s' with places:=s'.places.set k (if ((L.thr.getD k []).length:Int)<s'.places.getD k 0+f then ((L.thr.getD k []).length:Int) else s'.places.getD k 0+f) },true):=by
    unfold turnS
    rw [if_pos (by simp only;omega),if_neg (by simp),if_neg (by simpa using he)]
    simp only [Int.toNat_natCast]
    cases stepS o s k ((L.thr.getD k []).getD (s.places.getD k 0).toNat in0) with
    | none=>rfl
    | some q=>obtain ⟨s',f⟩:=q;rfl
   generalize (L.thr.getD k []).getD (s.places.getD k 0).toNat in0=ci at hst hfit
   obtain ⟨kind,reg,ad,val,frm,old,cnt⟩:=ci
   simp only [fitsB,decide_eq_true_eq] at hfit
   obtain ⟨f1,f2,f3,f4,f5,f6⟩:=hfit
   refine And.intro hk (And.intro hk (And.intro ⟨hk1,Nat.le_refl _⟩ (And.intro hk1 (And.intro ⟨hk,by omega,by omega⟩ (And.intro ⟨hk,hpl⟩ (And.intro (by simp) (And.intro (by simp) ?_)))))))
   have hwp:IntKind.i64.wrap (s.places.getD k 0+1)=s.places.getD k 0+1:=wrI (by have:=(fits_at hL hk).1;omega)
   have dn:∀ {n:Int},kind≠n→(kind == n)=false:=fun h=>by simpa using h
   subst hk0
   by_cases k1:kind=1
   ·subst k1
    have hg:0≤reg∧reg<4:=f3 (by decide) (by decide)
    have hnr:=nth_r4 (xs:=s.regs) (k:=0) hg
    have had:0≤ad∧ad<s.words.length:=by rw [lw];exact f4 (by decide)
    simp (maxSteps:=2000000) only [go_sem,↓reduceIte,Nat.reduceLT,Nat.reduceLeDiff,Nat.reduceAdd,Nat.reduceSub,Nat.reduceMul,Nat.reduceEqDiff,reduceCtorEq,Int.reduceToNat,Int.reduceEq,Int.reduceBEq,Int.reduceBNe,Int.reduceLT,Int.reduceLE,Int.reduceNeg,Int.reduceAdd,Int.reduceSub,Int.reduceMul,Int.reduceGE,Int.reduceGT,endO,ir25_62]
    refine draw_vc (by kernel_rfl) (mkTab_ok _ _) (of_decide_eq_true rfl) (of_decide_eq_true rfl) ?_
    repeat (first | simp (maxSteps:=2000000) only [go_sem,↓reduceIte,Nat.reduceLT,Nat.reduceLeDiff,Nat.reduceAdd,Nat.reduceSub,Nat.reduceMul,Nat.reduceEqDiff,reduceCtorEq,Int.reduceToNat,Int.reduceEq,Int.reduceBEq,Int.reduceBNe,Int.reduceLT,Int.reduceLE,Int.reduceNeg,Int.reduceAdd,Int.reduceSub,Int.reduceMul,Int.reduceGE,Int.reduceGT,endO,hnr,Nat.mul_one] | rw [dr_cons])
    repeat (with_reducible refine And.intro (by first | omega | (simp only [maxLen];omega) | (simp;done) | (simp;omega)) ?_)
    refine dcallV (.c (.v (.int .i64 (seeS s 0 ad)))) _ (fun E=>rfl) (fun E a w' hs=>see_calls w' _ s 0 ad hkb had (by omega) (see_at hs rfl rfl rfl rfl (fun _=>rfl) (fun _=>rfl))) ?_
    repeat (first | simp (maxSteps:=2000000) only [go_sem,↓reduceIte,Nat.reduceLT,Nat.reduceLeDiff,Nat.reduceAdd,Nat.reduceSub,Nat.reduceMul,Nat.reduceEqDiff,reduceCtorEq,Int.reduceToNat,Int.reduceEq,Int.reduceBEq,Int.reduceBNe,Int.reduceLT,Int.reduceLE,Int.reduceNeg,Int.reduceAdd,Int.reduceSub,Int.reduceMul,Int.reduceGE,Int.reduceGT,endO,hnr,Nat.mul_one] | rw [dr_cons])
    repeat (with_reducible refine And.intro (by first | omega | (simp only [maxLen];omega) | (simp;done) | (simp;omega)) ?_)
    refine draw_vc (by kernel_rfl) (mkTab_ok _ _) (of_decide_eq_true rfl) (of_decide_eq_true rfl) ?_
    repeat (first | simp (maxSteps:=2000000) only [go_sem,↓reduceIte,Nat.reduceLT,Nat.reduceLeDiff,Nat.reduceAdd,Nat.reduceSub,Nat.reduceMul,Nat.reduceEqDiff,reduceCtorEq,Int.reduceToNat,Int.reduceEq,Int.reduceBEq,Int.reduceBNe,Int.reduceLT,Int.reduceLE,Int.reduceNeg,Int.reduceAdd,Int.reduceSub,Int.reduceMul,Int.reduceGE,Int.reduceGT,endO,hwp] | rw [dr_cons])
    repeat (with_reducible refine And.intro (by first | omega | (simp only [maxLen];omega) | (simp;done) | (simp;omega)) ?_)
    have hsx:stepS o s 0 ⟨1,reg,ad,val,frm,old,cnt⟩=some (⟨s.words,s.regs.set 0 ((s.regs.getD 0 r40).put reg (seeS s 0 ad)),s.places,s.bufs⟩,1):=by simp [stepS]
    rw [← hR,← hW,hst,hsx]
    exact retTurnP (s:=⟨s.words,s.regs.set 0 ((s.regs.getD 0 r40).put reg (seeS s 0 ad)),_,s.bufs⟩) (s0:=s) List.mem_cons_self (fun E E'=>by simp [SV.den,SC.den]) (by simp) (by simp) (by simp) rfl rfl rfl rfl rfl (put_r4 hkr hg) rfl (set_atsT (enc:=eI) hk1) rfl rfl
   by_cases k2:kind=2
   ·subst k2
    have had:0≤ad∧ad<s.words.length:=by rw [lw];exact f4 (by decide)
    have hfm:=f5 rfl
    have hadn:ad.toNat<s.words.length:=by omega
    by_cases hfr:frm≥0
    ·have dfr:decide (frm≥0)=true:=decide_eq_true hfr
     have hnf:=nth_r4 (xs:=s.regs) (k:=0) (r:=frm) ⟨hfr,hfm.2⟩
     by_cases ho:o=1
     ·have do1:(o == 1)=true:=by simpa using ho
      simp (maxSteps:=2000000) only [go_sem,↓reduceIte,Nat.reduceLT,Nat.reduceLeDiff,Nat.reduceAdd,Nat.reduceSub,Nat.reduceMul,Nat.reduceEqDiff,reduceCtorEq,Int.reduceToNat,Int.reduceEq,Int.reduceBEq,Int.reduceBNe,Int.reduceLT,Int.reduceLE,Int.reduceNeg,Int.reduceAdd,Int.reduceSub,Int.reduceMul,Int.reduceGE,Int.reduceGT,endO,ir25_62,dfr,do1]
      refine draw_vc (by kernel_rfl) (mkTab_ok _ _) (of_decide_eq_true rfl) (of_decide_eq_true rfl) ?_
      repeat (first | simp (maxSteps:=2000000) only [go_sem,↓reduceIte,Nat.reduceLT,Nat.reduceLeDiff,Nat.reduceAdd,Nat.reduceSub,Nat.reduceMul,Nat.reduceEqDiff,reduceCtorEq,Int.reduceToNat,Int.reduceEq,Int.reduceBEq,Int.reduceBNe,Int.reduceLT,Int.reduceLE,Int.reduceNeg,Int.reduceAdd,Int.reduceSub,Int.reduceMul,Int.reduceGE,Int.reduceGT,endO,hnf,Nat.mul_one,dfr,do1] | rw [dr_cons])
      repeat (with_reducible refine And.intro (by first | omega | (simp only [maxLen];omega) | (simp;done) | (simp;omega)) ?_)
      refine draw_vc (by kernel_rfl) (mkTab_ok _ _) (of_decide_eq_true rfl) (of_decide_eq_true rfl) ?_
      repeat (first | simp (maxSteps:=2000000) only [go_sem,↓reduceIte,Nat.reduceLT,Nat.reduceLeDiff,Nat.reduceAdd,Nat.reduceSub,Nat.reduceMul,Nat.reduceEqDiff,reduceCtorEq,Int.reduceToNat,Int.reduceEq,Int.reduceBEq,Int.reduceBNe,Int.reduceLT,Int.reduceLE,Int.reduceNeg,Int.reduceAdd,Int.reduceSub,Int.reduceMul,Int.reduceGE,Int.reduceGT,endO,dfr,do1] | rw [dr_cons])
      repeat (with_reducible refine And.intro (by first | omega | (simp only [maxLen];omega) | (simp;done) | (simp;omega)) ?_)
      refine draw_vc (by kernel_rfl) (mkTab_ok _ _) (of_decide_eq_true rfl) (of_decide_eq_true rfl) ?_
      repeat (first | simp (maxSteps:=2000000) only [go_sem,↓reduceIte,Nat.reduceLT,Nat.reduceLeDiff,Nat.reduceAdd,Nat.reduceSub,Nat.reduceMul,Nat.reduceEqDiff,reduceCtorEq,Int.reduceToNat,Int.reduceEq,Int.reduceBEq,Int.reduceBNe,Int.reduceLT,Int.reduceLE,Int.reduceNeg,Int.reduceAdd,Int.reduceSub,Int.reduceMul,Int.reduceGE,Int.reduceGT,endO,hwp] | rw [dr_cons])
      repeat (with_reducible refine And.intro (by first | omega | (simp only [maxLen];omega) | (simp;done) | (simp;omega)) ?_)
      have hsx:stepS o s 0 ⟨2,reg,ad,val,frm,old,cnt⟩=some (⟨s.words.set ad.toNat ((s.regs.getD 0 r40).get frm),s.regs,s.places,s.bufs⟩,1):=by rw [st2,if_pos ho,if_pos hfr]
      rw [← hR,← hW,hst,hsx]
      exact retTurnP (s:=⟨s.words.set ad.toNat ((s.regs.getD 0 r40).get frm),s.regs,_,s.bufs⟩) (s0:=s) List.mem_cons_self (fun E E'=>by simp [SV.den,SC.den]) (by simp) rfl (by simp) rfl rfl rfl (set_atsT (enc:=eI) hadn) rfl rfl rfl (set_atsT (enc:=eI) hk1) rfl rfl
     ·have do1:(o == 1)=false:=by simpa using ho
      simp (maxSteps:=2000000) only [go_sem,↓reduceIte,Nat.reduceLT,Nat.reduceLeDiff,Nat.reduceAdd,Nat.reduceSub,Nat.reduceMul,Nat.reduceEqDiff,reduceCtorEq,Int.reduceToNat,Int.reduceEq,Int.reduceBEq,Int.reduceBNe,Int.reduceLT,Int.reduceLE,Int.reduceNeg,Int.reduceAdd,Int.reduceSub,Int.reduceMul,Int.reduceGE,Int.reduceGT,endO,ir25_62,dfr,do1]
      refine draw_vc (by kernel_rfl) (mkTab_ok _ _) (of_decide_eq_true rfl) (of_decide_eq_true rfl) ?_
      repeat (first | simp (maxSteps:=2000000) only [go_sem,↓reduceIte,Nat.reduceLT,Nat.reduceLeDiff,Nat.reduceAdd,Nat.reduceSub,Nat.reduceMul,Nat.reduceEqDiff,reduceCtorEq,Int.reduceToNat,Int.reduceEq,Int.reduceBEq,Int.reduceBNe,Int.reduceLT,Int.reduceLE,Int.reduceNeg,Int.reduceAdd,Int.reduceSub,Int.reduceMul,Int.reduceGE,Int.reduceGT,endO,hnf,Nat.mul_one,dfr,do1] | rw [dr_cons])
      repeat (with_reducible refine And.intro (by first | omega | (simp only [maxLen];omega) | (simp;done) | (simp;omega)) ?_)
      refine draw_vc (by kernel_rfl) (mkTab_ok _ _) (of_decide_eq_true rfl) (of_decide_eq_true rfl) ?_
      repeat (first | simp (maxSteps:=2000000) only [go_sem,↓reduceIte,Nat.reduceLT,Nat.reduceLeDiff,Nat.reduceAdd,Nat.reduceSub,Nat.reduceMul,Nat.reduceEqDiff,reduceCtorEq,Int.reduceToNat,Int.reduceEq,Int.reduceBEq,Int.reduceBNe,Int.reduceLT,Int.reduceLE,Int.reduceNeg,Int.reduceAdd,Int.reduceSub,Int.reduceMul,Int.reduceGE,Int.reduceGT,endO,dfr,do1,bfC,bfO,Pd.enc] | rw [dr_cons])
      repeat (with_reducible refine And.intro (by first | omega | (simp only [maxLen];omega) | (simp;done) | (simp;omega)) ?_)
      refine draw_vc (by kernel_rfl) (mkTab_ok _ _) (of_decide_eq_true rfl) (of_decide_eq_true rfl) ?_
      repeat (first | simp (maxSteps:=2000000) only [go_sem,↓reduceIte,Nat.reduceLT,Nat.reduceLeDiff,Nat.reduceAdd,Nat.reduceSub,Nat.reduceMul,Nat.reduceEqDiff,reduceCtorEq,Int.reduceToNat,Int.reduceEq,Int.reduceBEq,Int.reduceBNe,Int.reduceLT,Int.reduceLE,Int.reduceNeg,Int.reduceAdd,Int.reduceSub,Int.reduceMul,Int.reduceGE,Int.reduceGT,endO,hwp] | rw [dr_cons])
      repeat (with_reducible refine And.intro (by first | omega | (simp only [maxLen];omega) | (simp;done) | (simp;omega)) ?_)
      have hsx:stepS o s 0 ⟨2,reg,ad,val,frm,old,cnt⟩=some (⟨s.words,s.regs,s.places,s.bufs.set 0 (s.bufs.getD 0 []++[⟨ad,(s.regs.getD 0 r40).get frm⟩])⟩,1):=by rw [st2,if_neg ho,if_pos hfr]
      rw [← hR,← hW,hst,hsx]
      exact retTurnA hkb (by decide) List.mem_cons_self (fun E E'=>by simp [SV.den,SC.den]) (by simp) rfl rfl rfl rfl (set_atsT (enc:=eI) hk1) rfl rfl (fun e he=>if_neg he) rfl rfl
    ·have dfr:decide (frm≥0)=false:=decide_eq_false hfr
     by_cases ho:o=1
     ·have do1:(o == 1)=true:=by simpa using ho
      simp (maxSteps:=2000000) only [go_sem,↓reduceIte,Nat.reduceLT,Nat.reduceLeDiff,Nat.reduceAdd,Nat.reduceSub,Nat.reduceMul,Nat.reduceEqDiff,reduceCtorEq,Int.reduceToNat,Int.reduceEq,Int.reduceBEq,Int.reduceBNe,Int.reduceLT,Int.reduceLE,Int.reduceNeg,Int.reduceAdd,Int.reduceSub,Int.reduceMul,Int.reduceGE,Int.reduceGT,endO,ir25_62,dfr,do1]
      refine draw_vc (by kernel_rfl) (mkTab_ok _ _) (of_decide_eq_true rfl) (of_decide_eq_true rfl) ?_
      repeat (first | simp (maxSteps:=2000000) only [go_sem,↓reduceIte,Nat.reduceLT,Nat.reduceLeDiff,Nat.reduceAdd,Nat.reduceSub,Nat.reduceMul,Nat.reduceEqDiff,reduceCtorEq,Int.reduceToNat,Int.reduceEq,Int.reduceBEq,Int.reduceBNe,Int.reduceLT,Int.reduceLE,Int.reduceNeg,Int.reduceAdd,Int.reduceSub,Int.reduceMul,Int.reduceGE,Int.reduceGT,endO,dfr,do1] | rw [dr_cons])
      repeat (with_reducible refine And.intro (by first | omega | (simp only [maxLen];omega) | (simp;done) | (simp;omega)) ?_)
      refine draw_vc (by kernel_rfl) (mkTab_ok _ _) (of_decide_eq_true rfl) (of_decide_eq_true rfl) ?_
      repeat (first | simp (maxSteps:=2000000) only [go_sem,↓reduceIte,Nat.reduceLT,Nat.reduceLeDiff,Nat.reduceAdd,Nat.reduceSub,Nat.reduceMul,Nat.reduceEqDiff,reduceCtorEq,Int.reduceToNat,Int.reduceEq,Int.reduceBEq,Int.reduceBNe,Int.reduceLT,Int.reduceLE,Int.reduceNeg,Int.reduceAdd,Int.reduceSub,Int.reduceMul,Int.reduceGE,Int.reduceGT,endO,hwp] | rw [dr_cons])
      repeat (with_reducible refine And.intro (by first | omega | (simp only [maxLen];omega) | (simp;done) | (simp;omega)) ?_)
      have hsx:stepS o s 0 ⟨2,reg,ad,val,frm,old,cnt⟩=some (⟨s.words.set ad.toNat val,s.regs,s.places,s.bufs⟩,1):=by rw [st2,if_pos ho,if_neg hfr]
      rw [← hR,← hW,hst,hsx]
      exact retTurnP (s:=⟨s.words.set ad.toNat val,s.regs,_,s.bufs⟩) (s0:=s) List.mem_cons_self (fun E E'=>by simp [SV.den,SC.den]) (by simp) rfl (by simp) rfl rfl rfl (set_atsT (enc:=eI) hadn) rfl rfl rfl (set_atsT (enc:=eI) hk1) rfl rfl
     ·have do1:(o == 1)=false:=by simpa using ho
      simp (maxSteps:=2000000) only [go_sem,↓reduceIte,Nat.reduceLT,Nat.reduceLeDiff,Nat.reduceAdd,Nat.reduceSub,Nat.reduceMul,Nat.reduceEqDiff,reduceCtorEq,Int.reduceToNat,Int.reduceEq,Int.reduceBEq,Int.reduceBNe,Int.reduceLT,Int.reduceLE,Int.reduceNeg,Int.reduceAdd,Int.reduceSub,Int.reduceMul,Int.reduceGE,Int.reduceGT,endO,ir25_62,dfr,do1]
      refine draw_vc (by kernel_rfl) (mkTab_ok _ _) (of_decide_eq_true rfl) (of_decide_eq_true rfl) ?_
      repeat (first | simp (maxSteps:=2000000) only [go_sem,↓reduceIte,Nat.reduceLT,Nat.reduceLeDiff,Nat.reduceAdd,Nat.reduceSub,Nat.reduceMul,Nat.reduceEqDiff,reduceCtorEq,Int.reduceToNat,Int.reduceEq,Int.reduceBEq,Int.reduceBNe,Int.reduceLT,Int.reduceLE,Int.reduceNeg,Int.reduceAdd,Int.reduceSub,Int.reduceMul,Int.reduceGE,Int.reduceGT,endO,dfr,do1,bfC,bfO,Pd.enc] | rw [dr_cons])
      repeat (with_reducible refine And.intro (by first | omega | (simp only [maxLen];omega) | (simp;done) | (simp;omega)) ?_)
      refine draw_vc (by kernel_rfl) (mkTab_ok _ _) (of_decide_eq_true rfl) (of_decide_eq_true rfl) ?_
      repeat (first | simp (maxSteps:=2000000) only [go_sem,↓reduceIte,Nat.reduceLT,Nat.reduceLeDiff,Nat.reduceAdd,Nat.reduceSub,Nat.reduceMul,Nat.reduceEqDiff,reduceCtorEq,Int.reduceToNat,Int.reduceEq,Int.reduceBEq,Int.reduceBNe,Int.reduceLT,Int.reduceLE,Int.reduceNeg,Int.reduceAdd,Int.reduceSub,Int.reduceMul,Int.reduceGE,Int.reduceGT,endO,hwp] | rw [dr_cons])
      repeat (with_reducible refine And.intro (by first | omega | (simp only [maxLen];omega) | (simp;done) | (simp;omega)) ?_)
      have hsx:stepS o s 0 ⟨2,reg,ad,val,frm,old,cnt⟩=some (⟨s.words,s.regs,s.places,s.bufs.set 0 (s.bufs.getD 0 []++[⟨ad,val⟩])⟩,1):=by rw [st2,if_neg ho,if_neg hfr]
      rw [← hR,← hW,hst,hsx]
      exact retTurnA hkb (by decide) List.mem_cons_self (fun E E'=>by simp [SV.den,SC.den]) (by simp) rfl rfl rfl rfl (set_atsT (enc:=eI) hk1) rfl rfl (fun e he=>if_neg he) rfl rfl
   by_cases k3:kind=3
   ·subst k3
    have hg:0≤reg∧reg<4:=f3 (by decide) (by decide)
    have hnr:=nth_r4 (xs:=s.regs) (k:=0) hg
    have had:0≤ad∧ad<s.words.length:=by rw [lw];exact f4 (by decide)
    have hadn:ad.toNat<s.words.length:=by omega
    by_cases hbf:(s.bufs.getD 0 []).length>0
    ·have dbf:decide (((s.bufs.getD 0 []).length:Int)>0)=true:=decide_eq_true (by omega)
     simp (maxSteps:=2000000) only [go_sem,↓reduceIte,Nat.reduceLT,Nat.reduceLeDiff,Nat.reduceAdd,Nat.reduceSub,Nat.reduceMul,Nat.reduceEqDiff,reduceCtorEq,Int.reduceToNat,Int.reduceEq,Int.reduceBEq,Int.reduceBNe,Int.reduceLT,Int.reduceLE,Int.reduceNeg,Int.reduceAdd,Int.reduceSub,Int.reduceMul,Int.reduceGE,Int.reduceGT,endO,ir25_62,bfC,bfO,dbf]
     repeat (with_reducible refine And.intro (by first | omega | (simp only [maxLen];omega) | (simp;done) | (simp;omega)) ?_)
     exact hno (by rw [hst,st3,if_pos hbf]) List.mem_cons_self rfl rfl rfl rfl rfl rfl
    have dbf:decide (((s.bufs.getD 0 []).length:Int)>0)=false:=decide_eq_false (by omega)
    simp (maxSteps:=2000000) only [go_sem,↓reduceIte,Nat.reduceLT,Nat.reduceLeDiff,Nat.reduceAdd,Nat.reduceSub,Nat.reduceMul,Nat.reduceEqDiff,reduceCtorEq,Int.reduceToNat,Int.reduceEq,Int.reduceBEq,Int.reduceBNe,Int.reduceLT,Int.reduceLE,Int.reduceNeg,Int.reduceAdd,Int.reduceSub,Int.reduceMul,Int.reduceGE,Int.reduceGT,endO,ir25_62,bfC,bfO,dbf]
    repeat (with_reducible refine And.intro (by first | omega | (simp only [maxLen];omega) | (simp;done) | (simp;omega)) ?_)
    refine draw_vc (by kernel_rfl) (mkTab_ok _ _) (of_decide_eq_true rfl) (of_decide_eq_true rfl) ?_
    repeat (first | simp (maxSteps:=2000000) only [go_sem,↓reduceIte,Nat.reduceLT,Nat.reduceLeDiff,Nat.reduceAdd,Nat.reduceSub,Nat.reduceMul,Nat.reduceEqDiff,reduceCtorEq,Int.reduceToNat,Int.reduceEq,Int.reduceBEq,Int.reduceBNe,Int.reduceLT,Int.reduceLE,Int.reduceNeg,Int.reduceAdd,Int.reduceSub,Int.reduceMul,Int.reduceGE,Int.reduceGT,endO,hnr,Nat.mul_one] | rw [dr_cons])
    repeat (with_reducible refine And.intro (by first | omega | (simp only [maxLen];omega) | (simp;done) | (simp;omega)) ?_)
    rw [put_r4 hkr hg]
    refine draw_vc (by kernel_rfl) (mkTab_ok _ _) (of_decide_eq_true rfl) (of_decide_eq_true rfl) ?_
    repeat (first | simp (maxSteps:=2000000) only [go_sem,↓reduceIte,Nat.reduceLT,Nat.reduceLeDiff,Nat.reduceAdd,Nat.reduceSub,Nat.reduceMul,Nat.reduceEqDiff,reduceCtorEq,Int.reduceToNat,Int.reduceEq,Int.reduceBEq,Int.reduceBNe,Int.reduceLT,Int.reduceLE,Int.reduceNeg,Int.reduceAdd,Int.reduceSub,Int.reduceMul,Int.reduceGE,Int.reduceGT,endO] | rw [dr_cons])
    repeat (with_reducible refine And.intro (by first | omega | (simp only [maxLen];omega) | (simp;done) | (simp;omega)) ?_)
    refine both (fun hq=>?_) (fun hq=>?_)
    ·have hq:s.words.getD ad.toNat 0=old:=by simpa using hq
     refine draw_vc (by kernel_rfl) (mkTab_ok _ _) (of_decide_eq_true rfl) (of_decide_eq_true rfl) ?_
     repeat (first | simp (maxSteps:=2000000) only [go_sem,↓reduceIte,Nat.reduceLT,Nat.reduceLeDiff,Nat.reduceAdd,Nat.reduceSub,Nat.reduceMul,Nat.reduceEqDiff,reduceCtorEq,Int.reduceToNat,Int.reduceEq,Int.reduceBEq,Int.reduceBNe,Int.reduceLT,Int.reduceLE,Int.reduceNeg,Int.reduceAdd,Int.reduceSub,Int.reduceMul,Int.reduceGE,Int.reduceGT,endO] | rw [dr_cons])
     repeat (with_reducible refine And.intro (by first | omega | (simp only [maxLen];omega) | (simp;done) | (simp;omega)) ?_)
     refine draw_vc (by kernel_rfl) (mkTab_ok _ _) (of_decide_eq_true rfl) (of_decide_eq_true rfl) ?_
     repeat (first | simp (maxSteps:=2000000) only [go_sem,↓reduceIte,Nat.reduceLT,Nat.reduceLeDiff,Nat.reduceAdd,Nat.reduceSub,Nat.reduceMul,Nat.reduceEqDiff,reduceCtorEq,Int.reduceToNat,Int.reduceEq,Int.reduceBEq,Int.reduceBNe,Int.reduceLT,Int.reduceLE,Int.reduceNeg,Int.reduceAdd,Int.reduceSub,Int.reduceMul,Int.reduceGE,Int.reduceGT,endO,Nat.mul_one] | rw [dr_cons])
     repeat (with_reducible refine And.intro (by first | omega | (simp only [maxLen];omega) | (simp;done) | (simp;omega)) ?_)
     refine draw_vc (by kernel_rfl) (mkTab_ok _ _) (of_decide_eq_true rfl) (of_decide_eq_true rfl) ?_
     repeat (first | simp (maxSteps:=2000000) only [go_sem,↓reduceIte,Nat.reduceLT,Nat.reduceLeDiff,Nat.reduceAdd,Nat.reduceSub,Nat.reduceMul,Nat.reduceEqDiff,reduceCtorEq,Int.reduceToNat,Int.reduceEq,Int.reduceBEq,Int.reduceBNe,Int.reduceLT,Int.reduceLE,Int.reduceNeg,Int.reduceAdd,Int.reduceSub,Int.reduceMul,Int.reduceGE,Int.reduceGT,endO,hwp] | rw [dr_cons])
     repeat (with_reducible refine And.intro (by first | omega | (simp only [maxLen];omega) | (simp;done) | (simp;omega)) ?_)
     have hkr2:0<(s.regs.set 0 ((s.regs.getD 0 r40).put reg 0)).length:=by simpa using hkr
     have hsx:stepS o s 0 ⟨3,reg,ad,val,frm,old,cnt⟩=some (⟨s.words.set ad.toNat val,s.regs.set 0 ((s.regs.getD 0 r40).put reg 1),s.places,s.bufs⟩,1):=by rw [st3,if_neg hbf,if_pos hq]
     rw [← hR,← hW,hst,hsx]
     exact retTurnP (s:=⟨s.words.set ad.toNat val,s.regs.set 0 ((s.regs.getD 0 r40).put reg 1),_,s.bufs⟩) (s0:=s) List.mem_cons_self (fun E E'=>by simp [SV.den,SC.den]) (by simp) (by simp) (by simp) rfl rfl rfl (set_atsT (enc:=eI) hadn) rfl ((put_r4 hkr2 hg).trans (by rw [put_twice hkr hg])) rfl (set_atsT (enc:=eI) hk1) rfl rfl
    ·have hq:¬ s.words.getD ad.toNat 0=old:=by simpa using hq
     refine draw_vc (by kernel_rfl) (mkTab_ok _ _) (of_decide_eq_true rfl) (of_decide_eq_true rfl) ?_
     repeat (first | simp (maxSteps:=2000000) only [go_sem,↓reduceIte,Nat.reduceLT,Nat.reduceLeDiff,Nat.reduceAdd,Nat.reduceSub,Nat.reduceMul,Nat.reduceEqDiff,reduceCtorEq,Int.reduceToNat,Int.reduceEq,Int.reduceBEq,Int.reduceBNe,Int.reduceLT,Int.reduceLE,Int.reduceNeg,Int.reduceAdd,Int.reduceSub,Int.reduceMul,Int.reduceGE,Int.reduceGT,endO,hwp] | rw [dr_cons])
     repeat (with_reducible refine And.intro (by first | omega | (simp only [maxLen];omega) | (simp;done) | (simp;omega)) ?_)
     have hsx:stepS o s 0 ⟨3,reg,ad,val,frm,old,cnt⟩=some (⟨s.words,s.regs.set 0 ((s.regs.getD 0 r40).put reg 0),s.places,s.bufs⟩,1):=by rw [st3,if_neg hbf,if_neg hq]
     rw [← hR,← hW,hst,hsx]
     exact retTurnP (s:=⟨s.words,s.regs.set 0 ((s.regs.getD 0 r40).put reg 0),_,s.bufs⟩) (s0:=s) List.mem_cons_self (fun E E'=>by simp [SV.den,SC.den]) rfl (by simp) (by simp) rfl rfl rfl rfl rfl rfl rfl (set_atsT (enc:=eI) hk1) rfl rfl
   by_cases k4:kind=4
   ·subst k4
    by_cases hbf:(s.bufs.getD 0 []).length>0
    ·have dbf:decide (((s.bufs.getD 0 []).length:Int)>0)=true:=decide_eq_true (by omega)
     simp (maxSteps:=2000000) only [go_sem,↓reduceIte,Nat.reduceLT,Nat.reduceLeDiff,Nat.reduceAdd,Nat.reduceSub,Nat.reduceMul,Nat.reduceEqDiff,reduceCtorEq,Int.reduceToNat,Int.reduceEq,Int.reduceBEq,Int.reduceBNe,Int.reduceLT,Int.reduceLE,Int.reduceNeg,Int.reduceAdd,Int.reduceSub,Int.reduceMul,Int.reduceGE,Int.reduceGT,endO,ir25_62,bfC,bfO,dbf]
     repeat (with_reducible refine And.intro (by first | omega | (simp only [maxLen];omega) | (simp;done) | (simp;omega)) ?_)
     exact hno (by rw [hst,st4,if_pos hbf]) List.mem_cons_self rfl rfl rfl rfl rfl rfl
    have dbf:decide (((s.bufs.getD 0 []).length:Int)>0)=false:=decide_eq_false (by omega)
    simp (maxSteps:=2000000) only [go_sem,↓reduceIte,Nat.reduceLT,Nat.reduceLeDiff,Nat.reduceAdd,Nat.reduceSub,Nat.reduceMul,Nat.reduceEqDiff,reduceCtorEq,Int.reduceToNat,Int.reduceEq,Int.reduceBEq,Int.reduceBNe,Int.reduceLT,Int.reduceLE,Int.reduceNeg,Int.reduceAdd,Int.reduceSub,Int.reduceMul,Int.reduceGE,Int.reduceGT,endO,ir25_62,bfC,bfO,dbf]
    repeat (with_reducible refine And.intro (by first | omega | (simp only [maxLen];omega) | (simp;done) | (simp;omega)) ?_)
    refine draw_vc (by kernel_rfl) (mkTab_ok _ _) (of_decide_eq_true rfl) (of_decide_eq_true rfl) ?_
    repeat (first | simp (maxSteps:=2000000) only [go_sem,↓reduceIte,Nat.reduceLT,Nat.reduceLeDiff,Nat.reduceAdd,Nat.reduceSub,Nat.reduceMul,Nat.reduceEqDiff,reduceCtorEq,Int.reduceToNat,Int.reduceEq,Int.reduceBEq,Int.reduceBNe,Int.reduceLT,Int.reduceLE,Int.reduceNeg,Int.reduceAdd,Int.reduceSub,Int.reduceMul,Int.reduceGE,Int.reduceGT,endO,hwp] | rw [dr_cons])
    repeat (with_reducible refine And.intro (by first | omega | (simp only [maxLen];omega) | (simp;done) | (simp;omega)) ?_)
    have hsx:stepS o s 0 ⟨4,reg,ad,val,frm,old,cnt⟩=some (⟨s.words,s.regs,s.places,s.bufs⟩,1):=by rw [st4,if_neg hbf]
    rw [← hR,← hW,hst,hsx]
    exact retTurnP (s:=⟨s.words,s.regs,_,s.bufs⟩) (s0:=s) List.mem_cons_self (fun E E'=>by simp [SV.den,SC.den]) rfl rfl (by simp) rfl rfl rfl rfl rfl rfl rfl (set_atsT (enc:=eI) hk1) rfl rfl
   by_cases k5:kind=5
   ·subst k5
    have hg:0≤reg∧reg<4:=f3 (by decide) (by decide)
    have hnr:=nth_r4 (xs:=s.regs) (k:=0) hg
    simp (maxSteps:=2000000) only [go_sem,↓reduceIte,Nat.reduceLT,Nat.reduceLeDiff,Nat.reduceAdd,Nat.reduceSub,Nat.reduceMul,Nat.reduceEqDiff,reduceCtorEq,Int.reduceToNat,Int.reduceEq,Int.reduceBEq,Int.reduceBNe,Int.reduceLT,Int.reduceLE,Int.reduceNeg,Int.reduceAdd,Int.reduceSub,Int.reduceMul,Int.reduceGE,Int.reduceGT,endO,ir25_62]
    refine draw_vc (by kernel_rfl) (mkTab_ok _ _) (of_decide_eq_true rfl) (of_decide_eq_true rfl) ?_
    repeat (first | simp (maxSteps:=2000000) only [go_sem,↓reduceIte,Nat.reduceLT,Nat.reduceLeDiff,Nat.reduceAdd,Nat.reduceSub,Nat.reduceMul,Nat.reduceEqDiff,reduceCtorEq,Int.reduceToNat,Int.reduceEq,Int.reduceBEq,Int.reduceBNe,Int.reduceLT,Int.reduceLE,Int.reduceNeg,Int.reduceAdd,Int.reduceSub,Int.reduceMul,Int.reduceGE,Int.reduceGT,endO,hnr,Nat.mul_one] | rw [dr_cons])
    repeat (with_reducible refine And.intro (by first | omega | (simp only [maxLen];omega) | (simp;done) | (simp;omega)) ?_)
    refine draw_vc (by kernel_rfl) (mkTab_ok _ _) (of_decide_eq_true rfl) (of_decide_eq_true rfl) ?_
    repeat (first | simp (maxSteps:=2000000) only [go_sem,↓reduceIte,Nat.reduceLT,Nat.reduceLeDiff,Nat.reduceAdd,Nat.reduceSub,Nat.reduceMul,Nat.reduceEqDiff,reduceCtorEq,Int.reduceToNat,Int.reduceEq,Int.reduceBEq,Int.reduceBNe,Int.reduceLT,Int.reduceLE,Int.reduceNeg,Int.reduceAdd,Int.reduceSub,Int.reduceMul,Int.reduceGE,Int.reduceGT,endO,hwp] | rw [dr_cons])
    repeat (with_reducible refine And.intro (by first | omega | (simp only [maxLen];omega) | (simp;done) | (simp;omega)) ?_)
    have hsx:stepS o s 0 ⟨5,reg,ad,val,frm,old,cnt⟩=some (⟨s.words,s.regs.set 0 ((s.regs.getD 0 r40).put reg val),s.places,s.bufs⟩,1):=by simp [stepS]
    rw [← hR,← hW,hst,hsx]
    exact retTurnP (s:=⟨s.words,s.regs.set 0 ((s.regs.getD 0 r40).put reg val),_,s.bufs⟩) (s0:=s) List.mem_cons_self (fun E E'=>by simp [SV.den,SC.den]) rfl (by simp) (by simp) rfl rfl rfl rfl rfl (put_r4 hkr hg) rfl (set_atsT (enc:=eI) hk1) rfl rfl
   by_cases k6:kind=6
   ·subst k6
    have hg:0≤reg∧reg<4:=f3 (by decide) (by decide)
    have hnr:=nth_r4 (xs:=s.regs) (k:=0) hg
    simp (maxSteps:=2000000) only [go_sem,↓reduceIte,Nat.reduceLT,Nat.reduceLeDiff,Nat.reduceAdd,Nat.reduceSub,Nat.reduceMul,Nat.reduceEqDiff,reduceCtorEq,Int.reduceToNat,Int.reduceEq,Int.reduceBEq,Int.reduceBNe,Int.reduceLT,Int.reduceLE,Int.reduceNeg,Int.reduceAdd,Int.reduceSub,Int.reduceMul,Int.reduceGE,Int.reduceGT,endO,ir25_62]
    refine draw_vc (by kernel_rfl) (mkTab_ok _ _) (of_decide_eq_true rfl) (of_decide_eq_true rfl) ?_
    repeat (first | simp (maxSteps:=2000000) only [go_sem,↓reduceIte,Nat.reduceLT,Nat.reduceLeDiff,Nat.reduceAdd,Nat.reduceSub,Nat.reduceMul,Nat.reduceEqDiff,reduceCtorEq,Int.reduceToNat,Int.reduceEq,Int.reduceBEq,Int.reduceBNe,Int.reduceLT,Int.reduceLE,Int.reduceNeg,Int.reduceAdd,Int.reduceSub,Int.reduceMul,Int.reduceGE,Int.reduceGT,endO,hnr,Nat.mul_one] | rw [dr_cons])
    repeat (with_reducible refine And.intro (by first | omega | (simp only [maxLen];omega) | (simp;done) | (simp;omega)) ?_)
    refine draw_vc (by kernel_rfl) (mkTab_ok _ _) (of_decide_eq_true rfl) (of_decide_eq_true rfl) ?_
    repeat (first | simp (maxSteps:=2000000) only [go_sem,↓reduceIte,Nat.reduceLT,Nat.reduceLeDiff,Nat.reduceAdd,Nat.reduceSub,Nat.reduceMul,Nat.reduceEqDiff,reduceCtorEq,Int.reduceToNat,Int.reduceEq,Int.reduceBEq,Int.reduceBNe,Int.reduceLT,Int.reduceLE,Int.reduceNeg,Int.reduceAdd,Int.reduceSub,Int.reduceMul,Int.reduceGE,Int.reduceGT,endO,hwp] | rw [dr_cons])
    repeat (with_reducible refine And.intro (by first | omega | (simp only [maxLen];omega) | (simp;done) | (simp;omega)) ?_)
    have hsx:stepS o s 0 ⟨6,reg,ad,val,frm,old,cnt⟩=some (⟨s.words,s.regs.set 0 ((s.regs.getD 0 r40).put reg (IntKind.i64.wrap ((s.regs.getD 0 r40).get reg+val))),s.places,s.bufs⟩,1):=by simp [stepS]
    rw [← hR,← hW,hst,hsx]
    exact retTurnP (s:=⟨s.words,s.regs.set 0 ((s.regs.getD 0 r40).put reg (IntKind.i64.wrap ((s.regs.getD 0 r40).get reg+val))),_,s.bufs⟩) (s0:=s) List.mem_cons_self (fun E E'=>by simp [SV.den,SC.den]) rfl (by simp) (by simp) rfl rfl rfl rfl rfl (put_r4 hkr hg) rfl (set_atsT (enc:=eI) hk1) rfl rfl
   have k7:kind=7:=by omega
   subst k7
   have hg:0≤reg∧reg<4:=f3 (by decide) (by decide)
   have hnr:=nth_r4 (xs:=s.regs) (k:=0) hg
   have hcn:=f6 rfl
   have hw1:IntKind.i64.wrap (1+cnt)=1+cnt:=wrI (by omega)
   have hwc:IntKind.i64.wrap (s.places.getD 0 0+(1+cnt))=s.places.getD 0 0+(1+cnt):=wrI (by have:=(fits_at hL hk).1;omega)
   simp (maxSteps:=2000000) only [go_sem,↓reduceIte,Nat.reduceLT,Nat.reduceLeDiff,Nat.reduceAdd,Nat.reduceSub,Nat.reduceMul,Nat.reduceEqDiff,reduceCtorEq,Int.reduceToNat,Int.reduceEq,Int.reduceBEq,Int.reduceBNe,Int.reduceLT,Int.reduceLE,Int.reduceNeg,Int.reduceAdd,Int.reduceSub,Int.reduceMul,Int.reduceGE,Int.reduceGT,endO,ir25_62]
   refine draw_vc (by kernel_rfl) (mkTab_ok _ _) (of_decide_eq_true rfl) (of_decide_eq_true rfl) ?_
   repeat (first | simp (maxSteps:=2000000) only [go_sem,↓reduceIte,Nat.reduceLT,Nat.reduceLeDiff,Nat.reduceAdd,Nat.reduceSub,Nat.reduceMul,Nat.reduceEqDiff,reduceCtorEq,Int.reduceToNat,Int.reduceEq,Int.reduceBEq,Int.reduceBNe,Int.reduceLT,Int.reduceLE,Int.reduceNeg,Int.reduceAdd,Int.reduceSub,Int.reduceMul,Int.reduceGE,Int.reduceGT,endO,hnr,Nat.mul_one] | rw [dr_cons])
   repeat (with_reducible refine And.intro (by first | omega | (simp only [maxLen];omega) | (simp;done) | (simp;omega)) ?_)
   refine both (fun hq=>?_) (fun hq=>?_)
   ·have hq:(s.regs.getD 0 r40).get reg=val:=by simpa using hq
    refine draw_vc (by kernel_rfl) (mkTab_ok _ _) (of_decide_eq_true rfl) (of_decide_eq_true rfl) ?_
    repeat (first | simp (maxSteps:=2000000) only [go_sem,↓reduceIte,Nat.reduceLT,Nat.reduceLeDiff,Nat.reduceAdd,Nat.reduceSub,Nat.reduceMul,Nat.reduceEqDiff,reduceCtorEq,Int.reduceToNat,Int.reduceEq,Int.reduceBEq,Int.reduceBNe,Int.reduceLT,Int.reduceLE,Int.reduceNeg,Int.reduceAdd,Int.reduceSub,Int.reduceMul,Int.reduceGE,Int.reduceGT,endO,hw1,hwc] | rw [dr_cons])
    repeat (with_reducible refine And.intro (by first | omega | (simp only [maxLen];omega) | (simp;done) | (simp;omega)) ?_)
    have hsx:stepS o s 0 ⟨7,reg,ad,val,frm,old,cnt⟩=some (⟨s.words,s.regs,s.places,s.bufs⟩,1+cnt):=by rw [st7,if_pos hq]
    rw [← hR,← hW,hst,hsx]
    exact retTurnP (s:=⟨s.words,s.regs,_,s.bufs⟩) (s0:=s) List.mem_cons_self (fun E E'=>by simp [SV.den,SC.den]) rfl rfl (by simp) rfl rfl rfl rfl rfl rfl rfl (set_atsT (enc:=eI) hk1) rfl rfl
   ·have hq:¬ (s.regs.getD 0 r40).get reg=val:=by simpa using hq
    refine draw_vc (by kernel_rfl) (mkTab_ok _ _) (of_decide_eq_true rfl) (of_decide_eq_true rfl) ?_
    repeat (first | simp (maxSteps:=2000000) only [go_sem,↓reduceIte,Nat.reduceLT,Nat.reduceLeDiff,Nat.reduceAdd,Nat.reduceSub,Nat.reduceMul,Nat.reduceEqDiff,reduceCtorEq,Int.reduceToNat,Int.reduceEq,Int.reduceBEq,Int.reduceBNe,Int.reduceLT,Int.reduceLE,Int.reduceNeg,Int.reduceAdd,Int.reduceSub,Int.reduceMul,Int.reduceGE,Int.reduceGT,endO,hwp] | rw [dr_cons])
    repeat (with_reducible refine And.intro (by first | omega | (simp only [maxLen];omega) | (simp;done) | (simp;omega)) ?_)
    have hsx:stepS o s 0 ⟨7,reg,ad,val,frm,old,cnt⟩=some (⟨s.words,s.regs,s.places,s.bufs⟩,1):=by rw [st7,if_neg hq]
    rw [← hR,← hW,hst,hsx]
    exact retTurnP (s:=⟨s.words,s.regs,_,s.bufs⟩) (s0:=s) List.mem_cons_self (fun E E'=>by simp [SV.den,SC.den]) rfl rfl (by simp) rfl rfl rfl rfl rfl rfl rfl (set_atsT (enc:=eI) hk1) rfl rfl
 ·have hno2:turnS L o s ⟨thr,out,addr⟩=(s,false):=by unfold turnS;rw [if_neg hk]
  simp (maxSteps:=2000000) only [ir25,nt25,rs25,go_sem,↓reduceIte,Nat.reduceLT,Nat.reduceLeDiff,Nat.reduceAdd,Nat.reduceSub,Nat.reduceMul,Nat.reduceEqDiff,reduceCtorEq,Int.reduceToNat,Int.reduceEq,Int.reduceBEq,Int.reduceBNe,Int.reduceLT,Int.reduceLE,Int.reduceNeg,Int.reduceAdd,Int.reduceSub,Int.reduceMul,Int.reduceGE,Int.reduceGT,endO,ltA,ltS,Tn.enc,stP,stO,stC,bfC]
  refine both (fun hb=>?_) (fun hb=>?_)
  ·exact hno hno2 List.mem_cons_self rfl rfl rfl rfl rfl rfl
  ·exfalso
   simp at hb
   omega
end Go.Proofs.Ytmcpdafmkkjlcaa.Z
namespace Go.Proofs.Ytmcpdafmkkjlcaa.Z
open Go Go.RowKit
theorem iturn_own (w:World) (E:Env) (L:Lt) (o:Int) (s:LS) (t:Tn) (N:Nat) (hL:checkB L=true) (hwf:WfS L o N s) (hN:N≤100000) (h:Handed w E 11 (stP s) (ltA 0 L)) :
  Calls Try.prog 40 (([.agg (ltS 0),.c (.v (.int .i64 o)),.c (.ptr (5,0,0) 0),.agg (t.enc.map .v)]:List SV).map (SV.den E)).toArray w (EffR w E 11 (takesO E (stP s)) (.c (.bo (turnS L o s t).2)) 1 fun b=>killO [10]++stE b (turnS L o s t).1):=by
 by_cases hz:t.thr=0
 ·exact iturn_zero w E L o s t N hL hwf hN hz h
 ·exact iturn_pos w E L o s t N hL hwf hN hz h
theorem rturn_own (w:World) (E:Env) (L:Lt) (o:Int) (s:LS) (t:Tn) (N:Nat) (hL:checkB L=true) (hwf:WfS L o N s) (hN:N≤100000) (h:Handed w E 11 (stP s) (ltA 0 L)) :
  Calls Try.prog 25 (([.agg (ltS 0),.c (.v (.int .i64 o)),.c (.ptr (5,0,0) 0),.agg (t.enc.map .v)]:List SV).map (SV.den E)).toArray w (EffR w E 11 (takesO E (stP s)) (.c (.bo (turnS L o s t).2)) 1 fun b=>killO [10]++stE b (turnS L o s t).1):=by
 by_cases hz:t.thr=0
 ·exact rturn_zero w E L o s t N hL hwf hN hz h
 ·exact rturn_pos w E L o s t N hL hwf hN hz h
end Go.Proofs.Ytmcpdafmkkjlcaa.Z
namespace Go.Proofs.Ytmcpdafmkkjlcaa.Z
open Go Go.RowKit
theorem enterLtSt {P:Program} {A:List Nat} {f nt:Nat} {fn:Func} {x:Code} {c:IR} {w:World} {rs:List RS} {R:Ending→World→Prop} {v v' : Value} {L:Lt} {s:LS} (h:LtR w v L) (h' : StR w v' s) (sc:List SV) (args:Array Value)
  (hf:P.funcs[f]? = some fn) (hb:fn.body=some x) (hc:compC (mkTab P A) x=some c.strip) (hrs:compR (mkTab P A).T fn.results.toList=some rs) (hn:fn.ntmps=nt)
  (hargs:∀ E',(SV.agg (ltS 0)).den E' = v→(SV.agg (stS 3)).den E' = v'→(sc.map (SV.den E')).toArray=args) (hnt:sc.length≤nt)
  (hex:exec (mkC P A w rs R) 1000 [.code c] ⟨nt,enumT 0 sc,[],ltA 0 L++stA 3 s,[],8⟩):Calls P f args w R:=by
 obtain ⟨vw,vt,rfl,h1,us,h4,h5,h6⟩:=h
 obtain ⟨vw',vr',vp',vb',rfl,h1',h2',h3',us',h4',h5',h6'⟩:=h'
 refine enterL [fun _=>vw,fun _=>vt,fun k=>us.getD k nest0,fun _=>vw',fun _=>vr',fun _=>vp',fun _=>vb',fun k=>us'.getD k nest0] ⟨fun _=>arr_one h1,fun _=>arr_one h4,nest_one h5 h6,fun _=>arr_one h1',fun _=>arr_one h2',fun _=>arr_one h3',fun _=>arr_one h4',nest_one h5' h6',trivial⟩
  (rd_one 0 0 eI_ok h1 (by simp) rfl (rd_nest 1 2 in0 in_ok h4 h5 h6 (by simp) (by simp) rfl (fun _=>rfl) (rd_one 3 0 eI_ok h1' (by simp) rfl (rd_one 4 r40 r4_ok h2' (by simp) rfl (rd_one 5 0 eI_ok h3' (by simp) rfl (rd_nest 6 7 pd0 pd_ok h4' h5' h6' (by simp) (by simp) rfl (fun _=>rfl) rd_nil))))))
  sc args hf hb hc hrs hn (fun E' hE'=>hargs E' ?_ ?_) hnt hex
 ·have e:=fun i hi=>hE' i 0 0 hi
  simp only [SV.den,ltS,List.map_cons,List.map_nil,SC.den,Nat.reduceAdd,e 0 (by simp),e 1 (by simp)]
  rfl
 ·have e:=fun i hi=>hE' i 0 0 hi
  simp only [SV.den,stS,List.map_cons,List.map_nil,SC.den,Nat.reduceAdd,e 3 (by simp),e 4 (by simp),e 5 (by simp),e 6 (by simp)]
  rfl
end Go.Proofs.Ytmcpdafmkkjlcaa.Z
namespace Go.Proofs.Ytmcpdafmkkjlcaa.Z
open Go Go.RowKit
def InT (tmps:List (Nat×SV)):List Nat→List SV→Prop
 | [],[]=>True
 | t :: ts,v :: vs=>look tmps t=some v∧InT tmps ts vs
 | _,_=>False
theorem inT_den {B:Nat} {W:Nat→Prop} {w0:World} {E:Env} {S:St} {a:Act} {w:World} (hs:Sat B W w0 E S a w):∀ {ts:List Nat} {vs:List SV},InT S.tmps ts vs→vs.map (SV.den E)=ts.map fun t=>a.tmps.getD t undef
 | [],[],_=>rfl
 | t :: ts,v :: vs,h=>by rw [List.map_cons,List.map_cons,inT_den hs h.2,(hs.tmps t v h.1).2]
 | [],_ :: _,h=>h.elim
 | _ :: _,[],h=>h.elim
theorem call_leT {C:Ctx} {S S' : St} {f:Nat} {vs vs' : List SV} {dst:Option Nat} {K:St→Prop} (ts:List Nat) (hle:Le C S S') (hv:InT S.tmps ts vs) (hv' : InT S'.tmps ts vs') (h:CallVC C f vs' dst S' K):CallVC C f vs dst S K:=by
 intro E a w hs
 obtain ⟨E',hs'⟩:=hle E a w hs
 have e:vs.map (SV.den E)=vs'.map (SV.den E'):=by rw [inT_den hs.sat hv,inT_den hs'.sat hv']
 rw [e]
 exact h E' a w hs'
theorem arr_ltA {p:Nat→Prop} {τ:Nat→Nat} {L:Lt} {arrs:List (Nat×Fm ArrF)} (hp:∀ i,i<3→p i) (hτ:∀ i,i<3→τ i=i) (h0:look arrs 0=some (.one (arrOf eI 1 L.words 0))) (h1:look arrs 1=some (.one (nestF 2 L.thr.length))) (h2:look arrs 2=some (.fam L.thr.length fun k=>arrOf Ins.enc 7 (L.thr.getD k []) in0)):ArrsLe p (idσ τ) arrs (ltA 0 L):=by
 have t0:=hτ 0 (by decide);have t1:=hτ 1 (by decide);have t2:=hτ 2 (by decide)
 have p0:=hp 0 (by decide);have p1:=hp 1 (by decide);have p2:=hp 2 (by decide)
 simp +contextual [ltA,ArrsLe,ArrLeO,atN,look,Fm.get,idσ,arrLe_of,arrLe_0,arrLe_nest,t0,t1,t2,p0,p1,p2,h0,h1,h2]
end Go.Proofs.Ytmcpdafmkkjlcaa.Z
namespace Go.Proofs.Ytmcpdafmkkjlcaa.Z
open Go Go.RowKit
def wlC (b:Nat) (l:List Sp) (i:Nat):List SC:=[.sl (b+1,i,0) 1 0 (l.getD i sp0).s.words.length none,.sl (b+2,i,0) 4 0 (l.getD i sp0).s.regs.length none,.sl (b+3,i,0) 1 0 (l.getD i sp0).s.places.length none,.sl (b+4,i,0) 1 0 (l.getD i sp0).s.bufs.length none,.v (.int .i64 (l.getD i sp0).frm),.v (.int .i64 (l.getD i sp0).tn.thr),.v (.bool (l.getD i sp0).tn.out),.v (.int .i64 (l.getD i sp0).tn.addr)]
def wlW (l:List Sp) (k:Nat):Blk:=.ar (l.getD k sp0).s.words.length 1 (ats eI (l.getD k sp0).s.words 0) 3
def wlR (l:List Sp) (k:Nat):Blk:=.ar (l.getD k sp0).s.regs.length 4 (ats R4.enc (l.getD k sp0).s.regs r40) 68
def wlP (l:List Sp) (k:Nat):Blk:=.ar (l.getD k sp0).s.places.length 1 (ats eI (l.getD k sp0).s.places 0) 3
def wlB (b:Nat) (l:List Sp) (k:Nat):Blk:=.ar (l.getD k sp0).s.bufs.length 1 (fun e=>[.sl (b,k,e) 2 0 ((l.getD k sp0).s.bufs.getD e []).length none]) 86
def wlF (l:List Sp) (k e:Nat):Blk:=.ar ((l.getD k sp0).s.bufs.getD e []).length 2 (ats Pd.enc ((l.getD k sp0).s.bufs.getD e []) pd0) 88
def wlN (l:List Sp) (k:Nat):Nat:=(l.getD k sp0).s.bufs.length
def wlO (b:Nat) (l:List Sp):Own:=[(b,.one (.ar l.length 8 (wlC b l) 98)),(b+1,.fam l.length (wlW l)),(b+2,.fam l.length (wlR l)),(b+3,.fam l.length (wlP l)),(b+4,.fam l.length (wlB (b+5) l)),(b+5,.fam2 l.length (wlN l) (wlF l))]
def wlS (l:List Sp) (ts:List Tn):Own:=(3,.one (.bk [.xv (0,0,0),.xv (1,0,0)] 25)) :: wlO 11 l++[(17,.one (.mp (.arr 110 .i64) .i64 (seenF l))),(18,.one (.ar ts.length 3 (ats Tn.enc ts tn0) 44))]
def wlσ (n a w r p b f m t:Nat) (x:Nm):Nm :=
 if x.1=11 then (a,x.2) else if x.1=17 then (m,x.2) else if x.1=18 then (t,x.2)
 else if x.2.1=n then (if x.1=12 then (w,0,0) else if x.1=13 then (r,0,0) else if x.1=14 then (p,0,0) else if x.1=15 then (b,0,0) else if x.1=16 then (f,x.2.2,0) else x) else x
theorem st_ownG {C:Ctx} {E:Env} {S:St} {a:Act} {w:World} (hs:Sat C.B C.W C.w0 E S a w) {s:LS} (b n:Nat) (h6:look S.own b=some (.one (.ar s.words.length 1 (ats eI s.words 0) 3))) (h7:look S.own (b+1)=some (.one (.ar s.regs.length 4 (ats R4.enc s.regs r40) 68))) (h8:look S.own (b+2)=some (.one (.ar s.places.length 1 (ats eI s.places 0) 3)))
  (h9:look S.own (b+3)=some (.one (.ar s.bufs.length 1 (bfC n s) 86))) (h10:look S.own n=some (.fam s.bufs.length (bfO s))):StR w ((SV.agg (stC b s)).den E) s :=
 ⟨_,_,_,_,by simp [stC,SV.den],own_at (d:=0) hs b _ h6 rfl,own_at (d:=r40) hs (b+1) _ h7 rfl,own_at (d:=0) hs (b+2) _ h8 rfl,nest_own (d:=pd0) hs (b+3,0,0) n _ rfl (bfC n s) (by simp [atN,h9,Fm.get];rfl) (fun _ _=>rfl) (fun k hk=>by simp [atN,h10,Fm.get,hk,bfO];rfl)⟩
theorem nest_ownG {C:Ctx} {E:Env} {S:St} {a:Act} {w:World} (hs:Sat C.B C.W C.w0 E S a w) {α:Type} {enc:α→List Value} {s ty ty2:Nat} {ls:List (List α)} {d:α} (j:Nm) (ν:Nat→Nm) (n:Nat) (hn:n=ls.length) (at_:Nat→List SC) (hj:atN S.own j=some (.ar n 1 at_ ty)) (ha:∀ k,k<n→at_ k=[.sl (ν k) s 0 (ls.getD k []).length none])
  (hi:∀ k,k<ls.length→atN S.own (ν k)=some (.ar (ls.getD k []).length s (ats enc (ls.getD k []) d) ty2)):Nest w enc s ((SC.sl j 1 0 n none).den E) ls:=by
 subst hn
 refine ⟨(List.range ls.length).map fun k=>(SC.sl (ν k) s 0 (ls.getD k []).length none).den E,?_,by simp,fun k hk=>?_⟩
 ·obtain ⟨H,hH,_⟩:=hs.mem
  rcases ar_heap hH hj with ⟨h1,h2,h3,_⟩ | ⟨h1,h2,h3,cells,h4,h5,h6,h7⟩
  ·have h0:ls=[]:=List.eq_nil_of_length_eq_zero h3
   subst h0
   exact ⟨if E.ν j=true then none else some ⟨E.ρ j,0,none⟩,0,by simp [SC.den,h2],Nat.le_refl _,by simp [maxLen],Or.inl rfl⟩
  ·refine ⟨some ⟨E.ρ j,0,none⟩,E.κ j,by simp [SC.den,h1],by simpa using h2.1,h3,Or.inr ⟨_,_,rfl,fun e y hy q u hu=>?_⟩⟩
   rw [cell_of_row w _ _ _ ty (0,0) h5,Nat.zero_add]
   have he:e<ls.length:=by
    have:=(List.getElem?_eq_some_iff.1 hy).1
    simpa using this
   simp [he] at hy
   subst hy
   cases q with
   | zero =>
    simp only [one1',List.getElem?_cons_zero,Option.some.injEq] at hu
    subst hu
    exact ((h7 e he).2 0 _ (by rw [ha e he];simp [he])).1
   | succ q=>simp [one1'] at hu
 ·have:((List.range ls.length).map fun k=>(SC.sl (ν k) s 0 (ls.getD k []).length none).den E).getD k nest0=(SC.sl (ν k) s 0 (ls.getD k []).length none).den E:=by rw [List.getD_eq_getElem?_getD,List.getElem?_map,List.getElem?_range hk];rfl
  rw [this]
  exact arr_ownX (d:=d) hs (ν k) _ _ _ (hi k hk) rfl (Nat.le_refl _) fun _ _=>rfl
theorem st_ownL {C:Ctx} {E:Env} {S:St} {a:Act} {w:World} (hs:Sat C.B C.W C.w0 E S a w) {l:List Sp} (b i:Nat) (hi:i<l.length) (h1:look S.own (b+1)=some (.fam l.length (wlW l))) (h2:look S.own (b+2)=some (.fam l.length (wlR l))) (h3:look S.own (b+3)=some (.fam l.length (wlP l))) (h4:look S.own (b+4)=some (.fam l.length (wlB (b+5) l))) (h5:look S.own (b+5)=some (.fam2 l.length (wlN l) (wlF l))) :
  StR w ((SV.agg [.sl (b+1,i,0) 1 0 (l.getD i sp0).s.words.length none,.sl (b+2,i,0) 4 0 (l.getD i sp0).s.regs.length none,.sl (b+3,i,0) 1 0 (l.getD i sp0).s.places.length none,.sl (b+4,i,0) 1 0 (l.getD i sp0).s.bufs.length none]).den E) (l.getD i sp0).s :=
 ⟨_,_,_,_,by simp [SV.den],arr_ownX (d:=0) hs (b+1,i,0) _ _ _ (by simp only [atN,h1,Fm.get,hi,and_self,if_true];rfl) rfl (Nat.le_refl _) (fun _ _=>rfl),arr_ownX (d:=r40) hs (b+2,i,0) _ _ _ (by simp only [atN,h2,Fm.get,hi,and_self,if_true];rfl) rfl (Nat.le_refl _) (fun _ _=>rfl),arr_ownX (d:=0) hs (b+3,i,0) _ _ _ (by simp only [atN,h3,Fm.get,hi,and_self,if_true];rfl) rfl (Nat.le_refl _) (fun _ _=>rfl),
  nest_ownG (d:=pd0) hs (b+4,i,0) (fun e=>(b+5,i,e)) _ rfl _ (by simp only [atN,h4,Fm.get,hi,and_self,if_true];rfl) (fun _ _=>rfl) (fun k hk=>by simp only [atN,h5,Fm.get];rw [if_pos ⟨hi,hk⟩];rfl)⟩
theorem getD_app1 {α:Type} {l:List α} {x d:α} {k:Nat} (h:k<l.length):(l++[x]).getD k d=l.getD k d:=by
 rw [List.getD_eq_getElem?_getD,List.getElem?_append_left h,List.getD_eq_getElem?_getD]
theorem getD_app2 {α:Type} {l:List α} {x d:α} {k:Nat} (h:k=l.length):(l++[x]).getD k d=x:=by
 subst h;rw [List.getD_eq_getElem?_getD,List.getElem?_append_right (Nat.le_refl _)];simp
theorem atN_fam2 {α:Type} {i n:Nat} {m:Nat→Nat} {f:Nat→Nat→α} {r:List (Nat×Fm α)} {x:Nm} {A:α} (h:atN ((i,.fam2 n m f) :: r) x=some A):(∃ k e,k<n∧x=(i,k,e))∨atN r x=some A:=by
 obtain ⟨a,b,c⟩:=x
 simp only [atN,look_cons] at h ⊢
 by_cases e:i=a
 ·subst e
  rw [if_pos rfl] at h
  simp only [Fm.get] at h
  split at h
  ·next e=>exact Or.inl ⟨b,c,e.1,rfl⟩
  ·cases h
 ·rw [if_neg e] at h
  exact Or.inr h
theorem wl_push {l:List Sp} {x:Sp} {ts:List Tn} {O:Own} {n a w r p b f m t:Nat} {at_:Nat→List SC} {g:List Int→Option Int} (hn:n=l.length) (h3:look O 3=some (.one (.bk [.xv (0,0,0),.xv (1,0,0)] 25)))
  (ha:look O a=some (.one (.ar (n+1) 8 at_ 98))) (hat:∀ e,e<n→at_ e=wlC 11 l e) (hat2:at_ n=[.sl (w,0,0) 1 0 x.s.words.length none,.sl (r,0,0) 4 0 x.s.regs.length none,.sl (p,0,0) 1 0 x.s.places.length none,.sl (b,0,0) 1 0 x.s.bufs.length none,.v (.int .i64 x.frm),.v (.int .i64 x.tn.thr),.v (.bool x.tn.out),.v (.int .i64 x.tn.addr)])
  (hw:look O w=some (.one (.ar x.s.words.length 1 (ats eI x.s.words 0) 3))) (hr:look O r=some (.one (.ar x.s.regs.length 4 (ats R4.enc x.s.regs r40) 68))) (hp:look O p=some (.one (.ar x.s.places.length 1 (ats eI x.s.places 0) 3)))
  (hb:look O b=some (.one (.ar x.s.bufs.length 1 (bfC f x.s) 86))) (hf:look O f=some (.fam x.s.bufs.length (bfO x.s))) (hm:look O m=some (.one (.mp (.arr 110 .i64) .i64 g))) (hg:∀ q,g q=seenF (l++[x]) q) (ht:look O t=some (.one (.ar ts.length 3 (ats Tn.enc ts tn0) 44)))
  (hfam:0<n→look O 12=some (.fam n (wlW l))∧look O 13=some (.fam n (wlR l))∧look O 14=some (.fam n (wlP l))∧look O 15=some (.fam n (wlB 16 l))∧look O 16=some (.fam2 n (wlN l) (wlF l))) :
  OwnLe (· < 19) (wlσ n a w r p b f m t) O (wlS (l++[x]) ts):=by
 have hle:(l++[x]).length=n+1:=by simp [hn]
 have g2:∀ k,k=n→(l++[x]).getD k sp0=x:=fun k hk=>getD_app2 (by omega)
 have g1:∀ k,k<n→(l++[x]).getD k sp0=l.getD k sp0:=fun k hk=>getD_app1 (by omega)
 have hcase:∀ k,k<(l++[x]).length→(k=n)∨(k<n∧¬ k=n):=fun k hk=>by omega
 refine ⟨⟨of_decide_eq_true rfl,?_⟩,⟨of_decide_eq_true rfl,?_⟩,⟨of_decide_eq_true rfl,fun k hk=>?_⟩,⟨of_decide_eq_true rfl,fun k hk=>?_⟩,⟨of_decide_eq_true rfl,fun k hk=>?_⟩,⟨of_decide_eq_true rfl,fun k hk=>?_⟩,⟨of_decide_eq_true rfl,fun k e hk he=>?_⟩,⟨of_decide_eq_true rfl,?_⟩,⟨of_decide_eq_true rfl,?_⟩,trivial⟩
 ·have e3:wlσ n a w r p b f m t (3,0,0)=(3,0,0):=by simp [wlσ]
  have e0:wlσ n a w r p b f m t (0,0,0)=(0,0,0):=by simp [wlσ]
  have e1:wlσ n a w r p b f m t (1,0,0)=(1,0,0):=by simp [wlσ]
  simp [BlkLeO,BlkLe,atN,e3,e0,e1,h3,Fm.get,SC.renL,SC.ren,SC.okL,SC.okN]
 ·simp only [wlσ,reduceIte,atN,ha,Fm.get,and_self]
  refine ⟨by omega,rfl,rfl,fun e he=>⟨?_,by simp [wlC,SC.okL,SC.okN]⟩⟩
  rcases hcase e he with rfl | ⟨h,hne⟩
  ·rw [hat2];simp only [wlC,g2 e rfl,SC.renL,SC.ren,wlσ,Nat.reduceAdd,Nat.reduceEqDiff,reduceIte]
  ·rw [hat e h];simp only [wlC,g1 e h,SC.renL,SC.ren,wlσ,Nat.reduceAdd,Nat.reduceEqDiff,reduceIte,hne]
 ·rcases hcase k hk with rfl | ⟨h,hne⟩
  ·simp only [wlσ,Nat.reduceEqDiff,reduceIte,atN,hw,Fm.get,and_self,wlW,g2 k rfl];exact arLe_same
  ·simp only [wlσ,Nat.reduceEqDiff,reduceIte,hne,atN,(hfam (by omega)).1,Fm.get,h,and_self,wlW,g1 k h];exact arLe_same
 ·rcases hcase k hk with rfl | ⟨h,hne⟩
  ·simp only [wlσ,Nat.reduceEqDiff,reduceIte,atN,hr,Fm.get,and_self,wlR,g2 k rfl];exact arLe_same
  ·simp only [wlσ,Nat.reduceEqDiff,reduceIte,hne,atN,(hfam (by omega)).2.1,Fm.get,h,and_self,wlR,g1 k h];exact arLe_same
 ·rcases hcase k hk with rfl | ⟨h,hne⟩
  ·simp only [wlσ,Nat.reduceEqDiff,reduceIte,atN,hp,Fm.get,and_self,wlP,g2 k rfl];exact arLe_same
  ·simp only [wlσ,Nat.reduceEqDiff,reduceIte,hne,atN,(hfam (by omega)).2.2.1,Fm.get,h,and_self,wlP,g1 k h];exact arLe_same
 ·rcases hcase k hk with rfl | ⟨h,hne⟩
  ·simp only [wlσ,Nat.reduceEqDiff,reduceIte,atN,hb,Fm.get,and_self,wlB,g2 k rfl]
   exact ⟨Nat.le_refl _,rfl,rfl,fun e he=>⟨by simp [bfC,SC.renL,SC.ren,wlσ],by simp [SC.okL,SC.okN]⟩⟩
  ·simp only [wlσ,Nat.reduceEqDiff,reduceIte,hne,atN,(hfam (by omega)).2.2.2.1,Fm.get,h,and_self,wlB,g1 k h]
   exact ⟨Nat.le_refl _,rfl,rfl,fun e he=>⟨by simp [SC.renL,SC.ren,wlσ,hne],by simp [SC.okL,SC.okN]⟩⟩
 ·rcases hcase k hk with rfl | ⟨h,hne⟩
  ·simp only [wlN,g2 k rfl] at he
   simp only [wlσ,Nat.reduceEqDiff,reduceIte,atN,hf,Fm.get,he,and_self,wlF,g2 k rfl,bfO];exact arLe_same
  ·simp only [wlN,g1 k h] at he
   simp only [wlσ,Nat.reduceEqDiff,reduceIte,hne,atN,(hfam (by omega)).2.2.2.2,Fm.get,h,wlN,he,and_self,wlF,g1 k h];exact arLe_same
 ·simp only [wlσ,Nat.reduceEqDiff,reduceIte,atN,hm,Fm.get,and_self]
  exact ⟨rfl,rfl,hg⟩
 ·simp only [wlσ,Nat.reduceEqDiff,reduceIte,atN,ht,Fm.get,and_self]
  exact arLe_same
def wlρ (n a w r p b f m t:Nat) (y:Nm):Nm:=if y.1=3 then y else if y.1=a then (11,y.2) else if y.1=w then (12,n,0) else if y.1=r then (13,n,0) else if y.1=p then (14,n,0) else if y.1=b then (15,n,0) else if y.1=f then (16,n,y.2.1) else if y.1=m then (17,y.2) else if y.1=t then (18,y.2) else y
theorem wl_inj {l:List Sp} {ts:List Tn} {n a w r p b f m t:Nat} (hn:l.length=n+1) (hd:[3,a,w,r,p,b,f,m,t].Nodup) (hno:n=0∨∀ z∈[a,w,r,p,b,f,m,t],z<12∨16<z):InjN (wlσ n a w r p b f m t) (wlS l ts):=by
 have key:∀ x c,atN (wlS l ts) x=some c→wlρ n a w r p b f m t (wlσ n a w r p b f m t x)=x:=by
  intro x c hx
  simp only [List.nodup_cons,List.mem_cons,List.not_mem_nil,or_false,not_or,not_false_eq_true,List.nodup_nil,and_true,and_self] at hd
  obtain ⟨⟨a1,a2,a3,a4,a5,a6,a7,a8⟩,⟨b1,b2,b3,b4,b5,b6,b7⟩,⟨c1,c2,c3,c4,c5,c6⟩,⟨d1,d2,d3,d4,d5⟩,⟨e1,e2,e3,e4⟩,⟨f1,f2,f3⟩,⟨i1,i2⟩,j1⟩:=hd
  have hno2:∀ k,k<n+1→¬ k=n→∀ q,12≤q→q≤16→¬ q=a∧¬ q=w∧¬ q=r∧¬ q=p∧¬ q=b∧¬ q=f∧¬ q=m∧¬ q=t:=fun k hk hne q h1 h2=>by
   rcases hno with h | h
   ·omega
   ·have z:=fun y hy=>h y hy
    simp only [List.mem_cons,List.not_mem_nil,or_false,forall_eq_or_imp,forall_eq] at z
    omega
  simp only [wlS,wlO,List.cons_append,List.nil_append] at hx
  rcases atN_one hx with ⟨rfl,_⟩ | hx
  ·simp [wlσ,wlρ]
  rcases atN_one hx with ⟨rfl,_⟩ | hx
  ·simp [wlσ,wlρ,Ne.symm a1]
  rcases atN_fam hx with ⟨k,hk,rfl,_⟩ | hx
  ·by_cases hkn:k=n
   ·subst hkn;simp [wlσ,wlρ,Ne.symm a2,Ne.symm b1]
   ·obtain ⟨y1,y2,y3,y4,y5,y6,y7,y8⟩:=hno2 k (by omega) hkn 12 (by omega) (by omega)
    simp [wlσ,wlρ,hkn,y1,y2,y3,y4,y5,y6,y7,y8]
  rcases atN_fam hx with ⟨k,hk,rfl,_⟩ | hx
  ·by_cases hkn:k=n
   ·subst hkn;simp [wlσ,wlρ,Ne.symm a3,Ne.symm b2,Ne.symm c1]
   ·obtain ⟨y1,y2,y3,y4,y5,y6,y7,y8⟩:=hno2 k (by omega) hkn 13 (by omega) (by omega)
    simp [wlσ,wlρ,hkn,y1,y2,y3,y4,y5,y6,y7,y8]
  rcases atN_fam hx with ⟨k,hk,rfl,_⟩ | hx
  ·by_cases hkn:k=n
   ·subst hkn;simp [wlσ,wlρ,Ne.symm a4,Ne.symm b3,Ne.symm c2,Ne.symm d1]
   ·obtain ⟨y1,y2,y3,y4,y5,y6,y7,y8⟩:=hno2 k (by omega) hkn 14 (by omega) (by omega)
    simp [wlσ,wlρ,hkn,y1,y2,y3,y4,y5,y6,y7,y8]
  rcases atN_fam hx with ⟨k,hk,rfl,_⟩ | hx
  ·by_cases hkn:k=n
   ·subst hkn;simp [wlσ,wlρ,Ne.symm a5,Ne.symm b4,Ne.symm c3,Ne.symm d2,Ne.symm e1]
   ·obtain ⟨y1,y2,y3,y4,y5,y6,y7,y8⟩:=hno2 k (by omega) hkn 15 (by omega) (by omega)
    simp [wlσ,wlρ,hkn,y1,y2,y3,y4,y5,y6,y7,y8]
  rcases atN_fam2 hx with ⟨k,e,hk,rfl⟩ | hx
  ·by_cases hkn:k=n
   ·subst hkn;simp [wlσ,wlρ,Ne.symm a6,Ne.symm b5,Ne.symm c4,Ne.symm d3,Ne.symm e2,Ne.symm f1]
   ·obtain ⟨y1,y2,y3,y4,y5,y6,y7,y8⟩:=hno2 k (by omega) hkn 16 (by omega) (by omega)
    simp [wlσ,wlρ,hkn,y1,y2,y3,y4,y5,y6,y7,y8]
  rcases atN_one hx with ⟨rfl,_⟩ | hx
  ·simp [wlσ,wlρ,Ne.symm a7,Ne.symm b6,Ne.symm c5,Ne.symm d4,Ne.symm e3,Ne.symm f2,Ne.symm i1]
  rcases atN_one hx with ⟨rfl,_⟩ | hx
  ·simp [wlσ,wlρ,Ne.symm a8,Ne.symm b7,Ne.symm c6,Ne.symm d5,Ne.symm e4,Ne.symm f3,Ne.symm i2,Ne.symm j1]
  ·exact (atN_nil hx).elim
 intro x y c d hx hy e
 have h1:=key x c hx
 have h2:=key y d hy
 rw [← h1,← h2,e]
theorem wlσ_lo {n a w r p b f m t:Nat} {x:Nm} (h:x.1<11):wlσ n a w r p b f m t x=x:=by
 unfold wlσ
 rw [if_neg (by omega),if_neg (by omega),if_neg (by omega)]
 split
 ·rw [if_neg (by omega),if_neg (by omega),if_neg (by omega),if_neg (by omega),if_neg (by omega)]
 ·rfl
theorem wl_arrs {L:Lt} {n a w r p b f m t:Nat} {arrs:List (Nat×Fm ArrF)} (h0:look arrs 0=some (.one (arrOf eI 1 L.words 0))) (h1:look arrs 1=some (.one (nestF 2 L.thr.length))) (h2:look arrs 2=some (.fam L.thr.length fun k=>arrOf Ins.enc 7 (L.thr.getD k []) in0)):ArrsLe (· < 19) (wlσ n a w r p b f m t) arrs (ltA 0 L):=by
 refine ⟨⟨of_decide_eq_true rfl,?_⟩,⟨of_decide_eq_true rfl,?_⟩,⟨of_decide_eq_true rfl,fun k hk=>?_⟩,trivial⟩
 ·rw [wlσ_lo (by decide)];simp only [atN,h0,Fm.get,and_self,if_true];exact arrLe_of
 ·rw [wlσ_lo (by decide)];simp only [atN,Nat.zero_add,h1,Fm.get,and_self,if_true]
  exact ⟨rfl,rfl,fun e _=>⟨by simp only [nestF,SC.renL,SC.ren];rw [wlσ_lo (show (2,e,0).1<11 from (by decide:2<11))],by simp [nestF,SC.okL,SC.okN]⟩,Nat.le_refl _⟩
 ·rw [wlσ_lo (by simp)];simp only [atN,Nat.zero_add,h2,Fm.get,hk,and_self,if_true];exact arrLe_of
theorem wl_same {p:Nat→Prop} {τ:Nat→Nat} {own:Own} {l:List Sp} {ts:List Tn} (hp:∀ i,i<19→p i) (hτ:∀ i,i=0∨i=1∨i=3∨11≤i∧i≤18→τ i=i) (h3:look own 3=some (.one (.bk [.xv (0,0,0),.xv (1,0,0)] 25))) (h11:look own 11=some (.one (.ar l.length 8 (wlC 11 l) 98))) (h12:look own 12=some (.fam l.length (wlW l))) (h13:look own 13=some (.fam l.length (wlR l))) (h14:look own 14=some (.fam l.length (wlP l))) (h15:look own 15=some (.fam l.length (wlB 16 l))) (h16:look own 16=some (.fam2 l.length (wlN l) (wlF l)))
  (h17:look own 17=some (.one (.mp (.arr 110 .i64) .i64 (seenF l)))) (h18:look own 18=some (.one (.ar ts.length 3 (ats Tn.enc ts tn0) 44))):OwnLe p (idσ τ) own (wlS l ts):=by
 have q0:=hτ 0 (by decide);have q1:=hτ 1 (by decide);have q3:=hτ 3 (by decide)
 have q11:=hτ 11 (by decide);have q12:=hτ 12 (by decide);have q13:=hτ 13 (by decide);have q14:=hτ 14 (by decide);have q15:=hτ 15 (by decide);have q16:=hτ 16 (by decide);have q17:=hτ 17 (by decide);have q18:=hτ 18 (by decide)
 have p':=fun i h=>hp i h
 refine ⟨⟨p' 3 (by decide),?_⟩,⟨p' 11 (by decide),?_⟩,⟨p' 12 (by decide),fun k hk=>?_⟩,⟨p' 13 (by decide),fun k hk=>?_⟩,⟨p' 14 (by decide),fun k hk=>?_⟩,⟨p' 15 (by decide),fun k hk=>?_⟩,⟨p' 16 (by decide),fun k e hk he=>?_⟩,⟨p' 17 (by decide),?_⟩,⟨p' 18 (by decide),?_⟩,trivial⟩
 ·simp only [idσ,q3,atN,h3,Fm.get,and_self,if_true]
  exact ⟨by simp [SC.renL,SC.ren,idσ,q0,q1],rfl,by simp [SC.okL,SC.okN,p' 0,p' 1]⟩
 ·simp only [idσ,q11,atN,h11,Fm.get,and_self,if_true]
  exact ⟨Nat.le_refl _,rfl,rfl,fun e _=>⟨by simp only [wlC,SC.renL,SC.ren,idσ,Nat.reduceAdd,q12,q13,q14,q15],by simp [wlC,SC.okL,SC.okN,p' 12,p' 13,p' 14,p' 15]⟩⟩
 ·simp only [idσ,Nat.reduceAdd,q12,atN,h12,Fm.get,hk,and_self,if_true];exact arLe_same
 ·simp only [idσ,Nat.reduceAdd,q13,atN,h13,Fm.get,hk,and_self,if_true];exact arLe_same
 ·simp only [idσ,Nat.reduceAdd,q14,atN,h14,Fm.get,hk,and_self,if_true];exact arLe_same
 ·simp only [idσ,Nat.reduceAdd,q15,atN,h15,Fm.get,hk,and_self,if_true]
  exact ⟨Nat.le_refl _,rfl,rfl,fun e _=>⟨by simp only [SC.renL,SC.ren,idσ,Nat.reduceAdd,q16],by simp [SC.okL,SC.okN,p' 16]⟩⟩
 ·simp only [idσ,Nat.reduceAdd,q16,atN,h16,Fm.get,hk,he,and_self,if_true];exact arLe_same
 ·simp only [idσ,q17,atN,h17,Fm.get,and_self,if_true];exact ⟨rfl,rfl,fun _=>rfl⟩
 ·simp only [idσ,q18,atN,h18,Fm.get,and_self,if_true];exact arLe_same
theorem wfT_sz {L:Lt} {o:Int} {s:LS} (hL:checkB L=true) (h:WfT L o s):LsSz s:=by
 have z:=sz_at hL
 have h1:=h.wf.w;have h2:=h.wf.r;have h3:=h.wf.p;have h4:=h.wf.b
 exact ⟨by omega,by omega,by omega,by omega,fun k hk=>by have:=(h.wf.thr k (by omega)).b;omega⟩
def wlTm (o:Int) (n m i:Nat):List (Nat×SV):=[(1,.c (.v (.int .i64 o))),(2,.c (.ptr (3,0,0) 0)),(9,.c (.mp (17,0,0))),(10,.c (.sl (11,0,0) 8 0 n none)),(11,.c (.sl (18,0,0) 3 0 m none)),(12,.c (.v (.int .i64 i)))]
def ir49:IR:=(.seq (.ops [⟨(some 2),(.box 25 (.t 0)),none⟩,⟨(some 4),(.mv (.k (.c (.v (.slice none 0 0))))),none⟩,⟨(some 5),(.mv (.k (.c (.v (.int .i64 0))))),none⟩]) (.kill [0,3,4,5,6,7,8,9,10,11] (.seq (.seq (.ops [⟨(some 17),(.ld true 2 (.t 2)),none⟩,⟨(some 18),(.mv (.t 1)),none⟩,⟨(some 19),(.call 39 [(.t 17),(.t 18)]),none⟩,⟨(some 6),(.mv (.t 19)),none⟩]) (.kill [17,18,19] (.seq (.ops [⟨(some 20),(.mv (.t 6)),none⟩,⟨(some 21),(.bin .neq (.t 20) (.k (.c (.v (.int .i64 0))))),none⟩]) (.kill [20] (.cond (.t 21) (.seq (.ops [⟨(some 22),(.mv (.t 6)),none⟩,⟨(some 4),(.mv (.k (.c (.v (.slice none 0 0))))),none⟩,⟨(some 5),(.mv (.t 22)),none⟩]) (.kill [1,2,6,21,22] .ret)) .skip))))) (.kill [4,5,6,21] (.seq (.ops [⟨(some 24),(.ld true 2 (.t 2)),none⟩,⟨(some 25),(.call 19 [(.t 24)]),none⟩,⟨(some 23),(.mv (.t 25)),none⟩,⟨(some 26),(.ext 0 (.t 23)),none⟩,⟨(some 27),(.ext 1 (.t 23)),none⟩,⟨(some 7),(.new 32 [(.v (.slice none 0 0)),(.v (.slice none 0 0)),(.v (.slice none 0 0)),(.v (.slice none 0 0))]),none⟩,⟨none,(.st 4 (.t 7) (.t 26)),none⟩,⟨(some 8),(.mv (.t 27)),none⟩]) (.kill [8,23,24,25,26,27] (.seq (.ops [⟨(some 28),(.mkm (.arr 110 .i64) .i64),none⟩,⟨(some 29),(.ld true 4 (.t 7)),none⟩,⟨(some 30),(.call 83 [(.t 29)]),none⟩,⟨none,(.mup (.arr 110 .i64) .i64 (.t 28) (.t 30) (.k (.c (.v (.int .i64 1))))),none⟩,⟨(some 31),(.mv (.t 28)),none⟩,⟨(some 9),(.mv (.t 31)),none⟩]) (.kill [28,29,30,31] (.seq (.ops [⟨(some 32),(.ld true 4 (.t 7)),none⟩,⟨(some 33),(.build [(.v (.slice none 0 0)),(.v (.slice none 0 0)),(.v (.slice none 0 0)),(.v (.slice none 0 0)),(.v (.int .i64 0)),(.v (.int .i64 0)),(.v (.bool false)),(.v (.int .i64 0))] [(0,(4,(.t 32))),(4,(1,(.k (.c (.v (.int .i64 (-1)))))))]),none⟩,⟨(some 34),(.mkSl 98 1 8 [(.v (.slice none 0 0)),(.v (.slice none 0 0)),(.v (.slice none 0 0)),(.v (.slice none 0 0)),(.v (.int .i64 0)),(.v (.int .i64 0)),(.v (.bool false)),(.v (.int .i64 0))] [(0,(8,(.t 33)))]),none⟩,⟨(some 10),(.mv (.t 34)),none⟩]) (.kill [7,32,33,34] (.seq (.ops [⟨(some 35),(.ld true 2 (.t 2)),none⟩,⟨(some 36),(.mv (.t 1)),none⟩,⟨(some 37),(.call 84 [(.t 35),(.t 36)]),none⟩,⟨(some 11),(.mv (.t 37)),none⟩]) (.kill [35,36,37] (.seq (.seq (.ops [⟨(some 12),(.mv (.k (.c (.v (.int .i64 0))))),none⟩]) (.blk 0 (.loop (.seq (.seq (.ops [⟨(some 38),(.mv (.t 12)),none⟩,⟨(some 39),(.mv (.t 10)),none⟩,⟨(some 40),(.len (.t 39)),none⟩,⟨(some 41),(.bin .lss (.t 38) (.t 40)),none⟩]) (.kill [4,5,14,15,16,38,39,40,42,43,44,45,46,47,48,49,50,51,52,53,54,55,56,57,58,59,60,61,62,63,64,65,66,67,68,69,70,71,72,73,74,75,76,77,78,79] (.cond (.t 41) .skip (.exit 0)))) (.kill [41] (.seq (.blk 1 (.seq (.ops [⟨(some 44),(.mv (.t 11)),none⟩,⟨(some 45),(.len (.t 44)),none⟩,⟨(some 46),(.mv (.k (.c (.v (.int .i64 0))))),none⟩]) (.blk 2 (.loop (.seq (.ops [⟨(some 47),(.bin .lss (.t 46) (.t 45)),none⟩]) (.kill [4,5,14,15,16,48,49,50,51,52,53,54,55,56,57,58,59,60,61,62,63,64,65,66,67,68,69,70,71,72,73,74,75,76,77,78,79] (.seq (.cond (.t 47) .skip (.exit 2)) (.kill [47] (.seq (.blk 3 (.seq (.ops [⟨(some 48),(.ia 3 (.t 44) (.t 46)),none⟩,⟨(some 49),(.ld true 3 (.t 48)),none⟩,⟨(some 14),(.new 44 [(.v (.int .i64 0)),(.v (.bool false)),(.v (.int .i64 0))]),none⟩,⟨none,(.st 3 (.t 14) (.t 49)),none⟩]) (.kill [48,49] (.seq (.ops [⟨(some 50),(.mv (.t 10)),none⟩,⟨(some 51),(.mv (.t 12)),none⟩,⟨(some 52),(.ia 8 (.t 50) (.t 51)),none⟩,⟨(some 53),(.fa 0 (.t 52)),none⟩,⟨(some 54),(.ld true 4 (.t 53)),none⟩,⟨(some 55),(.call 46 [(.t 54)]),none⟩,⟨(some 15),(.new 32 [(.v (.slice none 0 0)),(.v (.slice none 0 0)),(.v (.slice none 0 0)),(.v (.slice none 0 0))]),none⟩,⟨none,(.st 4 (.t 15) (.t 55)),none⟩]) (.kill [50,51,52,53,54,55] (.seq (.seq (.ops [⟨(some 56),(.ld true 2 (.t 2)),none⟩,⟨(some 57),(.mv (.t 1)),none⟩,⟨(some 58),(.ld true 3 (.t 14)),none⟩,⟨(some 59),(.call 40 [(.t 56),(.t 57),(.t 15),(.t 58)]),none⟩,⟨(some 60),(.un .not (.t 59)),none⟩]) (.kill [56,57,58,59] (.cond (.t 60) (.exit 3) .skip))) (.kill [60] (.seq (.ops [⟨(some 61),(.ld true 4 (.t 15)),none⟩,⟨(some 62),(.call 83 [(.t 61)]),none⟩,⟨(some 16),(.new 132 [(.v (.int .i64 0)),(.v (.int .i64 0)),(.v (.int .i64 0)),(.v (.int .i64 0)),(.v (.int .i64 0)),(.v (.int .i64 0)),(.v (.int .i64 0)),(.v (.int .i64 0)),(.v (.int .i64 0)),(.v (.int .i64 0)),(.v (.int .i64 0)),(.v (.int .i64 0)),(.v (.int .i64 0)),(.v (.int .i64 0)),(.v (.int .i64 0)),(.v (.int .i64 0)),(.v (.int .i64 0)),(.v (.int .i64 0)),(.v (.int .i64 0)),(.v (.int .i64 0)),(.v (.int .i64 0)),(.v (.int .i64 0)),(.v (.int .i64 0)),(.v (.int .i64 0)),(.v (.int .i64 0)),(.v (.int .i64 0)),(.v (.int .i64 0)),(.v (.int .i64 0)),(.v (.int .i64 0)),(.v (.int .i64 0)),(.v (.int .i64 0)),(.v (.int .i64 0)),(.v (.int .i64 0)),(.v (.int .i64 0)),(.v (.int .i64 0)),(.v (.int .i64 0)),(.v (.int .i64 0)),(.v (.int .i64 0)),(.v (.int .i64 0)),(.v (.int .i64 0)),(.v (.int .i64 0)),(.v (.int .i64 0)),(.v (.int .i64 0)),(.v (.int .i64 0)),(.v (.int .i64 0)),(.v (.int .i64 0)),(.v (.int .i64 0)),(.v (.int .i64 0)),(.v (.int .i64 0)),(.v (.int .i64 0)),(.v (.int .i64 0)),(.v (.int .i64 0)),(.v (.int .i64 0)),(.v (.int .i64 0)),(.v (.int .i64 0)),(.v (.int .i64 0)),(.v (.int .i64 0)),(.v (.int .i64 0)),(.v (.int .i64 0)),(.v (.int .i64 0)),(.v (.int .i64 0)),(.v (.int .i64 0)),(.v (.int .i64 0)),(.v (.int .i64 0)),(.v (.int .i64 0)),(.v (.int .i64 0)),(.v (.int .i64 0)),(.v (.int .i64 0)),(.v (.int .i64 0)),(.v (.int .i64 0)),(.v (.int .i64 0)),(.v (.int .i64 0)),(.v (.int .i64 0)),(.v (.int .i64 0)),(.v (.int .i64 0)),(.v (.int .i64 0)),(.v (.int .i64 0)),(.v (.int .i64 0)),(.v (.int .i64 0)),(.v (.int .i64 0)),(.v (.int .i64 0)),(.v (.int .i64 0)),(.v (.int .i64 0)),(.v (.int .i64 0)),(.v (.int .i64 0)),(.v (.int .i64 0)),(.v (.int .i64 0)),(.v (.int .i64 0)),(.v (.int .i64 0)),(.v (.int .i64 0)),(.v (.int .i64 0)),(.v (.int .i64 0)),(.v (.int .i64 0)),(.v (.int .i64 0)),(.v (.int .i64 0)),(.v (.int .i64 0)),(.v (.int .i64 0)),(.v (.int .i64 0)),(.v (.int .i64 0)),(.v (.int .i64 0)),(.v (.int .i64 0)),(.v (.int .i64 0)),(.v (.int .i64 0)),(.v (.int .i64 0)),(.v (.int .i64 0)),(.v (.int .i64 0)),(.v (.int .i64 0)),(.v (.int .i64 0)),(.v (.int .i64 0)),(.v (.int .i64 0))]),none⟩,⟨none,(.st 110 (.t 16) (.t 62)),none⟩]) (.kill [61,62] (.seq (.seq (.ops [⟨(some 63),(.mv (.t 9)),none⟩,⟨(some 64),(.ld true 110 (.t 16)),none⟩,⟨(some 65),(.lkp (.arr 110 .i64) .i64 false (.t 63) (.t 64)),none⟩,⟨(some 66),(.bin .gtr (.t 65) (.k (.c (.v (.int .i64 0))))),none⟩]) (.kill [63,64,65] (.cond (.t 66) (.exit 3) .skip))) (.kill [66] (.seq (.ops [⟨(some 67),(.mv (.t 9)),none⟩,⟨(some 68),(.ld true 110 (.t 16)),none⟩,⟨none,(.mup (.arr 110 .i64) .i64 (.t 67) (.t 68) (.k (.c (.v (.int .i64 1))))),none⟩]) (.kill [16,67,68] (.seq (.seq (.ops [⟨(some 69),(.mv (.t 10)),none⟩,⟨(some 70),(.len (.t 69)),none⟩,⟨(some 71),(.bin .eql (.t 70) (.k (.c (.v (.int .i64 30000))))),none⟩]) (.kill [69,70] (.cond (.t 71) (.seq (.ops [⟨(some 4),(.mv (.k (.c (.v (.slice none 0 0))))),none⟩,⟨(some 5),(.mv (.k (.c (.v (.int .i64 192))))),none⟩]) (.kill [1,2,9,10,11,12,14,15,44,45,46,71] .ret)) .skip))) (.kill [4,5,71] (.ops [⟨(some 72),(.mv (.t 10)),none⟩,⟨(some 73),(.ld true 4 (.t 15)),none⟩,⟨(some 74),(.mv (.t 12)),none⟩,⟨(some 75),(.ld true 3 (.t 14)),none⟩,⟨(some 76),(.build [(.v (.slice none 0 0)),(.v (.slice none 0 0)),(.v (.slice none 0 0)),(.v (.slice none 0 0)),(.v (.int .i64 0)),(.v (.int .i64 0)),(.v (.bool false)),(.v (.int .i64 0))] [(0,(4,(.t 73))),(4,(1,(.t 74))),(5,(3,(.t 75)))]),none⟩,⟨(some 77),(.mkSl 98 1 8 [(.v (.slice none 0 0)),(.v (.slice none 0 0)),(.v (.slice none 0 0)),(.v (.slice none 0 0)),(.v (.int .i64 0)),(.v (.int .i64 0)),(.v (.bool false)),(.v (.int .i64 0))] [(0,(8,(.t 76)))]),none⟩,⟨(some 78),(.app 98 8 128 [(.v (.slice none 0 0)),(.v (.slice none 0 0)),(.v (.slice none 0 0)),(.v (.slice none 0 0)),(.v (.int .i64 0)),(.v (.int .i64 0)),(.v (.bool false)),(.v (.int .i64 0))] (.t 72) (.t 77)),none⟩,⟨(some 10),(.mv (.t 78)),none⟩])))))))))))))))) (.kill [4,5,14,15,16,48,49,50,51,52,53,54,55,56,57,58,59,60,61,62,63,64,65,66,67,68,69,70,71,72,73,74,75,76,77,78] (.ops [⟨(some 79),(.bin .add (.t 46) (.k (.c (.v (.int .i64 1))))),none⟩,⟨(some 46),(.mv (.t 79)),none⟩]))))))))))) (.kill [4,5,14,15,16,44,45,46,47,48,49,50,51,52,53,54,55,56,57,58,59,60,61,62,63,64,65,66,67,68,69,70,71,72,73,74,75,76,77,78,79] (.ops [⟨(some 42),(.mv (.t 12)),none⟩,⟨(some 43),(.bin .add (.t 42) (.k (.c (.v (.int .i64 1))))),none⟩,⟨(some 12),(.mv (.t 43)),none⟩])))))))) (.kill [1,2,4,5,9,11,12,14,15,16,38,39,40,41,42,43,44,45,46,47,48,49,50,51,52,53,54,55,56,57,58,59,60,61,62,63,64,65,66,67,68,69,70,71,72,73,74,75,76,77,78,79] (.seq (.ops [⟨(some 80),(.mv (.t 10)),none⟩,⟨(some 4),(.mv (.t 80)),none⟩,⟨(some 5),(.mv (.k (.c (.v (.int .i64 0))))),none⟩]) (.kill [10,80] .ret))))))))))))))))
def rs49:List RS:=[(.t 4),(.t 5)]
def nt49:Nat:=81
def wlT (l:List Sp) (b:Nat):SV:=.tup [(false,[.sl (b,0,0) 8 0 l.length none]),(false,[.v (.int .i64 0)])]
def WalkR (L:Lt) (o:Int) (w:World) (e:Ending) (w' : World):Prop:=match bfs L o with
 | some l=>RetN w 6 (wlT l) (fun b=>wlO b l) e w'
 | none=>RetV w (.tuple #[.slice none 0 0,.int .i64 192]) e w'
theorem ints_of (l:List Int):intsOf .i64 (l.map fun x=>SC.v (.int .i64 x))=some l:=by
 induction l with
 | nil=>rfl
 | cons x l ih=>simp only [List.map_cons,intsOf,ih,reduceIte,Option.map_some]
def picV (s:LS):SV:=.agg ((picS s).map fun x=>.v (.int .i64 x))
theorem picV_den (s:LS) (E:Env):(picV s).den E = .agg ((picS s).map (Value.int .i64)).toArray:=by simp [picV,SV.den,SC.den,Function.comp_def]
theorem pic_len {L:Lt} {o:Int} {s:LS} (hL:checkB L=true) (h:WfT L o s):(picS s).length=110:=padN_len (by
 have h1:=flat_le hL h (Nat.le_refl _)
 have h2:=(sz_at hL).2.1
 unfold flatS
 rw [h.wf.r]
 omega)
set_option maxRecDepth 100000 in
set_option maxHeartbeats 2000000 in
theorem walk_calls (w:World) (v:Value) (L:Lt) (o:Int) (hL:checkB L=true) (ho:1≤o∧o≤3) (hok:LtOk L) (h:LtR w v L):Calls Try.prog 49 #[v,.int .i64 o] w (WalkR L o w):=by
 refine enterLt (A:=[]) (c:=ir49) (rs:=rs49) (nt:=nt49) h [.agg (ltS 0),.c (.v (.int .i64 o))] _ Try.func49 rfl (by kernel_rfl) (by kernel_rfl) rfl (fun E' h0=>by simp only [List.map_cons,List.map_nil,h0];rfl) (of_decide_eq_true rfl) ?_
 generalize hR:WalkR L o w=R
 simp (maxSteps:=2000000) only [ir49,nt49,rs49,go_sem,↓reduceIte,Nat.reduceLT,Nat.reduceLeDiff,Nat.reduceAdd,Nat.reduceSub,Nat.reduceMul,Nat.reduceEqDiff,reduceCtorEq,Int.reduceToNat,Int.reduceEq,Int.reduceBEq,Int.reduceBNe,Int.reduceLT,Int.reduceLE,Int.reduceNeg,Int.reduceAdd,Int.reduceSub,Int.reduceMul,Int.reduceGE,Int.reduceGT,endO,ltA,ltS]
 refine callV (.c (.v (.int .i64 0))) _ (fun E=>rfl) (fun E a w' hs=>by
  have:=look_calls w' _ L o hok (ltL_at hs rfl rfl rfl)
  rw [if_pos hL,if_pos ho] at this
  exact this) ?_
 simp (maxSteps:=2000000) only [go_sem,↓reduceIte,Nat.reduceLT,Nat.reduceLeDiff,Nat.reduceAdd,Nat.reduceSub,Nat.reduceMul,Nat.reduceEqDiff,reduceCtorEq,Int.reduceToNat,Int.reduceEq,Int.reduceBEq,Int.reduceBNe,Int.reduceLT,Int.reduceLE,Int.reduceNeg,Int.reduceAdd,Int.reduceSub,Int.reduceMul,Int.reduceGE,Int.reduceGT,endO]
 refine callN 5 (bgT L) (fun b=>stO b (beginS L)) (fun E a w' hs=>begin_calls w' _ L hL hok (ltL_at hs rfl rfl rfl)) ?_
 simp (maxSteps:=2000000) only [go_sem,↓reduceIte,Nat.reduceLT,Nat.reduceLeDiff,Nat.reduceAdd,Nat.reduceSub,Nat.reduceMul,Nat.reduceEqDiff,reduceCtorEq,Int.reduceToNat,Int.reduceEq,Int.reduceBEq,Int.reduceBNe,Int.reduceLT,Int.reduceLE,Int.reduceNeg,Int.reduceAdd,Int.reduceSub,Int.reduceMul,Int.reduceGE,Int.reduceGT,endO,bgT,stO,stC]
 refine callV (picV (beginS L)) _ (picV_den _) (fun E a w' hs=>pic_calls w' _ L o (beginS L) hL (begin_wfT o) (st_ownG hs 4 8 rfl rfl rfl rfl rfl)) ?_
 have hpl:=pic_len hL (begin_wfT (L:=L) o)
 simp (maxSteps:=2000000) only [go_sem,↓reduceIte,Nat.reduceLT,Nat.reduceLeDiff,Nat.reduceAdd,Nat.reduceSub,Nat.reduceMul,Nat.reduceEqDiff,reduceCtorEq,Int.reduceToNat,Int.reduceEq,Int.reduceBEq,Int.reduceBNe,Int.reduceLT,Int.reduceLE,Int.reduceNeg,Int.reduceAdd,Int.reduceSub,Int.reduceMul,Int.reduceGE,Int.reduceGT,endO,picV,ints_of]
 refine And.intro hpl (And.intro (by decide) ?_)
 refine callN 1 (lsT 3 (turnsL L o).length) (lsO 44 3 Tn.enc (turnsL L o) tn0) (fun E a w' hs=>turns_calls w' _ L o hL (ltL_at hs rfl rfl rfl)) ?_
 simp (maxSteps:=2000000) only [go_sem,↓reduceIte,Nat.reduceLT,Nat.reduceLeDiff,Nat.reduceAdd,Nat.reduceSub,Nat.reduceMul,Nat.reduceEqDiff,reduceCtorEq,Int.reduceToNat,Int.reduceEq,Int.reduceBEq,Int.reduceBNe,Int.reduceLT,Int.reduceLE,Int.reduceNeg,Int.reduceAdd,Int.reduceSub,Int.reduceMul,Int.reduceGE,Int.reduceGT,endO,lsT,lsO]
 have htl:(turnsL L o).length≤28:=by have:=turnsT_len (o:=o) hL L.thr.length;have:=(sz_at hL).2.1;unfold turnsL;omega
 refine loopI (ι:={ p:Nat×List Sp // WkOk L o p.2∧p.1≤p.2.length∧bfsO L o (30001 - p.1) p.1 p.2=bfs L o }) (fun p=>⟨81,wlTm o p.1.2.length (turnsL L o).length p.1.1,wlS p.1.2 (turnsL L o),ltA 0 L,[],19⟩)
  (fun p=>30001 - p.1.1) ⟨(0,[sp1 L]),wkOk_begin,by simp,rfl⟩ (le_nm (wlσ 0 11 4 5 6 7 8 10 12) ⟨rfl,rfl,by simp [wlTm,TmpsLe,look,SV.ren,SC.ren,wlσ,SV.okN,SC.okN],?_,wl_arrs rfl rfl rfl,wl_inj (by simp) (by decide) (Or.inl rfl)⟩) ?_
 ·exact wl_push (l:=[]) (x:=sp1 L) rfl rfl rfl (fun e he=>by omega) rfl rfl rfl rfl rfl rfl rfl (fun q=>by rw [seen_push];rfl) rfl (fun h=>by omega)
 rintro ⟨⟨i,l⟩,hw,hi,hbf⟩
 simp only at hw hi hbf
 simp (maxSteps:=2000000) only [go_sem,↓reduceIte,Nat.reduceLT,Nat.reduceLeDiff,Nat.reduceAdd,Nat.reduceSub,Nat.reduceMul,Nat.reduceEqDiff,reduceCtorEq,Int.reduceToNat,Int.reduceEq,Int.reduceBEq,Int.reduceBNe,Int.reduceLT,Int.reduceLE,Int.reduceNeg,Int.reduceAdd,Int.reduceSub,Int.reduceMul,Int.reduceGE,Int.reduceGT,endO,wlTm,wlS,wlO,ltA]
 refine both (fun hlt=>?_) (fun hge=>?_)
 ·rw [decide_eq_true_eq] at hlt
  have hlt:i<l.length:=by omega
  have hln:=hw.len
  have hbf:(bfsI L o i (turnsL L o) l).bind (bfsO L o (30000 - i) (i+1))=bfs L o:=by
   rw [← hbf,show 30001 - i=(30000 - i)+1 by omega]
   simp only [bfsO,if_pos hlt]
  refine loopI (ι:={ p:Nat×List Sp // WkOk L o p.2∧p.1≤(turnsL L o).length∧i<p.2.length∧(bfsI L o i ((turnsL L o).drop p.1) p.2).bind (bfsO L o (30000 - i) (i+1))=bfs L o }) (fun p=>⟨81,wlTm o p.1.2.length (turnsL L o).length i++[(44,.c (.sl (18,0,0) 3 0 (turnsL L o).length none)),(45,.c (.v (.int .i64 (turnsL L o).length))),(46,.c (.v (.int .i64 (p.1.1:Nat))))],wlS p.1.2 (turnsL L o),ltA 0 L,[],19⟩)
   (fun p=>(turnsL L o).length - p.1.1) ⟨(0,l),hw,Nat.zero_le _,hlt,by rw [List.drop_zero];exact hbf⟩ ?_ ?_
  ·exact le_ren id rfl rfl (by simp [wlTm,TmpsLe,look,SV.ren,SC.ren,idσ,SV.okN,SC.okN]) (wl_same (p:=(· < 19)) (fun i h=>h) (fun _ _=>rfl) rfl rfl rfl rfl rfl rfl rfl rfl rfl) (arr_ltA (p:=(· < 19)) (fun i h=>Nat.lt_of_lt_of_le h (show 3≤19 by decide)) (fun _ _=>rfl) rfl rfl rfl) rfl
  rintro ⟨⟨j,l⟩,hw,hj,hlt,hbf⟩
  simp only at hw hj hlt hbf
  simp (maxSteps:=2000000) only [go_sem,↓reduceIte,Nat.reduceLT,Nat.reduceLeDiff,Nat.reduceAdd,Nat.reduceSub,Nat.reduceMul,Nat.reduceEqDiff,reduceCtorEq,Int.reduceToNat,Int.reduceEq,Int.reduceBEq,Int.reduceBNe,Int.reduceLT,Int.reduceLE,Int.reduceNeg,Int.reduceAdd,Int.reduceSub,Int.reduceMul,Int.reduceGE,Int.reduceGT,endO,wlTm,wlS,wlO,wlC,ltA,ats,Tn.enc]
  refine both (fun hltj=>?_) (fun hge=>?_)
  ·rw [decide_eq_true_eq] at hltj
   have hltj:j<(turnsL L o).length:=by omega
   have hwi:=hw.at hlt
   have hdr:(turnsL L o).drop j=(turnsL L o).getD j tn0 :: (turnsL L o).drop (j+1):=by rw [List.drop_eq_getElem_cons hltj,List.getD_eq_getElem?_getD,List.getElem?_eq_getElem hltj];rfl
   rw [hdr] at hbf
   simp only [bfsI] at hbf
   generalize htj:(turnsL L o).getD j tn0=tj at hbf ⊢
   refine And.intro ⟨hltj,Nat.le_refl _⟩ (And.intro hltj (And.intro ⟨hlt,Nat.le_refl _⟩ (And.intro hlt ?_)))
   refine callN 5 (fun b=>.agg (stC b (l.getD i sp0).s)) (fun b=>stO b (l.getD i sp0).s) (fun E a w' hs=>icopy_calls w' _ (l.getD i sp0).s (wfT_sz hL hwi) (st_ownL hs 11 i hlt rfl rfl rfl rfl rfl)) ?_
   simp (maxSteps:=2000000) only [go_sem,↓reduceIte,Nat.reduceLT,Nat.reduceLeDiff,Nat.reduceAdd,Nat.reduceSub,Nat.reduceMul,Nat.reduceEqDiff,reduceCtorEq,Int.reduceToNat,Int.reduceEq,Int.reduceBEq,Int.reduceBNe,Int.reduceLT,Int.reduceLE,Int.reduceNeg,Int.reduceAdd,Int.reduceSub,Int.reduceMul,Int.reduceGE,Int.reduceGT,endO,stO,stC]
   have hwq:=turn_wfT hL hwi tj
   generalize hsi:(l.getD i sp0).s=si at hwi hwq hbf ⊢
   refine call_leT (S':=⟨81,wlTm o l.length (turnsL L o).length i++[(44,.c (.sl (18,0,0) 3 0 (turnsL L o).length none)),(45,.c (.v (.int .i64 (turnsL L o).length))),(46,.c (.v (.int .i64 j))),(14,.c (.ptr (19,0,0) 0)),(15,.c (.ptr (5,0,0) 0)),(56,.agg (ltS 0)),(57,.c (.v (.int .i64 o))),(58,.agg (tj.enc.map .v))],
     stP si++(wlS l (turnsL L o)++[(19,.one (.bk [.v (.int .i64 tj.thr),.v (.bool tj.out),.v (.int .i64 tj.addr)] 44))]),ltA 0 L,[],26⟩) (vs':=[.agg (ltS 0),.c (.v (.int .i64 o)),.c (.ptr (5,0,0) 0),.agg (tj.enc.map .v)]) [56,57,15,58]
    ?_ ⟨rfl,rfl,rfl,rfl,trivial⟩ ⟨rfl,rfl,rfl,rfl,trivial⟩ ?_
   ·refine le_ren (fun i=>if i=5 then 25 else if 6≤i then (if i≤10 then i+14 else i) else i) rfl rfl (by simp [wlTm,TmpsLe,look,SV.ren,SC.ren,SC.renL,idσ,SV.okN,SC.okN,SC.okL,ltS,Tn.enc]) (ownLe_app ?_ (ownLe_app (wl_same (fun i h=>Nat.lt_of_lt_of_le h (show 19≤26 by decide)) (fun i h=>by rw [if_neg (by omega)];split;rw [if_neg (by omega)];rfl) rfl rfl rfl rfl rfl rfl rfl rfl rfl) ?_)) (arr_ltA (p:=(· < 26)) (fun i h=>Nat.lt_of_lt_of_le h (show 3≤26 by decide)) (fun i h=>by rw [if_neg (by omega),if_neg (by omega)]) rfl rfl rfl) rfl
    ·simp +contextual [stP,stO,stC,OwnLe,BlkLeO,BlkLe,atN,look,Fm.get,idσ,SC.renL,SC.ren,SC.okL,SC.okN,renL_v,okL_v,ren_ats,ok_ats,bfC,bfO]
    ·simp [OwnLe,BlkLeO,BlkLe,atN,look,Fm.get,idσ,SC.renL,SC.ren,SC.okL,SC.okN]
   refine call_intro (cr_own 11 (stP si) (ltA 0 L) (show 11≤26 by decide) (stP_plain _) (stP_le (fun i h=>h) (fun _ _=>rfl) rfl rfl rfl rfl rfl rfl) (by simp +contextual [ltA,ArrsLe,ArrLeO,atN,look,Fm.get,idσ,arrLe_of,arrLe_0,arrLe_nest]) stE_key (fun E w h=>iturn_own w E L o _ tj 10 hL hwi.wf (by omega) h)) (lt11 (show 11≤26 by decide)) ?_
   generalize turnS L o si tj=q at hwq hbf ⊢
   simp (maxSteps:=2000000) only [go_sem,↓reduceIte,Nat.reduceLT,Nat.reduceLeDiff,Nat.reduceAdd,Nat.reduceSub,Nat.reduceMul,Nat.reduceEqDiff,reduceCtorEq,Int.reduceToNat,Int.reduceEq,Int.reduceBEq,Int.reduceBNe,Int.reduceLT,Int.reduceLE,Int.reduceNeg,Int.reduceAdd,Int.reduceSub,Int.reduceMul,Int.reduceGE,Int.reduceGT,endO,killO,stE,stC,stP,stO,ltA,ltS,wlTm,wlS,wlO,Tn.enc]
   have hwr:=wr_succ (n:=j) (by omega)
   rw [hwr]
   refine both (fun hd=>?_) (fun hd=>?_)
   ·rw [if_neg (by simp at hd;simp [hd])] at hbf
    exact backI ⟨(j+1,l),hw,hltj,hlt,hbf⟩ (by simp only;omega) (le_ren id rfl rfl (by simp [wlTm,TmpsLe,look,SV.ren,SC.ren,idσ,SV.okN,SC.okN]) (wl_same (p:=(· < 19)) (fun i h=>h) (fun _ _=>rfl) rfl rfl rfl rfl rfl rfl rfl rfl rfl) (arr_ltA (p:=(· < 19)) (fun i h=>Nat.lt_of_lt_of_le h (show 3≤19 by decide)) (fun _ _=>rfl) rfl rfl rfl) rfl)
   have hd:q.2=true:=by simpa using hd
   refine callV (picV q.1) _ (picV_den _) (fun E a w' hs=>pic_calls w' _ L o q.1 hL hwq (st_ownG hs 6 26 rfl rfl rfl rfl rfl)) ?_
   have hql:=pic_len hL hwq
   have hM1:len' ((picS q.1).map fun x=>SC.v (.int .i64 x))=110:=by rw [len'_eq,List.length_map,hql]
   have hM2:=ints_of (picS q.1)
   have hM3:take' 110 ((picS q.1).map fun x=>SC.v (.int .i64 x))=(picS q.1).map fun x=>SC.v (.int .i64 x):=by rw [take'_eq,List.take_of_length_le (by rw [List.length_map,hql];exact Nat.le_refl _)]
   have hM4:=allOne_ints (picS q.1)
   simp only [picV]
   generalize (picS q.1).map (fun x=>SC.v (.int .i64 x))=M at hM1 hM2 hM3 hM4 ⊢
   simp (maxSteps:=2000000) only [go_sem,↓reduceIte,Nat.reduceLT,Nat.reduceLeDiff,Nat.reduceAdd,Nat.reduceSub,Nat.reduceMul,Nat.reduceEqDiff,reduceCtorEq,Int.reduceToNat,Int.reduceEq,Int.reduceBEq,Int.reduceBNe,Int.reduceLT,Int.reduceLE,Int.reduceNeg,Int.reduceAdd,Int.reduceSub,Int.reduceMul,Int.reduceGE,Int.reduceGT,endO,hM1,hM2,hM3,hM4]
   rw [hwr]
   have hsi':=seen_iff hw hwq
   refine And.intro hql (both (fun hsn=>?_) (fun hsn=>And.intro hql (both (fun hfull=>?_) (fun hfull=>?_))))
   ·have hmem:q.1∈l.map (·.s):=by
     refine hsi'.1 ?_
     unfold seenF at hsn
     split at hsn
     ·next hm=>exact hm
     ·simp at hsn
    rw [if_neg (fun h=>h.2 hmem)] at hbf
    exact backI ⟨(j+1,l),hw,hltj,hlt,hbf⟩ (by simp only;omega) (le_ren id rfl rfl (by simp [wlTm,TmpsLe,look,SV.ren,SC.ren,idσ,SV.okN,SC.okN]) (wl_same (p:=(· < 19)) (fun i h=>h) (fun _ _=>rfl) rfl rfl rfl rfl rfl rfl rfl rfl rfl) (arr_ltA (p:=(· < 19)) (fun i h=>Nat.lt_of_lt_of_le h (show 3≤19 by decide)) (fun _ _=>rfl) rfl rfl rfl) rfl)
   ·have hnm:q.1 ∉ l.map (·.s):=fun hmem=>by
     unfold seenF at hsn
     rw [if_pos (hsi'.2 hmem)] at hsn
     simp at hsn
    rw [if_pos ⟨hd,hnm⟩,if_pos (by simp at hfull;omega)] at hbf
    have hbf:bfs L o=none:=hbf.symm
    rw [← hR]
    unfold WalkR
    rw [hbf]
    exact retV fun E=>by simp [SV.den,SC.den,den1]
   ·have hnm:q.1 ∉ l.map (·.s):=fun hmem=>by
     unfold seenF at hsn
     rw [if_pos (hsi'.2 hmem)] at hsn
     simp at hsn
    have hlf:l.length≠30000:=by simp at hfull;omega
    rw [if_pos ⟨hd,hnm⟩,if_neg hlf] at hbf
    have hln:=hw.len
    refine And.intro (by decide) (And.intro ⟨Nat.le_refl _,by omega,by simp only [maxLen];omega⟩ ?_)
    refine backI ⟨(j+1,l++[⟨q.1,i,tj⟩]),wkOk_push hw hlf hwq,hltj,by simp only [List.length_append];omega,hbf⟩ (by simp only;omega) (le_nm (wlσ l.length 29 6 7 8 9 26 17 18) ⟨rfl,rfl,by simp [wlTm,TmpsLe,look,SV.ren,SC.ren,wlσ,SV.okN,SC.okN],?_,wl_arrs rfl rfl rfl,wl_inj (by simp) (by decide) (Or.inr (by decide))⟩)
    exact wl_push (l:=l) (x:=⟨q.1,i,tj⟩) rfl rfl rfl (fun e he=>by simp [appAt,he]) (by simp [appAt,take',drop']) rfl rfl rfl rfl rfl rfl (fun a=>by rw [seen_push]) rfl (fun _=>⟨rfl,rfl,rfl,rfl,rfl⟩)
  ·rw [decide_eq_false_iff_not] at hge
   have hjn:j=(turnsL L o).length:=by omega
   subst hjn
   rw [List.drop_length] at hbf
   have hln:=hw.len
   rw [wr_succ (by omega)]
   exact backI ⟨(i+1,l),hw,hlt,by rw [show 30001 - (i+1)=30000 - i by omega];exact hbf⟩ (by simp only;omega) (le_ren id rfl rfl (by simp [wlTm,TmpsLe,look,SV.ren,SC.ren,idσ,SV.okN,SC.okN]) (wl_same (p:=(· < 19)) (fun i h=>h) (fun _ _=>rfl) rfl rfl rfl rfl rfl rfl rfl rfl rfl) (arr_ltA (p:=(· < 19)) (fun i h=>Nat.lt_of_lt_of_le h (show 3≤19 by decide)) (fun _ _=>rfl) rfl rfl rfl) rfl)
 ·rw [decide_eq_false_iff_not] at hge
  have hin:i=l.length:=by omega
  subst hin
  have hln:=hw.len
  have hbf:bfs L o=some l:=by
   rw [← hbf,show 30001 - l.length=(30000 - l.length)+1 by omega]
   simp only [bfsO,Nat.lt_irrefl,if_false]
  rw [← hR]
  unfold WalkR
  rw [hbf]
  refine retN (fun j=>j+11) (fun b=>⟨by simp [wlT,SV.ren,SC.renL,SC.ren,ren1L,ren1,fromσ],by simp [wlT,SV.okN,SC.okL,SC.okN,ok1L,NewIds]⟩) (fun b=>?_) (fun b=>?_)
  ·refine ⟨⟨⟨by omega,by omega⟩,?_⟩,⟨⟨by omega,by omega⟩,fun k hk=>?_⟩,⟨⟨by omega,by omega⟩,fun k hk=>?_⟩,⟨⟨by omega,by omega⟩,fun k hk=>?_⟩,⟨⟨by omega,by omega⟩,fun k hk=>?_⟩,⟨⟨by omega,by omega⟩,fun k e hk he=>?_⟩,trivial⟩
   ·simp only [fromσ,Nat.sub_self,Nat.zero_add,atN,look,Nat.reduceEqDiff,reduceIte,Fm.get,and_self]
    exact ⟨Nat.le_refl _,rfl,rfl,fun e he=>⟨by simp [wlC,SC.renL,SC.ren,fromσ],by simp [wlC,SC.okL,SC.okN,NewIds]⟩⟩
   ·simp only [fromσ,Nat.add_sub_cancel_left,Nat.reduceAdd,atN,look,Nat.reduceEqDiff,reduceIte,Fm.get,hk,and_self];exact arLe_same
   ·simp only [fromσ,Nat.add_sub_cancel_left,Nat.reduceAdd,atN,look,Nat.reduceEqDiff,reduceIte,Fm.get,hk,and_self];exact arLe_same
   ·simp only [fromσ,Nat.add_sub_cancel_left,Nat.reduceAdd,atN,look,Nat.reduceEqDiff,reduceIte,Fm.get,hk,and_self];exact arLe_same
   ·simp only [fromσ,Nat.add_sub_cancel_left,Nat.reduceAdd,atN,look,Nat.reduceEqDiff,reduceIte,Fm.get,hk,and_self]
    exact ⟨Nat.le_refl _,rfl,rfl,fun e he=>⟨by simp [SC.renL,SC.ren,fromσ],by simp [SC.okL,SC.okN,NewIds]⟩⟩
   ·simp only [fromσ,Nat.add_sub_cancel_left,Nat.reduceAdd,atN,look,Nat.reduceEqDiff,reduceIte,Fm.get,hk,he,and_self];exact arLe_same
  ·exact injN_from fun x hx y hy e=>by
    simp [wlO,keysL] at hx hy
    omega
end Go.Proofs.Ytmcpdafmkkjlcaa.Z
