/- TsoFreshSaid: what its proof is made of. No condition. -/
import Derived.Test.YtmcpdafmkkjlcaaPkTTsoFreshAM
set_option linter.unusedSimpArgs false
set_option linter.unusedVariables false
namespace Go.Proofs.Ytmcpdafmkkjlcaa.Z
open Go Go.RowKit
set_option maxRecDepth 100000 in
set_option maxHeartbeats 8000000 in
theorem rturn_pos (w:World) (E:Env) (L:Lt) (o:Int) (s:LS) (t:Tn) (N:Nat) (hL:checkB L=true) (hwf:WfS L o N s) (hN:N≤100000) (hz:t.thr≠0) (h:Handed w E 11 (stP s) (ltA 0 L)) :
  Calls Try.prog 25 (([.agg (ltS 0),.c (.v (.int .i64 o)),.c (.ptr (5,0,0) 0),.agg (t.enc.map .v)]:List SV).map (SV.den E)).toArray w (EffR w E 11 (takesO E (stP s)) (.c (.bo (turnS L o s t).2)) 1 fun b=>killO [10]++stE b (turnS L o s t).1):=by
 refine enterO (c:=ir25) (rs:=rs25) (nt:=nt25) h _ Try.func25 rfl (by kernel_rfl) (by kernel_rfl) rfl (by simp [okVs,SV.okN,SC.okN,SC.okL,okL_v,ltS]) (of_decide_eq_true rfl) ?_
 generalize hR:EffR w E 11 (takesO E (stP s)) (.c (.bo (turnS L o s t).2)) 1 (fun b=>killO [10]++stE b (turnS L o s t).1)=R
 generalize hW:takesO E (stP s)=W
 obtain ⟨z1,z2,z3,z4⟩:=sz_at hL
 obtain ⟨lw,lr,lp,lb,hthr⟩:=hwf
 obtain ⟨thr,out,addr⟩:=t
 have hno:∀ {S2:St},turnS L o s ⟨thr,out,addr⟩=(s,false)→AgF 11 E∈S2.facts→look S2.own 5=some (.one (.bk (stC 6 s) 32))→look S2.own 6=some (.one (.ar s.words.length 1 (ats eI s.words 0) 3))→look S2.own 7=some (.one (.ar s.regs.length 4 (ats R4.enc s.regs r40) 68)) →
   look S2.own 8=some (.one (.ar s.places.length 1 (ats eI s.places 0) 3))→look S2.own 9=some (.one (.ar s.bufs.length 1 (bfC 10 s) 86))→look S2.own 10=some (.fam s.bufs.length (bfO s))→RetVC (mkO Try.prog w W rs25 R) (.c (.v (.bool false))) S2:=fun e h1 h5 h6 h7 h8 h9 h10=>by
  rw [← hR,← hW,e]
  exact retTurn0 h1 (fun E E'=>by simp [SV.den,SC.den]) h5 h6 h7 h8 h9 h10
 by_cases hk:0≤thr∧thr<L.thr.length
 ·obtain ⟨k,rfl⟩:∃ k:Nat,thr=k:=⟨thr.toNat,by omega⟩
  have hk:k<L.thr.length:=by omega
  have hk0:¬ k=0:=by simpa using hz
  have d1:decide ((k:Int)<0)=false:=decide_eq_false (by omega)
  have d2:decide ((k:Int)≥(L.thr.length:Nat))=false:=decide_eq_false (by omega)
  obtain ⟨p0,p1,pb,psc,ppend⟩:=hthr k hk
  cases out with
  | true =>
   simp (maxSteps:=2000000) only [ir25,nt25,rs25,go_sem,↓condS,↓gateS,↓runOp,↓imp_ft,↓imp_tt,↓imp_ff,↓reduceIte,Nat.reduceLT,Nat.reduceAdd,Nat.reduceEqDiff,reduceCtorEq,ltA,ltS,Tn.enc,d1,d2,stP,stO,stC]
   have ht:turnS L o s ⟨k,true,addr⟩=outS o s k addr:=by
    unfold turnS
    rw [if_pos (by simp only;omega),if_pos rfl]
    simp only [Int.toNat_natCast]
   rw [ht] at hR
   refine call_intro (cr_own 11 (stP s) [] (show 11≤13 by decide) (stP_plain s) (stP_le (fun i h=>h) (fun _ _=>rfl) rfl rfl rfl rfl rfl rfl) trivial stE_key (fun E w h=>rout_own w E o s k addr (by omega) (fun p hp=>by rw [lw];exact ppend p hp) (by omega) h)) (lt11 (show 11≤13 by decide)) ?_
   simp (maxSteps:=2000000) only [go_sem,↓runOp,↓reduceIte,Nat.reduceLT,Nat.reduceAdd,Nat.reduceEqDiff,killO,stE]
   rw [← hR,← hW]
   exact retTurnN 13 (by decide) List.mem_cons_self (fun E E'=>by simp [SV.den,SC.den]) rfl rfl rfl rfl rfl rfl
  | false =>
   simp (maxSteps:=2000000) only [ir25,nt25,rs25,go_sem,↓condS,↓gateS,↓runOp,↓imp_ft,↓imp_tt,↓imp_ff,↓reduceIte,Nat.reduceLT,Nat.reduceAdd,Nat.reduceEqDiff,reduceCtorEq,ltA,ltS,Tn.enc,d1,d2,stP,stO,stC]
   refine draw_vc (by kernel_rfl) (mkTab_ok _ _) (of_decide_eq_true rfl) (of_decide_eq_true rfl) ?_
   repeat (first | simp (maxSteps:=2000000) only [go_sem,↓condS,↓runOp,↓gateD,↓runD,↓reduceIte,Nat.reduceLT,Nat.reduceEqDiff,reduceCtorEq] | rw [dr_cons])
   have hk1:k<s.places.length:=by omega
   have hkr:k<s.regs.length:=by omega
   have hkb:k<s.bufs.length:=by omega
   refine And.intro ⟨hk1,Nat.le_refl _⟩ (And.intro hk1 (And.intro hk (And.intro hk (And.intro hk (both (fun he=>?_) (fun he=>?_))))))
   ·have he:s.places.getD k 0=(L.thr.getD k []).length:=by simpa using he
    exact hno (by unfold turnS;rw [if_pos (by simp only;omega),if_neg (by simp),if_pos (by simpa using he)]) List.mem_cons_self rfl rfl rfl rfl rfl rfl
   have he:¬ s.places.getD k 0=(L.thr.getD k []).length:=by simpa using he
   refine draw_vc (by kernel_rfl) (mkTab_ok _ _) (of_decide_eq_true rfl) (of_decide_eq_true rfl) ?_
   repeat (first | simp (maxSteps:=2000000) only [go_sem,↓runOp,↓gateD,↓runD,↓reduceIte,Nat.reduceLT,Nat.reduceLeDiff,Nat.reduceAdd,Nat.reduceEqDiff,reduceCtorEq,Ins.enc] | rw [dr_cons])
   have hpl:(s.places.getD k 0).toNat<(L.thr.getD k []).length:=by omega
   have hfit:=(fits_at hL hk).2 _ (getD_memE (d:=in0) hpl)
   have hst:turnS L o s ⟨k,false,addr⟩=match stepS o s k ((L.thr.getD k []).getD (s.places.getD k 0).toNat in0) with
    | none=>(s,false)
    | some (s',f)=>({ s' with places:=s'.places.set k (if ((L.thr.getD k []).length:Int)<s'.places.getD k 0+f then ((L.thr.getD k []).length:Int) else s'.places.getD k 0+f) },true):=by
    unfold turnS
    rw [if_pos (by simp only;omega),if_neg (by simp),if_neg (by simpa using he)]
    simp only [Int.toNat_natCast]
    cases stepS o s k ((L.thr.getD k []).getD (s.places.getD k 0).toNat in0) with
    | none=>rfl
    | some q=>obtain ⟨s',f⟩:=q;rfl
   generalize (L.thr.getD k []).getD (s.places.getD k 0).toNat in0=ci at hst hfit
   obtain ⟨kind,reg,ad,val,frm,old,cnt⟩:=ci
   simp only [fitsB,decide_eq_true_eq] at hfit
   obtain ⟨f1,f2,f3,f4,f5,f6⟩:=hfit
   refine And.intro hk (And.intro hk (And.intro ⟨hk1,Nat.le_refl _⟩ (And.intro hk1 (And.intro ⟨hk,by omega,by omega⟩ (And.intro ⟨hk,hpl⟩ (And.intro (by simp) (And.intro (by simp) ?_)))))))
   have hwp:IntKind.i64.wrap (s.places.getD k 0+1)=s.places.getD k 0+1:=wrI (by have:=(fits_at hL hk).1;omega)
   have dn:∀ {n:Int},kind≠n→(kind == n)=false:=fun h=>by simpa using h
   by_cases k1:kind=1
   ·subst k1
    have hg:0≤reg∧reg<4:=f3 (by decide) (by decide)
    have hnr:=nth_r4 (xs:=s.regs) (k:=k) hg
    have had:0≤ad∧ad<s.words.length:=by rw [lw];exact f4 (by decide)
    simp (maxSteps:=2000000) only [go_sem,↓condS,↓imp_tf,↓imp_tt,↓reduceIte,Nat.reduceEqDiff,ir25_62]
    refine draw_vc (by kernel_rfl) (mkTab_ok _ _) (of_decide_eq_true rfl) (of_decide_eq_true rfl) ?_
    repeat (first | simp (maxSteps:=2000000) only [go_sem,↓gateD,↓runD,↓reduceIte,Nat.reduceLT,Nat.reduceEqDiff] | rw [dr_cons])
    repeat (with_reducible refine And.intro (by first | omega | (simp only [maxLen];omega) | (simp;done) | (simp;omega)) ?_)
    refine dcallV (.c (.v (.int .i64 (seeS s k ad)))) _ (fun E=>rfl) (fun E a w' hs=>see_calls w' _ s k ad hkb had (by omega) (see_at hs rfl rfl rfl rfl (fun _=>rfl) (fun _=>rfl))) ?_
    repeat (first | simp (maxSteps:=2000000) only [go_sem,↓gateD,↓runD,↓reduceIte,Nat.reduceLT,Nat.reduceLeDiff,Nat.reduceEqDiff,hk0,Nat.mul_one] | rw [dr_cons])
    repeat (with_reducible refine And.intro (by first | omega | (simp only [maxLen];omega) | (simp;done) | (simp;omega)) ?_)
    refine draw_vc (by kernel_rfl) (mkTab_ok _ _) (of_decide_eq_true rfl) (of_decide_eq_true rfl) ?_
    repeat (first | simp (maxSteps:=2000000) only [go_sem,↓runOp,↓gateD,↓runD,↓reduceIte,Nat.reduceLT,Nat.reduceLeDiff,Nat.reduceEqDiff,reduceCtorEq,hwp] | rw [dr_cons])
    repeat (with_reducible refine And.intro (by first | omega | (simp only [maxLen];omega) | (simp;done) | (simp;omega)) ?_)
    have hsx:stepS o s k ⟨1,reg,ad,val,frm,old,cnt⟩=some (⟨s.words,s.regs.set k ((s.regs.getD k r40).put reg (seeS s k ad)),s.places,s.bufs⟩,1):=by simp [stepS]
    rw [← hR,← hW,hst,hsx]
    exact retTurnP (s:=⟨s.words,s.regs.set k ((s.regs.getD k r40).put reg (seeS s k ad)),_,s.bufs⟩) (s0:=s) List.mem_cons_self (fun E E'=>by simp [SV.den,SC.den]) (by simp) (by simp) (by simp) rfl rfl rfl rfl rfl (put_r4 hkr hg) rfl (set_atsT (enc:=eI) hk1) rfl rfl
   by_cases k2:kind=2
   ·subst k2
    have had:0≤ad∧ad<s.words.length:=by rw [lw];exact f4 (by decide)
    have hfm:=f5 rfl
    have hadn:ad.toNat<s.words.length:=by omega
    by_cases hfr:frm≥0
    ·have dfr:decide (frm≥0)=true:=decide_eq_true hfr
     have hnf:=nth_r4 (xs:=s.regs) (k:=k) (r:=frm) ⟨hfr,hfm.2⟩
     by_cases ho:o=1
     ·have do1:(o == 1)=true:=by simpa using ho
      simp (maxSteps:=2000000) only [go_sem,↓condS,↓runOp,↓imp_ft,↓imp_tf,↓imp_tt,↓imp_ff,↓reduceIte,Nat.reduceLT,Nat.reduceEqDiff,Int.reduceBEq,ir25_62,dfr]
      refine draw_vc (by kernel_rfl) (mkTab_ok _ _) (of_decide_eq_true rfl) (of_decide_eq_true rfl) ?_
      repeat (first | simp (maxSteps:=2000000) only [go_sem,↓condS,↓runOp,↓gateD,↓runD,↓imp_tf,↓imp_tt,↓reduceIte,Nat.reduceLT,Nat.reduceEqDiff,hk0,hnf,Nat.mul_one,do1] | rw [dr_cons])
      repeat (with_reducible refine And.intro (by first | omega | (simp only [maxLen];omega) | (simp;done) | (simp;omega)) ?_)
      refine draw_vc (by kernel_rfl) (mkTab_ok _ _) (of_decide_eq_true rfl) (of_decide_eq_true rfl) ?_
      repeat (first | simp (maxSteps:=2000000) only [go_sem,↓gateD,↓runD,↓reduceIte,Nat.reduceLT,Nat.reduceLeDiff,Nat.reduceEqDiff] | rw [dr_cons])
      repeat (with_reducible refine And.intro (by first | omega | (simp only [maxLen];omega) | (simp;done) | (simp;omega)) ?_)
      refine draw_vc (by kernel_rfl) (mkTab_ok _ _) (of_decide_eq_true rfl) (of_decide_eq_true rfl) ?_
      repeat (first | simp (maxSteps:=2000000) only [go_sem,↓runOp,↓gateD,↓runD,↓reduceIte,Nat.reduceLT,Nat.reduceLeDiff,Nat.reduceEqDiff,reduceCtorEq,hwp] | rw [dr_cons])
      repeat (with_reducible refine And.intro (by first | omega | (simp only [maxLen];omega) | (simp;done) | (simp;omega)) ?_)
      have hsx:stepS o s k ⟨2,reg,ad,val,frm,old,cnt⟩=some (⟨s.words.set ad.toNat ((s.regs.getD k r40).get frm),s.regs,s.places,s.bufs⟩,1):=by rw [st2,if_pos ho,if_pos hfr]
      rw [← hR,← hW,hst,hsx]
      exact retTurnP (s:=⟨s.words.set ad.toNat ((s.regs.getD k r40).get frm),s.regs,_,s.bufs⟩) (s0:=s) List.mem_cons_self (fun E E'=>by simp [SV.den,SC.den]) (by simp) rfl (by simp) rfl rfl rfl (set_atsT (enc:=eI) hadn) rfl rfl rfl (set_atsT (enc:=eI) hk1) rfl rfl
     ·have do1:(o == 1)=false:=by simpa using ho
      simp (maxSteps:=2000000) only [go_sem,↓condS,↓runOp,↓imp_ft,↓imp_tf,↓imp_tt,↓imp_ff,↓reduceIte,Nat.reduceLT,Nat.reduceEqDiff,Int.reduceBEq,ir25_62,dfr]
      refine draw_vc (by kernel_rfl) (mkTab_ok _ _) (of_decide_eq_true rfl) (of_decide_eq_true rfl) ?_
      repeat (first | simp (maxSteps:=2000000) only [go_sem,↓condS,↓runOp,↓gateD,↓runD,↓imp_ft,↓imp_ff,↓reduceIte,Nat.reduceLT,Nat.reduceEqDiff,hk0,hnf,Nat.mul_one,do1] | rw [dr_cons])
      repeat (with_reducible refine And.intro (by first | omega | (simp only [maxLen];omega) | (simp;done) | (simp;omega)) ?_)
      refine draw_vc (by kernel_rfl) (mkTab_ok _ _) (of_decide_eq_true rfl) (of_decide_eq_true rfl) ?_
      repeat (first | simp (maxSteps:=2000000) only [go_sem,↓gateD,↓runD,↓reduceIte,Nat.reduceLT,Nat.reduceLeDiff,Nat.reduceAdd,Nat.reduceMul,Nat.reduceEqDiff,bfC,bfO] | rw [dr_cons])
      repeat (with_reducible refine And.intro (by first | omega | (simp only [maxLen];omega) | (simp;done) | (simp;omega)) ?_)
      refine draw_vc (by kernel_rfl) (mkTab_ok _ _) (of_decide_eq_true rfl) (of_decide_eq_true rfl) ?_
      repeat (first | simp (maxSteps:=2000000) only [go_sem,↓runOp,↓gateD,↓runD,↓reduceIte,Nat.reduceLT,Nat.reduceLeDiff,Nat.reduceEqDiff,reduceCtorEq,hwp] | rw [dr_cons])
      repeat (with_reducible refine And.intro (by first | omega | (simp only [maxLen];omega) | (simp;done) | (simp;omega)) ?_)
      have hsx:stepS o s k ⟨2,reg,ad,val,frm,old,cnt⟩=some (⟨s.words,s.regs,s.places,s.bufs.set k (s.bufs.getD k []++[⟨ad,(s.regs.getD k r40).get frm⟩])⟩,1):=by rw [st2,if_neg ho,if_pos hfr]
      rw [← hR,← hW,hst,hsx]
      exact retTurnA hkb (by decide) List.mem_cons_self (fun E E'=>by simp [SV.den,SC.den]) (by simp) rfl rfl rfl rfl (set_atsT (enc:=eI) hk1) rfl rfl (fun e he=>if_neg he) rfl rfl
    ·have dfr:decide (frm≥0)=false:=decide_eq_false hfr
     by_cases ho:o=1
     ·have do1:(o == 1)=true:=by simpa using ho
      simp (maxSteps:=2000000) only [go_sem,↓condS,↓runOp,↓imp_ft,↓imp_tf,↓imp_tt,↓imp_ff,↓reduceIte,Nat.reduceLT,Nat.reduceEqDiff,Int.reduceBEq,ir25_62,dfr,do1]
      refine draw_vc (by kernel_rfl) (mkTab_ok _ _) (of_decide_eq_true rfl) (of_decide_eq_true rfl) ?_
      repeat (first | simp (maxSteps:=2000000) only [go_sem,↓gateD,↓runD,↓reduceIte,Nat.reduceLT,Nat.reduceLeDiff,Nat.reduceEqDiff] | rw [dr_cons])
      repeat (with_reducible refine And.intro (by first | omega | (simp only [maxLen];omega) | (simp;done) | (simp;omega)) ?_)
      refine draw_vc (by kernel_rfl) (mkTab_ok _ _) (of_decide_eq_true rfl) (of_decide_eq_true rfl) ?_
      repeat (first | simp (maxSteps:=2000000) only [go_sem,↓runOp,↓gateD,↓runD,↓reduceIte,Nat.reduceLT,Nat.reduceLeDiff,Nat.reduceEqDiff,reduceCtorEq,hwp] | rw [dr_cons])
      repeat (with_reducible refine And.intro (by first | omega | (simp only [maxLen];omega) | (simp;done) | (simp;omega)) ?_)
      have hsx:stepS o s k ⟨2,reg,ad,val,frm,old,cnt⟩=some (⟨s.words.set ad.toNat val,s.regs,s.places,s.bufs⟩,1):=by rw [st2,if_pos ho,if_neg hfr]
      rw [← hR,← hW,hst,hsx]
      exact retTurnP (s:=⟨s.words.set ad.toNat val,s.regs,_,s.bufs⟩) (s0:=s) List.mem_cons_self (fun E E'=>by simp [SV.den,SC.den]) (by simp) rfl (by simp) rfl rfl rfl (set_atsT (enc:=eI) hadn) rfl rfl rfl (set_atsT (enc:=eI) hk1) rfl rfl
     ·have do1:(o == 1)=false:=by simpa using ho
      simp (maxSteps:=2000000) only [go_sem,↓condS,↓runOp,↓imp_ft,↓imp_tf,↓imp_tt,↓imp_ff,↓reduceIte,Nat.reduceLT,Nat.reduceEqDiff,Int.reduceBEq,ir25_62,dfr,do1]
      refine draw_vc (by kernel_rfl) (mkTab_ok _ _) (of_decide_eq_true rfl) (of_decide_eq_true rfl) ?_
      repeat (first | simp (maxSteps:=2000000) only [go_sem,↓gateD,↓runD,↓reduceIte,Nat.reduceLT,Nat.reduceLeDiff,Nat.reduceAdd,Nat.reduceMul,Nat.reduceEqDiff,bfC,bfO] | rw [dr_cons])
      repeat (with_reducible refine And.intro (by first | omega | (simp only [maxLen];omega) | (simp;done) | (simp;omega)) ?_)
      refine draw_vc (by kernel_rfl) (mkTab_ok _ _) (of_decide_eq_true rfl) (of_decide_eq_true rfl) ?_
      repeat (first | simp (maxSteps:=2000000) only [go_sem,↓runOp,↓gateD,↓runD,↓reduceIte,Nat.reduceLT,Nat.reduceLeDiff,Nat.reduceEqDiff,reduceCtorEq,hwp] | rw [dr_cons])
      repeat (with_reducible refine And.intro (by first | omega | (simp only [maxLen];omega) | (simp;done) | (simp;omega)) ?_)
      have hsx:stepS o s k ⟨2,reg,ad,val,frm,old,cnt⟩=some (⟨s.words,s.regs,s.places,s.bufs.set k (s.bufs.getD k []++[⟨ad,val⟩])⟩,1):=by rw [st2,if_neg ho,if_neg hfr]
      rw [← hR,← hW,hst,hsx]
      exact retTurnA hkb (by decide) List.mem_cons_self (fun E E'=>by simp [SV.den,SC.den]) (by simp) rfl rfl rfl rfl (set_atsT (enc:=eI) hk1) rfl rfl (fun e he=>if_neg he) rfl rfl
   by_cases k3:kind=3
   ·subst k3
    have hg:0≤reg∧reg<4:=f3 (by decide) (by decide)
    have hnr:=nth_r4 (xs:=s.regs) (k:=k) hg
    have had:0≤ad∧ad<s.words.length:=by rw [lw];exact f4 (by decide)
    have hadn:ad.toNat<s.words.length:=by omega
    by_cases hbf:(s.bufs.getD k []).length>0
    ·have dbf:decide (((s.bufs.getD k []).length:Int)>0)=true:=decide_eq_true (by omega)
     simp (maxSteps:=2000000) only [go_sem,↓condS,↓runOp,↓imp_ft,↓imp_tf,↓imp_tt,↓imp_ff,↓reduceIte,Nat.reduceLT,Nat.reduceEqDiff,Int.reduceBEq,ir25_62,bfC,dbf]
     repeat (with_reducible refine And.intro (by first | omega | (simp only [maxLen];omega) | (simp;done) | (simp;omega)) ?_)
     exact hno (by rw [hst,st3,if_pos hbf]) List.mem_cons_self rfl rfl rfl rfl rfl rfl
    have dbf:decide (((s.bufs.getD k []).length:Int)>0)=false:=decide_eq_false (by omega)
    simp (maxSteps:=2000000) only [go_sem,↓condS,↓runOp,↓imp_ft,↓imp_tf,↓imp_tt,↓imp_ff,↓reduceIte,Nat.reduceLT,Nat.reduceEqDiff,Int.reduceBEq,ir25_62,bfC,dbf]
    repeat (with_reducible refine And.intro (by first | omega | (simp only [maxLen];omega) | (simp;done) | (simp;omega)) ?_)
    refine draw_vc (by kernel_rfl) (mkTab_ok _ _) (of_decide_eq_true rfl) (of_decide_eq_true rfl) ?_
    repeat (first | simp (maxSteps:=2000000) only [go_sem,↓gateD,↓runD,↓reduceIte,Nat.reduceLT,Nat.reduceLeDiff,Nat.reduceEqDiff,hk0,Nat.mul_one] | rw [dr_cons])
    repeat (with_reducible refine And.intro (by first | omega | (simp only [maxLen];omega) | (simp;done) | (simp;omega)) ?_)
    rw [put_r4 hkr hg]
    refine draw_vc (by kernel_rfl) (mkTab_ok _ _) (of_decide_eq_true rfl) (of_decide_eq_true rfl) ?_
    repeat (first | simp (maxSteps:=2000000) only [go_sem,↓condS,↓gateD,↓runD,↓reduceIte,Nat.reduceLT,Nat.reduceEqDiff] | rw [dr_cons])
    repeat (with_reducible refine And.intro (by first | omega | (simp only [maxLen];omega) | (simp;done) | (simp;omega)) ?_)
    refine both (fun hq=>?_) (fun hq=>?_)
    ·have hq:s.words.getD ad.toNat 0=old:=by simpa using hq
     refine draw_vc (by kernel_rfl) (mkTab_ok _ _) (of_decide_eq_true rfl) (of_decide_eq_true rfl) ?_
     repeat (first | simp (maxSteps:=2000000) only [go_sem,↓gateD,↓runD,↓reduceIte,Nat.reduceLT,Nat.reduceLeDiff,Nat.reduceEqDiff] | rw [dr_cons])
     repeat (with_reducible refine And.intro (by first | omega | (simp only [maxLen];omega) | (simp;done) | (simp;omega)) ?_)
     refine draw_vc (by kernel_rfl) (mkTab_ok _ _) (of_decide_eq_true rfl) (of_decide_eq_true rfl) ?_
     repeat (first | simp (maxSteps:=2000000) only [go_sem,↓gateD,↓runD,↓reduceIte,Nat.reduceLT,Nat.reduceLeDiff,Nat.reduceEqDiff,hk0,Nat.mul_one] | rw [dr_cons])
     repeat (with_reducible refine And.intro (by first | omega | (simp only [maxLen];omega) | (simp;done) | (simp;omega)) ?_)
     refine draw_vc (by kernel_rfl) (mkTab_ok _ _) (of_decide_eq_true rfl) (of_decide_eq_true rfl) ?_
     repeat (first | simp (maxSteps:=2000000) only [go_sem,↓runOp,↓gateD,↓runD,↓reduceIte,Nat.reduceLT,Nat.reduceLeDiff,Nat.reduceEqDiff,reduceCtorEq,hwp] | rw [dr_cons])
     repeat (with_reducible refine And.intro (by first | omega | (simp only [maxLen];omega) | (simp;done) | (simp;omega)) ?_)
     have hkr2:k<(s.regs.set k ((s.regs.getD k r40).put reg 0)).length:=by simpa using hkr
     have hsx:stepS o s k ⟨3,reg,ad,val,frm,old,cnt⟩=some (⟨s.words.set ad.toNat val,s.regs.set k ((s.regs.getD k r40).put reg 1),s.places,s.bufs⟩,1):=by rw [st3,if_neg hbf,if_pos hq]
     rw [← hR,← hW,hst,hsx]
     exact retTurnP (s:=⟨s.words.set ad.toNat val,s.regs.set k ((s.regs.getD k r40).put reg 1),_,s.bufs⟩) (s0:=s) List.mem_cons_self (fun E E'=>by simp [SV.den,SC.den]) (by simp) (by simp) (by simp) rfl rfl rfl (set_atsT (enc:=eI) hadn) rfl ((put_r4 hkr2 hg).trans (by rw [put_twice hkr hg])) rfl (set_atsT (enc:=eI) hk1) rfl rfl
    ·have hq:¬ s.words.getD ad.toNat 0=old:=by simpa using hq
     refine draw_vc (by kernel_rfl) (mkTab_ok _ _) (of_decide_eq_true rfl) (of_decide_eq_true rfl) ?_
     repeat (first | simp (maxSteps:=2000000) only [go_sem,↓runOp,↓gateD,↓runD,↓reduceIte,Nat.reduceLT,Nat.reduceLeDiff,Nat.reduceEqDiff,reduceCtorEq,hwp] | rw [dr_cons])
     repeat (with_reducible refine And.intro (by first | omega | (simp only [maxLen];omega) | (simp;done) | (simp;omega)) ?_)
     have hsx:stepS o s k ⟨3,reg,ad,val,frm,old,cnt⟩=some (⟨s.words,s.regs.set k ((s.regs.getD k r40).put reg 0),s.places,s.bufs⟩,1):=by rw [st3,if_neg hbf,if_neg hq]
     rw [← hR,← hW,hst,hsx]
     exact retTurnP (s:=⟨s.words,s.regs.set k ((s.regs.getD k r40).put reg 0),_,s.bufs⟩) (s0:=s) List.mem_cons_self (fun E E'=>by simp [SV.den,SC.den]) rfl (by simp) (by simp) rfl rfl rfl rfl rfl rfl rfl (set_atsT (enc:=eI) hk1) rfl rfl
   by_cases k4:kind=4
   ·subst k4
    by_cases hbf:(s.bufs.getD k []).length>0
    ·have dbf:decide (((s.bufs.getD k []).length:Int)>0)=true:=decide_eq_true (by omega)
     simp (maxSteps:=2000000) only [go_sem,↓condS,↓runOp,↓imp_ft,↓imp_tf,↓imp_tt,↓imp_ff,↓reduceIte,Nat.reduceLT,Nat.reduceEqDiff,Int.reduceBEq,ir25_62,bfC,dbf]
     repeat (with_reducible refine And.intro (by first | omega | (simp only [maxLen];omega) | (simp;done) | (simp;omega)) ?_)
     exact hno (by rw [hst,st4,if_pos hbf]) List.mem_cons_self rfl rfl rfl rfl rfl rfl
    have dbf:decide (((s.bufs.getD k []).length:Int)>0)=false:=decide_eq_false (by omega)
    simp (maxSteps:=2000000) only [go_sem,↓condS,↓runOp,↓imp_ft,↓imp_tf,↓imp_tt,↓imp_ff,↓reduceIte,Nat.reduceLT,Nat.reduceEqDiff,Int.reduceBEq,ir25_62,bfC,dbf]
    repeat (with_reducible refine And.intro (by first | omega | (simp only [maxLen];omega) | (simp;done) | (simp;omega)) ?_)
    refine draw_vc (by kernel_rfl) (mkTab_ok _ _) (of_decide_eq_true rfl) (of_decide_eq_true rfl) ?_
    repeat (first | simp (maxSteps:=2000000) only [go_sem,↓runOp,↓gateD,↓runD,↓reduceIte,Nat.reduceLT,Nat.reduceLeDiff,Nat.reduceEqDiff,reduceCtorEq,hwp] | rw [dr_cons])
    repeat (with_reducible refine And.intro (by first | omega | (simp only [maxLen];omega) | (simp;done) | (simp;omega)) ?_)
    have hsx:stepS o s k ⟨4,reg,ad,val,frm,old,cnt⟩=some (⟨s.words,s.regs,s.places,s.bufs⟩,1):=by rw [st4,if_neg hbf]
    rw [← hR,← hW,hst,hsx]
    exact retTurnP (s:=⟨s.words,s.regs,_,s.bufs⟩) (s0:=s) List.mem_cons_self (fun E E'=>by simp [SV.den,SC.den]) rfl rfl (by simp) rfl rfl rfl rfl rfl rfl rfl (set_atsT (enc:=eI) hk1) rfl rfl
   by_cases k5:kind=5
   ·subst k5
    have hg:0≤reg∧reg<4:=f3 (by decide) (by decide)
    have hnr:=nth_r4 (xs:=s.regs) (k:=k) hg
    simp (maxSteps:=2000000) only [go_sem,↓condS,↓runOp,↓imp_ft,↓imp_tf,↓imp_tt,↓imp_ff,↓reduceIte,Nat.reduceLT,Nat.reduceEqDiff,Int.reduceBEq,ir25_62]
    refine draw_vc (by kernel_rfl) (mkTab_ok _ _) (of_decide_eq_true rfl) (of_decide_eq_true rfl) ?_
    repeat (first | simp (maxSteps:=2000000) only [go_sem,↓gateD,↓runD,↓reduceIte,Nat.reduceLT,Nat.reduceLeDiff,Nat.reduceEqDiff,hk0,Nat.mul_one] | rw [dr_cons])
    repeat (with_reducible refine And.intro (by first | omega | (simp only [maxLen];omega) | (simp;done) | (simp;omega)) ?_)
    refine draw_vc (by kernel_rfl) (mkTab_ok _ _) (of_decide_eq_true rfl) (of_decide_eq_true rfl) ?_
    repeat (first | simp (maxSteps:=2000000) only [go_sem,↓runOp,↓gateD,↓runD,↓reduceIte,Nat.reduceLT,Nat.reduceLeDiff,Nat.reduceEqDiff,reduceCtorEq,hwp] | rw [dr_cons])
    repeat (with_reducible refine And.intro (by first | omega | (simp only [maxLen];omega) | (simp;done) | (simp;omega)) ?_)
    have hsx:stepS o s k ⟨5,reg,ad,val,frm,old,cnt⟩=some (⟨s.words,s.regs.set k ((s.regs.getD k r40).put reg val),s.places,s.bufs⟩,1):=by simp [stepS]
    rw [← hR,← hW,hst,hsx]
    exact retTurnP (s:=⟨s.words,s.regs.set k ((s.regs.getD k r40).put reg val),_,s.bufs⟩) (s0:=s) List.mem_cons_self (fun E E'=>by simp [SV.den,SC.den]) rfl (by simp) (by simp) rfl rfl rfl rfl rfl (put_r4 hkr hg) rfl (set_atsT (enc:=eI) hk1) rfl rfl
   by_cases k6:kind=6
   ·subst k6
    have hg:0≤reg∧reg<4:=f3 (by decide) (by decide)
    have hnr:=nth_r4 (xs:=s.regs) (k:=k) hg
    simp (maxSteps:=2000000) only [go_sem,↓condS,↓runOp,↓imp_ft,↓imp_tf,↓imp_tt,↓imp_ff,↓reduceIte,Nat.reduceLT,Nat.reduceEqDiff,Int.reduceBEq,ir25_62]
    refine draw_vc (by kernel_rfl) (mkTab_ok _ _) (of_decide_eq_true rfl) (of_decide_eq_true rfl) ?_
    repeat (first | simp (maxSteps:=2000000) only [go_sem,↓gateD,↓runD,↓reduceIte,Nat.reduceLT,Nat.reduceLeDiff,Nat.reduceEqDiff,hk0,hnr,Nat.mul_one] | rw [dr_cons])
    repeat (with_reducible refine And.intro (by first | omega | (simp only [maxLen];omega) | (simp;done) | (simp;omega)) ?_)
    refine draw_vc (by kernel_rfl) (mkTab_ok _ _) (of_decide_eq_true rfl) (of_decide_eq_true rfl) ?_
    repeat (first | simp (maxSteps:=2000000) only [go_sem,↓runOp,↓gateD,↓runD,↓reduceIte,Nat.reduceLT,Nat.reduceLeDiff,Nat.reduceEqDiff,reduceCtorEq,hwp] | rw [dr_cons])
    repeat (with_reducible refine And.intro (by first | omega | (simp only [maxLen];omega) | (simp;done) | (simp;omega)) ?_)
    have hsx:stepS o s k ⟨6,reg,ad,val,frm,old,cnt⟩=some (⟨s.words,s.regs.set k ((s.regs.getD k r40).put reg (IntKind.i64.wrap ((s.regs.getD k r40).get reg+val))),s.places,s.bufs⟩,1):=by simp [stepS]
    rw [← hR,← hW,hst,hsx]
    exact retTurnP (s:=⟨s.words,s.regs.set k ((s.regs.getD k r40).put reg (IntKind.i64.wrap ((s.regs.getD k r40).get reg+val))),_,s.bufs⟩) (s0:=s) List.mem_cons_self (fun E E'=>by simp [SV.den,SC.den]) rfl (by simp) (by simp) rfl rfl rfl rfl rfl (put_r4 hkr hg) rfl (set_atsT (enc:=eI) hk1) rfl rfl
   have k7:kind=7:=by omega
   subst k7
   have hg:0≤reg∧reg<4:=f3 (by decide) (by decide)
   have hnr:=nth_r4 (xs:=s.regs) (k:=k) hg
   have hcn:=f6 rfl
   have hw1:IntKind.i64.wrap (1+cnt)=1+cnt:=wrI (by omega)
   have hwc:IntKind.i64.wrap (s.places.getD k 0+(1+cnt))=s.places.getD k 0+(1+cnt):=wrI (by have:=(fits_at hL hk).1;omega)
   simp (maxSteps:=2000000) only [go_sem,↓condS,↓runOp,↓imp_ft,↓imp_tf,↓imp_tt,↓imp_ff,↓reduceIte,Nat.reduceLT,Nat.reduceEqDiff,Int.reduceBEq,ir25_62]
   refine draw_vc (by kernel_rfl) (mkTab_ok _ _) (of_decide_eq_true rfl) (of_decide_eq_true rfl) ?_
   repeat (first | simp (maxSteps:=2000000) only [go_sem,↓condS,↓runOp,↓gateD,↓runD,↓reduceIte,Nat.reduceLT,Nat.reduceEqDiff,hk0,hnr,Nat.mul_one] | rw [dr_cons])
   repeat (with_reducible refine And.intro (by first | omega | (simp only [maxLen];omega) | (simp;done) | (simp;omega)) ?_)
   refine both (fun hq=>?_) (fun hq=>?_)
   ·have hq:(s.regs.getD k r40).get reg=val:=by simpa using hq
    refine draw_vc (by kernel_rfl) (mkTab_ok _ _) (of_decide_eq_true rfl) (of_decide_eq_true rfl) ?_
    repeat (first | simp (maxSteps:=2000000) only [go_sem,↓runOp,↓gateD,↓runD,↓reduceIte,Nat.reduceLT,Nat.reduceLeDiff,Nat.reduceEqDiff,reduceCtorEq,hw1,hwc] | rw [dr_cons])
    repeat (with_reducible refine And.intro (by first | omega | (simp only [maxLen];omega) | (simp;done) | (simp;omega)) ?_)
    have hsx:stepS o s k ⟨7,reg,ad,val,frm,old,cnt⟩=some (⟨s.words,s.regs,s.places,s.bufs⟩,1+cnt):=by rw [st7,if_pos hq]
    rw [← hR,← hW,hst,hsx]
    exact retTurnP (s:=⟨s.words,s.regs,_,s.bufs⟩) (s0:=s) List.mem_cons_self (fun E E'=>by simp [SV.den,SC.den]) rfl rfl (by simp) rfl rfl rfl rfl rfl rfl rfl (set_atsT (enc:=eI) hk1) rfl rfl
   ·have hq:¬ (s.regs.getD k r40).get reg=val:=by simpa using hq
    refine draw_vc (by kernel_rfl) (mkTab_ok _ _) (of_decide_eq_true rfl) (of_decide_eq_true rfl) ?_
    repeat (first | simp (maxSteps:=2000000) only [go_sem,↓runOp,↓gateD,↓runD,↓reduceIte,Nat.reduceLT,Nat.reduceLeDiff,Nat.reduceEqDiff,reduceCtorEq,hwp] | rw [dr_cons])
    repeat (with_reducible refine And.intro (by first | omega | (simp only [maxLen];omega) | (simp;done) | (simp;omega)) ?_)
    have hsx:stepS o s k ⟨7,reg,ad,val,frm,old,cnt⟩=some (⟨s.words,s.regs,s.places,s.bufs⟩,1):=by rw [st7,if_neg hq]
    rw [← hR,← hW,hst,hsx]
    exact retTurnP (s:=⟨s.words,s.regs,_,s.bufs⟩) (s0:=s) List.mem_cons_self (fun E E'=>by simp [SV.den,SC.den]) rfl rfl (by simp) rfl rfl rfl rfl rfl rfl rfl (set_atsT (enc:=eI) hk1) rfl rfl
 ·have hno2:turnS L o s ⟨thr,out,addr⟩=(s,false):=by unfold turnS;rw [if_neg hk]
  simp (maxSteps:=2000000) only [ir25,nt25,rs25,go_sem,↓condS,↓gateS,↓runOp,↓reduceIte,Nat.reduceLT,Nat.reduceAdd,Nat.reduceEqDiff,reduceCtorEq,ltA,ltS,Tn.enc,stP,stO,stC]
  refine both (fun hb=>?_) (fun hb=>?_)
  ·exact hno hno2 List.mem_cons_self rfl rfl rfl rfl rfl rfl
  ·exfalso
   simp at hb
   omega
end Go.Proofs.Ytmcpdafmkkjlcaa.Z
namespace Go.Proofs.Ytmcpdafmkkjlcaa.Z
open Go Go.RowKit
set_option maxRecDepth 100000 in
set_option maxHeartbeats 8000000 in
theorem rturn_zero (w:World) (E:Env) (L:Lt) (o:Int) (s:LS) (t:Tn) (N:Nat) (hL:checkB L=true) (hwf:WfS L o N s) (hN:N≤100000) (hz:t.thr=0) (h:Handed w E 11 (stP s) (ltA 0 L)) :
  Calls Try.prog 25 (([.agg (ltS 0),.c (.v (.int .i64 o)),.c (.ptr (5,0,0) 0),.agg (t.enc.map .v)]:List SV).map (SV.den E)).toArray w (EffR w E 11 (takesO E (stP s)) (.c (.bo (turnS L o s t).2)) 1 fun b=>killO [10]++stE b (turnS L o s t).1):=by
 refine enterO (c:=ir25) (rs:=rs25) (nt:=nt25) h _ Try.func25 rfl (by kernel_rfl) (by kernel_rfl) rfl (by simp [okVs,SV.okN,SC.okN,SC.okL,okL_v,ltS]) (of_decide_eq_true rfl) ?_
 generalize hR:EffR w E 11 (takesO E (stP s)) (.c (.bo (turnS L o s t).2)) 1 (fun b=>killO [10]++stE b (turnS L o s t).1)=R
 generalize hW:takesO E (stP s)=W
 obtain ⟨z1,z2,z3,z4⟩:=sz_at hL
 obtain ⟨lw,lr,lp,lb,hthr⟩:=hwf
 obtain ⟨thr,out,addr⟩:=t
 have hno:∀ {S2:St},turnS L o s ⟨thr,out,addr⟩=(s,false)→AgF 11 E∈S2.facts→look S2.own 5=some (.one (.bk (stC 6 s) 32))→look S2.own 6=some (.one (.ar s.words.length 1 (ats eI s.words 0) 3))→look S2.own 7=some (.one (.ar s.regs.length 4 (ats R4.enc s.regs r40) 68)) →
   look S2.own 8=some (.one (.ar s.places.length 1 (ats eI s.places 0) 3))→look S2.own 9=some (.one (.ar s.bufs.length 1 (bfC 10 s) 86))→look S2.own 10=some (.fam s.bufs.length (bfO s))→RetVC (mkO Try.prog w W rs25 R) (.c (.v (.bool false))) S2:=fun e h1 h5 h6 h7 h8 h9 h10=>by
  rw [← hR,← hW,e]
  exact retTurn0 h1 (fun E E'=>by simp [SV.den,SC.den]) h5 h6 h7 h8 h9 h10
 by_cases hk:0≤thr∧thr<L.thr.length
 ·obtain ⟨k,rfl⟩:∃ k:Nat,thr=k:=⟨thr.toNat,by omega⟩
  have hk:k<L.thr.length:=by omega
  have hk0:k=0:=by simpa using hz
  have d1:decide ((k:Int)<0)=false:=decide_eq_false (by omega)
  have d2:decide ((k:Int)≥(L.thr.length:Nat))=false:=decide_eq_false (by omega)
  obtain ⟨p0,p1,pb,psc,ppend⟩:=hthr k hk
  cases out with
  | true =>
   simp (maxSteps:=2000000) only [ir25,nt25,rs25,go_sem,↓condS,↓gateS,↓runOp,↓imp_ft,↓imp_tt,↓imp_ff,↓reduceIte,Nat.reduceLT,Nat.reduceAdd,Nat.reduceEqDiff,reduceCtorEq,ltA,ltS,Tn.enc,d1,d2,stP,stO,stC]
   have ht:turnS L o s ⟨k,true,addr⟩=outS o s k addr:=by
    unfold turnS
    rw [if_pos (by simp only;omega),if_pos rfl]
    simp only [Int.toNat_natCast]
   rw [ht] at hR
   refine call_intro (cr_own 11 (stP s) [] (show 11≤13 by decide) (stP_plain s) (stP_le (fun i h=>h) (fun _ _=>rfl) rfl rfl rfl rfl rfl rfl) trivial stE_key (fun E w h=>rout_own w E o s k addr (by omega) (fun p hp=>by rw [lw];exact ppend p hp) (by omega) h)) (lt11 (show 11≤13 by decide)) ?_
   simp (maxSteps:=2000000) only [go_sem,↓runOp,↓reduceIte,Nat.reduceLT,Nat.reduceAdd,Nat.reduceEqDiff,killO,stE]
   rw [← hR,← hW]
   exact retTurnN 13 (by decide) List.mem_cons_self (fun E E'=>by simp [SV.den,SC.den]) rfl rfl rfl rfl rfl rfl
  | false =>
   simp (maxSteps:=2000000) only [ir25,nt25,rs25,go_sem,↓condS,↓gateS,↓runOp,↓imp_ft,↓imp_tt,↓imp_ff,↓reduceIte,Nat.reduceLT,Nat.reduceAdd,Nat.reduceEqDiff,reduceCtorEq,ltA,ltS,Tn.enc,d1,d2,stP,stO,stC]
   refine draw_vc (by kernel_rfl) (mkTab_ok _ _) (of_decide_eq_true rfl) (of_decide_eq_true rfl) ?_
   repeat (first | simp (maxSteps:=2000000) only [go_sem,↓condS,↓runOp,↓gateD,↓runD,↓reduceIte,Nat.reduceLT,Nat.reduceEqDiff,reduceCtorEq] | rw [dr_cons])
   have hk1:k<s.places.length:=by omega
   have hkr:k<s.regs.length:=by omega
   have hkb:k<s.bufs.length:=by omega
   refine And.intro ⟨hk1,Nat.le_refl _⟩ (And.intro hk1 (And.intro hk (And.intro hk (And.intro hk (both (fun he=>?_) (fun he=>?_))))))
   ·have he:s.places.getD k 0=(L.thr.getD k []).length:=by simpa using he
    exact hno (by unfold turnS;rw [if_pos (by simp only;omega),if_neg (by simp),if_pos (by simpa using he)]) List.mem_cons_self rfl rfl rfl rfl rfl rfl
   have he:¬ s.places.getD k 0=(L.thr.getD k []).length:=by simpa using he
   refine draw_vc (by kernel_rfl) (mkTab_ok _ _) (of_decide_eq_true rfl) (of_decide_eq_true rfl) ?_
   repeat (first | simp (maxSteps:=2000000) only [go_sem,↓runOp,↓gateD,↓runD,↓reduceIte,Nat.reduceLT,Nat.reduceLeDiff,Nat.reduceAdd,Nat.reduceEqDiff,reduceCtorEq,Ins.enc] | rw [dr_cons])
   have hpl:(s.places.getD k 0).toNat<(L.thr.getD k []).length:=by omega
   have hfit:=(fits_at hL hk).2 _ (getD_memE (d:=in0) hpl)
   have hst:turnS L o s ⟨k,false,addr⟩=match stepS o s k ((L.thr.getD k []).getD (s.places.getD k 0).toNat in0) with
    | none=>(s,false)
    | some (s',f)=>({ s' with places:=s'.places.set k (if ((L.thr.getD k []).length:Int)<s'.places.getD k 0+f then ((L.thr.getD k []).length:Int) else s'.places.getD k 0+f) },true):=by
    unfold turnS
    rw [if_pos (by simp only;omega),if_neg (by simp),if_neg (by simpa using he)]
    simp only [Int.toNat_natCast]
    cases stepS o s k ((L.thr.getD k []).getD (s.places.getD k 0).toNat in0) with
    | none=>rfl
    | some q=>obtain ⟨s',f⟩:=q;rfl
   generalize (L.thr.getD k []).getD (s.places.getD k 0).toNat in0=ci at hst hfit
   obtain ⟨kind,reg,ad,val,frm,old,cnt⟩:=ci
   simp only [fitsB,decide_eq_true_eq] at hfit
   obtain ⟨f1,f2,f3,f4,f5,f6⟩:=hfit
   refine And.intro hk (And.intro hk (And.intro ⟨hk1,Nat.le_refl _⟩ (And.intro hk1 (And.intro ⟨hk,by omega,by omega⟩ (And.intro ⟨hk,hpl⟩ (And.intro (by simp) (And.intro (by simp) ?_)))))))
   have hwp:IntKind.i64.wrap (s.places.getD k 0+1)=s.places.getD k 0+1:=wrI (by have:=(fits_at hL hk).1;omega)
   have dn:∀ {n:Int},kind≠n→(kind == n)=false:=fun h=>by simpa using h
   subst hk0
   by_cases k1:kind=1
   ·subst k1
    have hg:0≤reg∧reg<4:=f3 (by decide) (by decide)
    have hnr:=nth_r4 (xs:=s.regs) (k:=0) hg
    have had:0≤ad∧ad<s.words.length:=by rw [lw];exact f4 (by decide)
    simp (maxSteps:=2000000) only [go_sem,↓condS,↓imp_tf,↓imp_tt,↓reduceIte,Nat.reduceEqDiff,ir25_62]
    refine draw_vc (by kernel_rfl) (mkTab_ok _ _) (of_decide_eq_true rfl) (of_decide_eq_true rfl) ?_
    repeat (first | simp (maxSteps:=2000000) only [go_sem,↓gateD,↓runD,↓reduceIte,Nat.reduceLT,Nat.reduceEqDiff] | rw [dr_cons])
    repeat (with_reducible refine And.intro (by first | omega | (simp only [maxLen];omega) | (simp;done) | (simp;omega)) ?_)
    refine dcallV (.c (.v (.int .i64 (seeS s 0 ad)))) _ (fun E=>rfl) (fun E a w' hs=>see_calls w' _ s 0 ad hkb had (by omega) (see_at hs rfl rfl rfl rfl (fun _=>rfl) (fun _=>rfl))) ?_
    repeat (first | simp (maxSteps:=2000000) only [go_sem,↓gateD,↓runD,↓reduceIte,Nat.reduceLT,Nat.reduceLeDiff,Nat.reduceEqDiff,Int.reduceToNat,Int.reduceLE,Nat.mul_one] | rw [dr_cons])
    repeat (with_reducible refine And.intro (by first | omega | (simp only [maxLen];omega) | (simp;done) | (simp;omega)) ?_)
    refine draw_vc (by kernel_rfl) (mkTab_ok _ _) (of_decide_eq_true rfl) (of_decide_eq_true rfl) ?_
    repeat (first | simp (maxSteps:=2000000) only [go_sem,↓runOp,↓gateD,↓runD,↓reduceIte,Nat.reduceLT,Nat.reduceLeDiff,Nat.reduceEqDiff,reduceCtorEq,Int.reduceToNat,Int.reduceLE,hwp] | rw [dr_cons])
    repeat (with_reducible refine And.intro (by first | omega | (simp only [maxLen];omega) | (simp;done) | (simp;omega)) ?_)
    have hsx:stepS o s 0 ⟨1,reg,ad,val,frm,old,cnt⟩=some (⟨s.words,s.regs.set 0 ((s.regs.getD 0 r40).put reg (seeS s 0 ad)),s.places,s.bufs⟩,1):=by simp [stepS]
    rw [← hR,← hW,hst,hsx]
    exact retTurnP (s:=⟨s.words,s.regs.set 0 ((s.regs.getD 0 r40).put reg (seeS s 0 ad)),_,s.bufs⟩) (s0:=s) List.mem_cons_self (fun E E'=>by simp [SV.den,SC.den]) (by simp) (by simp) (by simp) rfl rfl rfl rfl rfl (put_r4 hkr hg) rfl (set_atsT (enc:=eI) hk1) rfl rfl
   by_cases k2:kind=2
   ·subst k2
    have had:0≤ad∧ad<s.words.length:=by rw [lw];exact f4 (by decide)
    have hfm:=f5 rfl
    have hadn:ad.toNat<s.words.length:=by omega
    by_cases hfr:frm≥0
    ·have dfr:decide (frm≥0)=true:=decide_eq_true hfr
     have hnf:=nth_r4 (xs:=s.regs) (k:=0) (r:=frm) ⟨hfr,hfm.2⟩
     by_cases ho:o=1
     ·have do1:(o == 1)=true:=by simpa using ho
      simp (maxSteps:=2000000) only [go_sem,↓condS,↓runOp,↓imp_ft,↓imp_tf,↓imp_tt,↓imp_ff,↓reduceIte,Nat.reduceLT,Nat.reduceEqDiff,Int.reduceBEq,ir25_62,dfr]
      refine draw_vc (by kernel_rfl) (mkTab_ok _ _) (of_decide_eq_true rfl) (of_decide_eq_true rfl) ?_
      repeat (first | simp (maxSteps:=2000000) only [go_sem,↓condS,↓runOp,↓gateD,↓runD,↓imp_tf,↓imp_tt,↓reduceIte,Nat.reduceLT,Nat.reduceEqDiff,Int.reduceToNat,Int.reduceLE,hnf,Nat.mul_one,do1] | rw [dr_cons])
      repeat (with_reducible refine And.intro (by first | omega | (simp only [maxLen];omega) | (simp;done) | (simp;omega)) ?_)
      refine draw_vc (by kernel_rfl) (mkTab_ok _ _) (of_decide_eq_true rfl) (of_decide_eq_true rfl) ?_
      repeat (first | simp (maxSteps:=2000000) only [go_sem,↓gateD,↓runD,↓reduceIte,Nat.reduceLT,Nat.reduceLeDiff,Nat.reduceEqDiff] | rw [dr_cons])
      repeat (with_reducible refine And.intro (by first | omega | (simp only [maxLen];omega) | (simp;done) | (simp;omega)) ?_)
      refine draw_vc (by kernel_rfl) (mkTab_ok _ _) (of_decide_eq_true rfl) (of_decide_eq_true rfl) ?_
      repeat (first | simp (maxSteps:=2000000) only [go_sem,↓runOp,↓gateD,↓runD,↓reduceIte,Nat.reduceLT,Nat.reduceLeDiff,Nat.reduceEqDiff,reduceCtorEq,Int.reduceToNat,Int.reduceLE,hwp] | rw [dr_cons])
      repeat (with_reducible refine And.intro (by first | omega | (simp only [maxLen];omega) | (simp;done) | (simp;omega)) ?_)
      have hsx:stepS o s 0 ⟨2,reg,ad,val,frm,old,cnt⟩=some (⟨s.words.set ad.toNat ((s.regs.getD 0 r40).get frm),s.regs,s.places,s.bufs⟩,1):=by rw [st2,if_pos ho,if_pos hfr]
      rw [← hR,← hW,hst,hsx]
      exact retTurnP (s:=⟨s.words.set ad.toNat ((s.regs.getD 0 r40).get frm),s.regs,_,s.bufs⟩) (s0:=s) List.mem_cons_self (fun E E'=>by simp [SV.den,SC.den]) (by simp) rfl (by simp) rfl rfl rfl (set_atsT (enc:=eI) hadn) rfl rfl rfl (set_atsT (enc:=eI) hk1) rfl rfl
     ·have do1:(o == 1)=false:=by simpa using ho
      simp (maxSteps:=2000000) only [go_sem,↓condS,↓runOp,↓imp_ft,↓imp_tf,↓imp_tt,↓imp_ff,↓reduceIte,Nat.reduceLT,Nat.reduceEqDiff,Int.reduceBEq,ir25_62,dfr]
      refine draw_vc (by kernel_rfl) (mkTab_ok _ _) (of_decide_eq_true rfl) (of_decide_eq_true rfl) ?_
      repeat (first | simp (maxSteps:=2000000) only [go_sem,↓condS,↓runOp,↓gateD,↓runD,↓imp_ft,↓imp_ff,↓reduceIte,Nat.reduceLT,Nat.reduceEqDiff,Int.reduceToNat,Int.reduceLE,hnf,Nat.mul_one,do1] | rw [dr_cons])
      repeat (with_reducible refine And.intro (by first | omega | (simp only [maxLen];omega) | (simp;done) | (simp;omega)) ?_)
      refine draw_vc (by kernel_rfl) (mkTab_ok _ _) (of_decide_eq_true rfl) (of_decide_eq_true rfl) ?_
      repeat (first | simp (maxSteps:=2000000) only [go_sem,↓gateD,↓runD,↓reduceIte,Nat.reduceLT,Nat.reduceLeDiff,Nat.reduceAdd,Nat.reduceMul,Nat.reduceEqDiff,Int.reduceToNat,Int.reduceLE,bfC,bfO] | rw [dr_cons])
      repeat (with_reducible refine And.intro (by first | omega | (simp only [maxLen];omega) | (simp;done) | (simp;omega)) ?_)
      refine draw_vc (by kernel_rfl) (mkTab_ok _ _) (of_decide_eq_true rfl) (of_decide_eq_true rfl) ?_
      repeat (first | simp (maxSteps:=2000000) only [go_sem,↓runOp,↓gateD,↓runD,↓reduceIte,Nat.reduceLT,Nat.reduceLeDiff,Nat.reduceEqDiff,reduceCtorEq,Int.reduceToNat,Int.reduceLE,hwp] | rw [dr_cons])
      repeat (with_reducible refine And.intro (by first | omega | (simp only [maxLen];omega) | (simp;done) | (simp;omega)) ?_)
      have hsx:stepS o s 0 ⟨2,reg,ad,val,frm,old,cnt⟩=some (⟨s.words,s.regs,s.places,s.bufs.set 0 (s.bufs.getD 0 []++[⟨ad,(s.regs.getD 0 r40).get frm⟩])⟩,1):=by rw [st2,if_neg ho,if_pos hfr]
      rw [← hR,← hW,hst,hsx]
      exact retTurnA hkb (by decide) List.mem_cons_self (fun E E'=>by simp [SV.den,SC.den]) (by simp) rfl rfl rfl rfl (set_atsT (enc:=eI) hk1) rfl rfl (fun e he=>if_neg he) rfl rfl
    ·have dfr:decide (frm≥0)=false:=decide_eq_false hfr
     by_cases ho:o=1
     ·have do1:(o == 1)=true:=by simpa using ho
      simp (maxSteps:=2000000) only [go_sem,↓condS,↓runOp,↓imp_ft,↓imp_tf,↓imp_tt,↓imp_ff,↓reduceIte,Nat.reduceLT,Nat.reduceEqDiff,Int.reduceBEq,ir25_62,dfr,do1]
      refine draw_vc (by kernel_rfl) (mkTab_ok _ _) (of_decide_eq_true rfl) (of_decide_eq_true rfl) ?_
      repeat (first | simp (maxSteps:=2000000) only [go_sem,↓gateD,↓runD,↓reduceIte,Nat.reduceLT,Nat.reduceLeDiff,Nat.reduceEqDiff] | rw [dr_cons])
      repeat (with_reducible refine And.intro (by first | omega | (simp only [maxLen];omega) | (simp;done) | (simp;omega)) ?_)
      refine draw_vc (by kernel_rfl) (mkTab_ok _ _) (of_decide_eq_true rfl) (of_decide_eq_true rfl) ?_
      repeat (first | simp (maxSteps:=2000000) only [go_sem,↓runOp,↓gateD,↓runD,↓reduceIte,Nat.reduceLT,Nat.reduceLeDiff,Nat.reduceEqDiff,reduceCtorEq,Int.reduceToNat,Int.reduceLE,hwp] | rw [dr_cons])
      repeat (with_reducible refine And.intro (by first | omega | (simp only [maxLen];omega) | (simp;done) | (simp;omega)) ?_)
      have hsx:stepS o s 0 ⟨2,reg,ad,val,frm,old,cnt⟩=some (⟨s.words.set ad.toNat val,s.regs,s.places,s.bufs⟩,1):=by rw [st2,if_pos ho,if_neg hfr]
      rw [← hR,← hW,hst,hsx]
      exact retTurnP (s:=⟨s.words.set ad.toNat val,s.regs,_,s.bufs⟩) (s0:=s) List.mem_cons_self (fun E E'=>by simp [SV.den,SC.den]) (by simp) rfl (by simp) rfl rfl rfl (set_atsT (enc:=eI) hadn) rfl rfl rfl (set_atsT (enc:=eI) hk1) rfl rfl
     ·have do1:(o == 1)=false:=by simpa using ho
      simp (maxSteps:=2000000) only [go_sem,↓condS,↓runOp,↓imp_ft,↓imp_tf,↓imp_tt,↓imp_ff,↓reduceIte,Nat.reduceLT,Nat.reduceEqDiff,Int.reduceBEq,ir25_62,dfr,do1]
      refine draw_vc (by kernel_rfl) (mkTab_ok _ _) (of_decide_eq_true rfl) (of_decide_eq_true rfl) ?_
      repeat (first | simp (maxSteps:=2000000) only [go_sem,↓gateD,↓runD,↓reduceIte,Nat.reduceLT,Nat.reduceLeDiff,Nat.reduceAdd,Nat.reduceMul,Nat.reduceEqDiff,Int.reduceToNat,Int.reduceLE,bfC,bfO] | rw [dr_cons])
      repeat (with_reducible refine And.intro (by first | omega | (simp only [maxLen];omega) | (simp;done) | (simp;omega)) ?_)
      refine draw_vc (by kernel_rfl) (mkTab_ok _ _) (of_decide_eq_true rfl) (of_decide_eq_true rfl) ?_
      repeat (first | simp (maxSteps:=2000000) only [go_sem,↓runOp,↓gateD,↓runD,↓reduceIte,Nat.reduceLT,Nat.reduceLeDiff,Nat.reduceEqDiff,reduceCtorEq,Int.reduceToNat,Int.reduceLE,hwp] | rw [dr_cons])
      repeat (with_reducible refine And.intro (by first | omega | (simp only [maxLen];omega) | (simp;done) | (simp;omega)) ?_)
      have hsx:stepS o s 0 ⟨2,reg,ad,val,frm,old,cnt⟩=some (⟨s.words,s.regs,s.places,s.bufs.set 0 (s.bufs.getD 0 []++[⟨ad,val⟩])⟩,1):=by rw [st2,if_neg ho,if_neg hfr]
      rw [← hR,← hW,hst,hsx]
      exact retTurnA hkb (by decide) List.mem_cons_self (fun E E'=>by simp [SV.den,SC.den]) (by simp) rfl rfl rfl rfl (set_atsT (enc:=eI) hk1) rfl rfl (fun e he=>if_neg he) rfl rfl
   by_cases k3:kind=3
   ·subst k3
    have hg:0≤reg∧reg<4:=f3 (by decide) (by decide)
    have hnr:=nth_r4 (xs:=s.regs) (k:=0) hg
    have had:0≤ad∧ad<s.words.length:=by rw [lw];exact f4 (by decide)
    have hadn:ad.toNat<s.words.length:=by omega
    by_cases hbf:(s.bufs.getD 0 []).length>0
    ·have dbf:decide (((s.bufs.getD 0 []).length:Int)>0)=true:=decide_eq_true (by omega)
     simp (maxSteps:=2000000) only [go_sem,↓condS,↓runOp,↓imp_ft,↓imp_tf,↓imp_tt,↓imp_ff,↓reduceIte,Nat.reduceLT,Nat.reduceEqDiff,Int.reduceToNat,Int.reduceBEq,Int.reduceLE,ir25_62,bfC,dbf]
     repeat (with_reducible refine And.intro (by first | omega | (simp only [maxLen];omega) | (simp;done) | (simp;omega)) ?_)
     exact hno (by rw [hst,st3,if_pos hbf]) List.mem_cons_self rfl rfl rfl rfl rfl rfl
    have dbf:decide (((s.bufs.getD 0 []).length:Int)>0)=false:=decide_eq_false (by omega)
    simp (maxSteps:=2000000) only [go_sem,↓condS,↓runOp,↓imp_ft,↓imp_tf,↓imp_tt,↓imp_ff,↓reduceIte,Nat.reduceLT,Nat.reduceEqDiff,Int.reduceToNat,Int.reduceBEq,Int.reduceLE,ir25_62,bfC,dbf]
    repeat (with_reducible refine And.intro (by first | omega | (simp only [maxLen];omega) | (simp;done) | (simp;omega)) ?_)
    refine draw_vc (by kernel_rfl) (mkTab_ok _ _) (of_decide_eq_true rfl) (of_decide_eq_true rfl) ?_
    repeat (first | simp (maxSteps:=2000000) only [go_sem,↓gateD,↓runD,↓reduceIte,Nat.reduceLT,Nat.reduceLeDiff,Nat.reduceEqDiff,Int.reduceToNat,Int.reduceLE,Nat.mul_one] | rw [dr_cons])
    repeat (with_reducible refine And.intro (by first | omega | (simp only [maxLen];omega) | (simp;done) | (simp;omega)) ?_)
    rw [put_r4 hkr hg]
    refine draw_vc (by kernel_rfl) (mkTab_ok _ _) (of_decide_eq_true rfl) (of_decide_eq_true rfl) ?_
    repeat (first | simp (maxSteps:=2000000) only [go_sem,↓condS,↓gateD,↓runD,↓reduceIte,Nat.reduceLT,Nat.reduceEqDiff] | rw [dr_cons])
    repeat (with_reducible refine And.intro (by first | omega | (simp only [maxLen];omega) | (simp;done) | (simp;omega)) ?_)
    refine both (fun hq=>?_) (fun hq=>?_)
    ·have hq:s.words.getD ad.toNat 0=old:=by simpa using hq
     refine draw_vc (by kernel_rfl) (mkTab_ok _ _) (of_decide_eq_true rfl) (of_decide_eq_true rfl) ?_
     repeat (first | simp (maxSteps:=2000000) only [go_sem,↓gateD,↓runD,↓reduceIte,Nat.reduceLT,Nat.reduceLeDiff,Nat.reduceEqDiff] | rw [dr_cons])
     repeat (with_reducible refine And.intro (by first | omega | (simp only [maxLen];omega) | (simp;done) | (simp;omega)) ?_)
     refine draw_vc (by kernel_rfl) (mkTab_ok _ _) (of_decide_eq_true rfl) (of_decide_eq_true rfl) ?_
     repeat (first | simp (maxSteps:=2000000) only [go_sem,↓gateD,↓runD,↓reduceIte,Nat.reduceLT,Nat.reduceLeDiff,Nat.reduceEqDiff,Int.reduceToNat,Int.reduceLE,Nat.mul_one] | rw [dr_cons])
     repeat (with_reducible refine And.intro (by first | omega | (simp only [maxLen];omega) | (simp;done) | (simp;omega)) ?_)
     refine draw_vc (by kernel_rfl) (mkTab_ok _ _) (of_decide_eq_true rfl) (of_decide_eq_true rfl) ?_
     repeat (first | simp (maxSteps:=2000000) only [go_sem,↓runOp,↓gateD,↓runD,↓reduceIte,Nat.reduceLT,Nat.reduceLeDiff,Nat.reduceEqDiff,reduceCtorEq,Int.reduceToNat,Int.reduceLE,hwp] | rw [dr_cons])
     repeat (with_reducible refine And.intro (by first | omega | (simp only [maxLen];omega) | (simp;done) | (simp;omega)) ?_)
     have hkr2:0<(s.regs.set 0 ((s.regs.getD 0 r40).put reg 0)).length:=by simpa using hkr
     have hsx:stepS o s 0 ⟨3,reg,ad,val,frm,old,cnt⟩=some (⟨s.words.set ad.toNat val,s.regs.set 0 ((s.regs.getD 0 r40).put reg 1),s.places,s.bufs⟩,1):=by rw [st3,if_neg hbf,if_pos hq]
     rw [← hR,← hW,hst,hsx]
     exact retTurnP (s:=⟨s.words.set ad.toNat val,s.regs.set 0 ((s.regs.getD 0 r40).put reg 1),_,s.bufs⟩) (s0:=s) List.mem_cons_self (fun E E'=>by simp [SV.den,SC.den]) (by simp) (by simp) (by simp) rfl rfl rfl (set_atsT (enc:=eI) hadn) rfl ((put_r4 hkr2 hg).trans (by rw [put_twice hkr hg])) rfl (set_atsT (enc:=eI) hk1) rfl rfl
    ·have hq:¬ s.words.getD ad.toNat 0=old:=by simpa using hq
     refine draw_vc (by kernel_rfl) (mkTab_ok _ _) (of_decide_eq_true rfl) (of_decide_eq_true rfl) ?_
     repeat (first | simp (maxSteps:=2000000) only [go_sem,↓runOp,↓gateD,↓runD,↓reduceIte,Nat.reduceLT,Nat.reduceLeDiff,Nat.reduceEqDiff,reduceCtorEq,Int.reduceToNat,Int.reduceLE,hwp] | rw [dr_cons])
     repeat (with_reducible refine And.intro (by first | omega | (simp only [maxLen];omega) | (simp;done) | (simp;omega)) ?_)
     have hsx:stepS o s 0 ⟨3,reg,ad,val,frm,old,cnt⟩=some (⟨s.words,s.regs.set 0 ((s.regs.getD 0 r40).put reg 0),s.places,s.bufs⟩,1):=by rw [st3,if_neg hbf,if_neg hq]
     rw [← hR,← hW,hst,hsx]
     exact retTurnP (s:=⟨s.words,s.regs.set 0 ((s.regs.getD 0 r40).put reg 0),_,s.bufs⟩) (s0:=s) List.mem_cons_self (fun E E'=>by simp [SV.den,SC.den]) rfl (by simp) (by simp) rfl rfl rfl rfl rfl rfl rfl (set_atsT (enc:=eI) hk1) rfl rfl
   by_cases k4:kind=4
   ·subst k4
    by_cases hbf:(s.bufs.getD 0 []).length>0
    ·have dbf:decide (((s.bufs.getD 0 []).length:Int)>0)=true:=decide_eq_true (by omega)
     simp (maxSteps:=2000000) only [go_sem,↓condS,↓runOp,↓imp_ft,↓imp_tf,↓imp_tt,↓imp_ff,↓reduceIte,Nat.reduceLT,Nat.reduceEqDiff,Int.reduceToNat,Int.reduceBEq,Int.reduceLE,ir25_62,bfC,dbf]
     repeat (with_reducible refine And.intro (by first | omega | (simp only [maxLen];omega) | (simp;done) | (simp;omega)) ?_)
     exact hno (by rw [hst,st4,if_pos hbf]) List.mem_cons_self rfl rfl rfl rfl rfl rfl
    have dbf:decide (((s.bufs.getD 0 []).length:Int)>0)=false:=decide_eq_false (by omega)
    simp (maxSteps:=2000000) only [go_sem,↓condS,↓runOp,↓imp_ft,↓imp_tf,↓imp_tt,↓imp_ff,↓reduceIte,Nat.reduceLT,Nat.reduceEqDiff,Int.reduceToNat,Int.reduceBEq,Int.reduceLE,ir25_62,bfC,dbf]
    repeat (with_reducible refine And.intro (by first | omega | (simp only [maxLen];omega) | (simp;done) | (simp;omega)) ?_)
    refine draw_vc (by kernel_rfl) (mkTab_ok _ _) (of_decide_eq_true rfl) (of_decide_eq_true rfl) ?_
    repeat (first | simp (maxSteps:=2000000) only [go_sem,↓runOp,↓gateD,↓runD,↓reduceIte,Nat.reduceLT,Nat.reduceLeDiff,Nat.reduceEqDiff,reduceCtorEq,Int.reduceToNat,Int.reduceLE,hwp] | rw [dr_cons])
    repeat (with_reducible refine And.intro (by first | omega | (simp only [maxLen];omega) | (simp;done) | (simp;omega)) ?_)
    have hsx:stepS o s 0 ⟨4,reg,ad,val,frm,old,cnt⟩=some (⟨s.words,s.regs,s.places,s.bufs⟩,1):=by rw [st4,if_neg hbf]
    rw [← hR,← hW,hst,hsx]
    exact retTurnP (s:=⟨s.words,s.regs,_,s.bufs⟩) (s0:=s) List.mem_cons_self (fun E E'=>by simp [SV.den,SC.den]) rfl rfl (by simp) rfl rfl rfl rfl rfl rfl rfl (set_atsT (enc:=eI) hk1) rfl rfl
   by_cases k5:kind=5
   ·subst k5
    have hg:0≤reg∧reg<4:=f3 (by decide) (by decide)
    have hnr:=nth_r4 (xs:=s.regs) (k:=0) hg
    simp (maxSteps:=2000000) only [go_sem,↓condS,↓runOp,↓imp_ft,↓imp_tf,↓imp_tt,↓imp_ff,↓reduceIte,Nat.reduceLT,Nat.reduceEqDiff,Int.reduceBEq,ir25_62]
    refine draw_vc (by kernel_rfl) (mkTab_ok _ _) (of_decide_eq_true rfl) (of_decide_eq_true rfl) ?_
    repeat (first | simp (maxSteps:=2000000) only [go_sem,↓gateD,↓runD,↓reduceIte,Nat.reduceLT,Nat.reduceLeDiff,Nat.reduceEqDiff,Int.reduceToNat,Int.reduceLE,Nat.mul_one] | rw [dr_cons])
    repeat (with_reducible refine And.intro (by first | omega | (simp only [maxLen];omega) | (simp;done) | (simp;omega)) ?_)
    refine draw_vc (by kernel_rfl) (mkTab_ok _ _) (of_decide_eq_true rfl) (of_decide_eq_true rfl) ?_
    repeat (first | simp (maxSteps:=2000000) only [go_sem,↓runOp,↓gateD,↓runD,↓reduceIte,Nat.reduceLT,Nat.reduceLeDiff,Nat.reduceEqDiff,reduceCtorEq,Int.reduceToNat,Int.reduceLE,hwp] | rw [dr_cons])
    repeat (with_reducible refine And.intro (by first | omega | (simp only [maxLen];omega) | (simp;done) | (simp;omega)) ?_)
    have hsx:stepS o s 0 ⟨5,reg,ad,val,frm,old,cnt⟩=some (⟨s.words,s.regs.set 0 ((s.regs.getD 0 r40).put reg val),s.places,s.bufs⟩,1):=by simp [stepS]
    rw [← hR,← hW,hst,hsx]
    exact retTurnP (s:=⟨s.words,s.regs.set 0 ((s.regs.getD 0 r40).put reg val),_,s.bufs⟩) (s0:=s) List.mem_cons_self (fun E E'=>by simp [SV.den,SC.den]) rfl (by simp) (by simp) rfl rfl rfl rfl rfl (put_r4 hkr hg) rfl (set_atsT (enc:=eI) hk1) rfl rfl
   by_cases k6:kind=6
   ·subst k6
    have hg:0≤reg∧reg<4:=f3 (by decide) (by decide)
    have hnr:=nth_r4 (xs:=s.regs) (k:=0) hg
    simp (maxSteps:=2000000) only [go_sem,↓condS,↓runOp,↓imp_ft,↓imp_tf,↓imp_tt,↓imp_ff,↓reduceIte,Nat.reduceLT,Nat.reduceEqDiff,Int.reduceBEq,ir25_62]
    refine draw_vc (by kernel_rfl) (mkTab_ok _ _) (of_decide_eq_true rfl) (of_decide_eq_true rfl) ?_
    repeat (first | simp (maxSteps:=2000000) only [go_sem,↓gateD,↓runD,↓reduceIte,Nat.reduceLT,Nat.reduceLeDiff,Nat.reduceEqDiff,Int.reduceToNat,Int.reduceLE,hnr,Nat.mul_one] | rw [dr_cons])
    repeat (with_reducible refine And.intro (by first | omega | (simp only [maxLen];omega) | (simp;done) | (simp;omega)) ?_)
    refine draw_vc (by kernel_rfl) (mkTab_ok _ _) (of_decide_eq_true rfl) (of_decide_eq_true rfl) ?_
    repeat (first | simp (maxSteps:=2000000) only [go_sem,↓runOp,↓gateD,↓runD,↓reduceIte,Nat.reduceLT,Nat.reduceLeDiff,Nat.reduceEqDiff,reduceCtorEq,Int.reduceToNat,Int.reduceLE,hwp] | rw [dr_cons])
    repeat (with_reducible refine And.intro (by first | omega | (simp only [maxLen];omega) | (simp;done) | (simp;omega)) ?_)
    have hsx:stepS o s 0 ⟨6,reg,ad,val,frm,old,cnt⟩=some (⟨s.words,s.regs.set 0 ((s.regs.getD 0 r40).put reg (IntKind.i64.wrap ((s.regs.getD 0 r40).get reg+val))),s.places,s.bufs⟩,1):=by simp [stepS]
    rw [← hR,← hW,hst,hsx]
    exact retTurnP (s:=⟨s.words,s.regs.set 0 ((s.regs.getD 0 r40).put reg (IntKind.i64.wrap ((s.regs.getD 0 r40).get reg+val))),_,s.bufs⟩) (s0:=s) List.mem_cons_self (fun E E'=>by simp [SV.den,SC.den]) rfl (by simp) (by simp) rfl rfl rfl rfl rfl (put_r4 hkr hg) rfl (set_atsT (enc:=eI) hk1) rfl rfl
   have k7:kind=7:=by omega
   subst k7
   have hg:0≤reg∧reg<4:=f3 (by decide) (by decide)
   have hnr:=nth_r4 (xs:=s.regs) (k:=0) hg
   have hcn:=f6 rfl
   have hw1:IntKind.i64.wrap (1+cnt)=1+cnt:=wrI (by omega)
   have hwc:IntKind.i64.wrap (s.places.getD 0 0+(1+cnt))=s.places.getD 0 0+(1+cnt):=wrI (by have:=(fits_at hL hk).1;omega)
   simp (maxSteps:=2000000) only [go_sem,↓condS,↓runOp,↓imp_ft,↓imp_tf,↓imp_tt,↓imp_ff,↓reduceIte,Nat.reduceLT,Nat.reduceEqDiff,Int.reduceBEq,ir25_62]
   refine draw_vc (by kernel_rfl) (mkTab_ok _ _) (of_decide_eq_true rfl) (of_decide_eq_true rfl) ?_
   repeat (first | simp (maxSteps:=2000000) only [go_sem,↓condS,↓runOp,↓gateD,↓runD,↓reduceIte,Nat.reduceLT,Nat.reduceEqDiff,Int.reduceToNat,Int.reduceLE,hnr,Nat.mul_one] | rw [dr_cons])
   repeat (with_reducible refine And.intro (by first | omega | (simp only [maxLen];omega) | (simp;done) | (simp;omega)) ?_)
   refine both (fun hq=>?_) (fun hq=>?_)
   ·have hq:(s.regs.getD 0 r40).get reg=val:=by simpa using hq
    refine draw_vc (by kernel_rfl) (mkTab_ok _ _) (of_decide_eq_true rfl) (of_decide_eq_true rfl) ?_
    repeat (first | simp (maxSteps:=2000000) only [go_sem,↓runOp,↓gateD,↓runD,↓reduceIte,Nat.reduceLT,Nat.reduceLeDiff,Nat.reduceEqDiff,reduceCtorEq,Int.reduceToNat,Int.reduceLE,hw1,hwc] | rw [dr_cons])
    repeat (with_reducible refine And.intro (by first | omega | (simp only [maxLen];omega) | (simp;done) | (simp;omega)) ?_)
    have hsx:stepS o s 0 ⟨7,reg,ad,val,frm,old,cnt⟩=some (⟨s.words,s.regs,s.places,s.bufs⟩,1+cnt):=by rw [st7,if_pos hq]
    rw [← hR,← hW,hst,hsx]
    exact retTurnP (s:=⟨s.words,s.regs,_,s.bufs⟩) (s0:=s) List.mem_cons_self (fun E E'=>by simp [SV.den,SC.den]) rfl rfl (by simp) rfl rfl rfl rfl rfl rfl rfl (set_atsT (enc:=eI) hk1) rfl rfl
   ·have hq:¬ (s.regs.getD 0 r40).get reg=val:=by simpa using hq
    refine draw_vc (by kernel_rfl) (mkTab_ok _ _) (of_decide_eq_true rfl) (of_decide_eq_true rfl) ?_
    repeat (first | simp (maxSteps:=2000000) only [go_sem,↓runOp,↓gateD,↓runD,↓reduceIte,Nat.reduceLT,Nat.reduceLeDiff,Nat.reduceEqDiff,reduceCtorEq,Int.reduceToNat,Int.reduceLE,hwp] | rw [dr_cons])
    repeat (with_reducible refine And.intro (by first | omega | (simp only [maxLen];omega) | (simp;done) | (simp;omega)) ?_)
    have hsx:stepS o s 0 ⟨7,reg,ad,val,frm,old,cnt⟩=some (⟨s.words,s.regs,s.places,s.bufs⟩,1):=by rw [st7,if_neg hq]
    rw [← hR,← hW,hst,hsx]
    exact retTurnP (s:=⟨s.words,s.regs,_,s.bufs⟩) (s0:=s) List.mem_cons_self (fun E E'=>by simp [SV.den,SC.den]) rfl rfl (by simp) rfl rfl rfl rfl rfl rfl rfl (set_atsT (enc:=eI) hk1) rfl rfl
 ·have hno2:turnS L o s ⟨thr,out,addr⟩=(s,false):=by unfold turnS;rw [if_neg hk]
  simp (maxSteps:=2000000) only [ir25,nt25,rs25,go_sem,↓condS,↓gateS,↓runOp,↓reduceIte,Nat.reduceLT,Nat.reduceAdd,Nat.reduceEqDiff,reduceCtorEq,ltA,ltS,Tn.enc,stP,stO,stC]
  refine both (fun hb=>?_) (fun hb=>?_)
  ·exact hno hno2 List.mem_cons_self rfl rfl rfl rfl rfl rfl
  ·exfalso
   simp at hb
   omega
end Go.Proofs.Ytmcpdafmkkjlcaa.Z
namespace Go.Proofs.Ytmcpdafmkkjlcaa.Z
open Go Go.RowKit
theorem iturn_own (w:World) (E:Env) (L:Lt) (o:Int) (s:LS) (t:Tn) (N:Nat) (hL:checkB L=true) (hwf:WfS L o N s) (hN:N≤100000) (h:Handed w E 11 (stP s) (ltA 0 L)) :
  Calls Try.prog 40 (([.agg (ltS 0),.c (.v (.int .i64 o)),.c (.ptr (5,0,0) 0),.agg (t.enc.map .v)]:List SV).map (SV.den E)).toArray w (EffR w E 11 (takesO E (stP s)) (.c (.bo (turnS L o s t).2)) 1 fun b=>killO [10]++stE b (turnS L o s t).1):=by
 by_cases hz:t.thr=0
 ·exact iturn_zero w E L o s t N hL hwf hN hz h
 ·exact iturn_pos w E L o s t N hL hwf hN hz h
theorem rturn_own (w:World) (E:Env) (L:Lt) (o:Int) (s:LS) (t:Tn) (N:Nat) (hL:checkB L=true) (hwf:WfS L o N s) (hN:N≤100000) (h:Handed w E 11 (stP s) (ltA 0 L)) :
  Calls Try.prog 25 (([.agg (ltS 0),.c (.v (.int .i64 o)),.c (.ptr (5,0,0) 0),.agg (t.enc.map .v)]:List SV).map (SV.den E)).toArray w (EffR w E 11 (takesO E (stP s)) (.c (.bo (turnS L o s t).2)) 1 fun b=>killO [10]++stE b (turnS L o s t).1):=by
 by_cases hz:t.thr=0
 ·exact rturn_zero w E L o s t N hL hwf hN hz h
 ·exact rturn_pos w E L o s t N hL hwf hN hz h
end Go.Proofs.Ytmcpdafmkkjlcaa.Z
namespace Go.Proofs.Ytmcpdafmkkjlcaa.Z
open Go Go.RowKit
theorem enterLtSt {P:Program} {A:List Nat} {f nt:Nat} {fn:Func} {x:Code} {c:IR} {w:World} {rs:List RS} {R:Ending→World→Prop} {v v' : Value} {L:Lt} {s:LS} (h:LtR w v L) (h' : StR w v' s) (sc:List SV) (args:Array Value)
  (hf:P.funcs[f]? = some fn) (hb:fn.body=some x) (hc:compC (mkTab P A) x=some c.strip) (hrs:compR (mkTab P A).T fn.results.toList=some rs) (hn:fn.ntmps=nt)
  (hargs:∀ E',(SV.agg (ltS 0)).den E' = v→(SV.agg (stS 3)).den E' = v'→(sc.map (SV.den E')).toArray=args) (hnt:sc.length≤nt)
  (hex:exec (mkC P A w rs R) 1000 [.code c] ⟨nt,enumT 0 sc,[],ltA 0 L++stA 3 s,[],8⟩):Calls P f args w R:=by
 obtain ⟨vw,vt,rfl,h1,us,h4,h5,h6⟩:=h
 obtain ⟨vw',vr',vp',vb',rfl,h1',h2',h3',us',h4',h5',h6'⟩:=h'
 refine enterL [fun _=>vw,fun _=>vt,fun k=>us.getD k nest0,fun _=>vw',fun _=>vr',fun _=>vp',fun _=>vb',fun k=>us'.getD k nest0] ⟨fun _=>arr_one h1,fun _=>arr_one h4,nest_one h5 h6,fun _=>arr_one h1',fun _=>arr_one h2',fun _=>arr_one h3',fun _=>arr_one h4',nest_one h5' h6',trivial⟩
  (rd_one 0 0 eI_ok h1 (by simp) rfl (rd_nest 1 2 in0 in_ok h4 h5 h6 (by simp) (by simp) rfl (fun _=>rfl) (rd_one 3 0 eI_ok h1' (by simp) rfl (rd_one 4 r40 r4_ok h2' (by simp) rfl (rd_one 5 0 eI_ok h3' (by simp) rfl (rd_nest 6 7 pd0 pd_ok h4' h5' h6' (by simp) (by simp) rfl (fun _=>rfl) rd_nil))))))
  sc args hf hb hc hrs hn (fun E' hE'=>hargs E' ?_ ?_) hnt hex
 ·have e:=fun i hi=>hE' i 0 0 hi
  simp only [SV.den,ltS,List.map_cons,List.map_nil,SC.den,Nat.reduceAdd,e 0 (by simp),e 1 (by simp)]
  rfl
 ·have e:=fun i hi=>hE' i 0 0 hi
  simp only [SV.den,stS,List.map_cons,List.map_nil,SC.den,Nat.reduceAdd,e 3 (by simp),e 4 (by simp),e 5 (by simp),e 6 (by simp)]
  rfl
end Go.Proofs.Ytmcpdafmkkjlcaa.Z
namespace Go.Proofs.Ytmcpdafmkkjlcaa.Z
open Go Go.RowKit
def InT (tmps:List (Nat×SV)):List Nat→List SV→Prop
 | [],[]=>True
 | t :: ts,v :: vs=>look tmps t=some v∧InT tmps ts vs
 | _,_=>False
theorem inT_den {B:Nat} {W:Nat→Prop} {w0:World} {E:Env} {S:St} {a:Act} {w:World} (hs:Sat B W w0 E S a w):∀ {ts:List Nat} {vs:List SV},InT S.tmps ts vs→vs.map (SV.den E)=ts.map fun t=>a.tmps.getD t undef
 | [],[],_=>rfl
 | t :: ts,v :: vs,h=>by rw [List.map_cons,List.map_cons,inT_den hs h.2,(hs.tmps t v h.1).2]
 | [],_ :: _,h=>h.elim
 | _ :: _,[],h=>h.elim
theorem call_leT {C:Ctx} {S S' : St} {f:Nat} {vs vs' : List SV} {dst:Option Nat} {K:St→Prop} (ts:List Nat) (hle:Le C S S') (hv:InT S.tmps ts vs) (hv' : InT S'.tmps ts vs') (h:CallVC C f vs' dst S' K):CallVC C f vs dst S K:=by
 intro E a w hs
 obtain ⟨E',hs'⟩:=hle E a w hs
 have e:vs.map (SV.den E)=vs'.map (SV.den E'):=by rw [inT_den hs.sat hv,inT_den hs'.sat hv']
 rw [e]
 exact h E' a w hs'
theorem arr_ltA {p:Nat→Prop} {τ:Nat→Nat} {L:Lt} {arrs:List (Nat×Fm ArrF)} (hp:∀ i,i<3→p i) (hτ:∀ i,i<3→τ i=i) (h0:look arrs 0=some (.one (arrOf eI 1 L.words 0))) (h1:look arrs 1=some (.one (nestF 2 L.thr.length))) (h2:look arrs 2=some (.fam L.thr.length fun k=>arrOf Ins.enc 7 (L.thr.getD k []) in0)):ArrsLe p (idσ τ) arrs (ltA 0 L):=by
 have t0:=hτ 0 (by decide);have t1:=hτ 1 (by decide);have t2:=hτ 2 (by decide)
 have p0:=hp 0 (by decide);have p1:=hp 1 (by decide);have p2:=hp 2 (by decide)
 simp +contextual [ltA,ArrsLe,ArrLeO,atN,Fm.get,idσ,arrLe_of,arrLe_nest,t0,t1,t2,p0,p1,p2,h0,h1,h2]
end Go.Proofs.Ytmcpdafmkkjlcaa.Z
