/- TsoFreshSaid: what its proof is made of. No condition. -/
import Derived.Test.YtmcpdafmkkjlcaaPkTTsoFreshAK
set_option linter.unusedSimpArgs false
set_option linter.unusedVariables false
namespace Go.Proofs.Ytmcpdafmkkjlcaa.Z
open Go Go.RowKit
set_option maxRecDepth 100000 in
set_option maxHeartbeats 8000000 in
theorem iturn_pos (w:World) (E:Env) (L:Lt) (o:Int) (s:LS) (t:Tn) (N:Nat) (hL:checkB L=true) (hwf:WfS L o N s) (hN:N≤100000) (hz:t.thr≠0) (h:Handed w E 11 (stP s) (ltA 0 L)) :
  Calls Try.prog 40 (([.agg (ltS 0),.c (.v (.int .i64 o)),.c (.ptr (5,0,0) 0),.agg (t.enc.map .v)]:List SV).map (SV.den E)).toArray w (EffR w E 11 (takesO E (stP s)) (.c (.bo (turnS L o s t).2)) 1 fun b=>killO [10]++stE b (turnS L o s t).1):=by
 refine enterO (c:=ir40) (rs:=rs40) (nt:=nt40) h _ Try.func40 rfl (by kernel_rfl) (by kernel_rfl) rfl (by simp [okVs,SV.okN,SC.okN,SC.okL,okL_v,ltS]) (of_decide_eq_true rfl) ?_
 generalize hR:EffR w E 11 (takesO E (stP s)) (.c (.bo (turnS L o s t).2)) 1 (fun b=>killO [10]++stE b (turnS L o s t).1)=R
 generalize hW:takesO E (stP s)=W
 obtain ⟨z1,z2,z3,z4⟩:=sz_at hL
 obtain ⟨lw,lr,lp,lb,hthr⟩:=hwf
 obtain ⟨thr,out,addr⟩:=t
 have hno:∀ {S2:St},turnS L o s ⟨thr,out,addr⟩=(s,false)→AgF 11 E∈S2.facts→look S2.own 5=some (.one (.bk (stC 6 s) 32))→look S2.own 6=some (.one (.ar s.words.length 1 (ats eI s.words 0) 3))→look S2.own 7=some (.one (.ar s.regs.length 4 (ats R4.enc s.regs r40) 68)) →
   look S2.own 8=some (.one (.ar s.places.length 1 (ats eI s.places 0) 3))→look S2.own 9=some (.one (.ar s.bufs.length 1 (bfC 10 s) 86))→look S2.own 10=some (.fam s.bufs.length (bfO s))→RetVC (mkO Try.prog w W rs40 R) (.c (.v (.bool false))) S2:=fun e h1 h5 h6 h7 h8 h9 h10=>by
  rw [← hR,← hW,e]
  exact retTurn0 h1 (fun E E'=>by simp [SV.den,SC.den]) h5 h6 h7 h8 h9 h10
 by_cases hk:0≤thr∧thr<L.thr.length
 ·obtain ⟨k,rfl⟩:∃ k:Nat,thr=k:=⟨thr.toNat,by omega⟩
  have hk:k<L.thr.length:=by omega
  have hk0:¬ k=0:=by simpa using hz
  have hwi:∀ w',Calls Try.prog 72 #[.int .i64 k,.int .i64 (L.thr.length:Nat)] w' (RetV w' (.bool true)):=fun w'=>by
   have:=withinL w' k L.thr.length
   rw [decide_eq_true (by omega)] at this
   exact this
  obtain ⟨p0,p1,pb,psc,ppend⟩:=hthr k hk
  cases out with
  | true =>
   simp (maxSteps:=2000000) only [ir40,nt40,rs40,go_sem,↓runOp,↓reduceIte,Nat.reduceLT,Nat.reduceAdd,Nat.reduceEqDiff,reduceCtorEq,ltA,ltS,Tn.enc,stP,stO,stC]
   refine callV (.c (.v (.bool true))) _ (fun E=>rfl) (fun E a w' _=>hwi w') ?_
   simp (maxSteps:=2000000) only [go_sem,↓condS,↓runOp,↓reduceIte,Nat.reduceLT,Nat.reduceLeDiff,Nat.reduceAdd,Nat.reduceEqDiff]
   have ht:turnS L o s ⟨k,true,addr⟩=outS o s k addr:=by
    unfold turnS
    rw [if_pos (by simp only;omega),if_pos rfl]
    simp only [Int.toNat_natCast]
   rw [ht] at hR
   refine call_intro (cr_own 11 (stP s) [] (show 11≤13 by decide) (stP_plain s) (stP_le (fun i h=>h) (fun _ _=>rfl) rfl rfl rfl rfl rfl rfl) trivial stE_key (fun E w h=>iout_own w E o s k true addr (by omega) psc (fun p hp=>by rw [lw];exact ppend p hp) (by omega) h)) (lt11 (show 11≤13 by decide)) ?_
   simp (maxSteps:=2000000) only [go_sem,↓runOp,↓reduceIte,Nat.reduceLT,Nat.reduceAdd,Nat.reduceEqDiff,killO,stE]
   rw [← hR,← hW]
   exact retTurnN 13 (by decide) List.mem_cons_self (fun E E'=>by simp [SV.den,SC.den]) rfl rfl rfl rfl rfl rfl
  | false =>
   simp (maxSteps:=2000000) only [ir40,nt40,rs40,go_sem,↓runOp,↓reduceIte,Nat.reduceLT,Nat.reduceAdd,Nat.reduceEqDiff,reduceCtorEq,ltA,ltS,Tn.enc,stP,stO,stC]
   refine callV (.c (.v (.bool true))) _ (fun E=>rfl) (fun E a w' _=>hwi w') ?_
   simp (maxSteps:=2000000) only [go_sem,↓condS,↓runOp,↓reduceIte,Nat.reduceLT,Nat.reduceEqDiff,reduceCtorEq]
   have hk1:k<s.places.length:=by omega
   have hkr:k<s.regs.length:=by omega
   have hkb:k<s.bufs.length:=by omega
   repeat (with_reducible refine And.intro (by first | omega | (simp only [maxLen];omega) | exact Or.inl trivial | exact Or.inr trivial | exact ⟨Or.inl trivial,Or.inr trivial⟩ | exact trivial) ?_)
   refine draw_vc (by kernel_rfl) (mkTab_ok _ _) (of_decide_eq_true rfl) (of_decide_eq_true rfl) ?_
   repeat (first | simp (maxSteps:=2000000) only [go_sem,↓runOp,↓gateD,↓runD,↓reduceIte,Nat.reduceLT,Nat.reduceEqDiff,reduceCtorEq] | rw [dr_cons])
   repeat (with_reducible refine And.intro (by first | omega | (simp only [maxLen];omega) | exact Or.inl trivial | exact Or.inr trivial | exact ⟨Or.inl trivial,Or.inr trivial⟩ | exact trivial) ?_)
   by_cases he:s.places.getD k 0≥(L.thr.getD k []).length
   ·have dhe:decide (s.places.getD k 0≥((L.thr.getD k []).length:Int))=true:=decide_eq_true he
    simp (maxSteps:=2000000) only [go_sem,↓condS,↓runOp,↓imp_tf,↓imp_tt,↓reduceIte,Nat.reduceLT,Nat.reduceEqDiff,ir40_44,dhe]
    exact hno (by unfold turnS;rw [if_pos (by simp only;omega),if_neg (by simp),if_pos (by simp only [Int.toNat_natCast];omega)]) List.mem_cons_self rfl rfl rfl rfl rfl rfl
   have dhe:decide (s.places.getD k 0≥((L.thr.getD k []).length:Int))=false:=decide_eq_false he
   have hpl:(s.places.getD k 0).toNat<(L.thr.getD k []).length:=by omega
   have hfit:=(fits_at hL hk).2 _ (getD_memE (d:=in0) hpl)
   have hst:turnS L o s ⟨k,false,addr⟩=match stepS o s k ((L.thr.getD k []).getD (s.places.getD k 0).toNat in0) with
    | none=>(s,false)
    | some (s',f)=>({ s' with places:=s'.places.set k (if ((L.thr.getD k []).length:Int)<s'.places.getD k 0+f then ((L.thr.getD k []).length:Int) else s'.places.getD k 0+f) },true):=by
    unfold turnS
    rw [if_pos (by simp only;omega),if_neg (by simp),if_neg (by simp only [Int.toNat_natCast];omega)]
    simp only [Int.toNat_natCast]
    cases stepS o s k ((L.thr.getD k []).getD (s.places.getD k 0).toNat in0) with
    | none=>rfl
    | some q=>obtain ⟨s',f⟩:=q;rfl
   have hle10:=(fits_at hL hk).1
   generalize hci:(L.thr.getD k []).getD (s.places.getD k 0).toNat in0=ci at hst hfit
   obtain ⟨kind,reg,ad,val,frm,old,cnt⟩:=ci
   simp only [fitsB,decide_eq_true_eq] at hfit
   obtain ⟨f1,f2,f3,f4,f5,f6⟩:=hfit
   have hwp:IntKind.i64.wrap (s.places.getD k 0+1)=s.places.getD k 0+1:=wrI (by omega)
   by_cases k1:kind=1
   ·subst k1
    have hg:0≤reg∧reg<4:=f3 (by decide) (by decide)
    have hnr:=nth_r4 (xs:=s.regs) (k:=k) hg
    have had:0≤ad∧ad<s.words.length:=by rw [lw];exact f4 (by decide)
    have hadn:ad.toNat<s.words.length:=by omega
    simp (maxSteps:=2000000) only [go_sem,↓condS,↓runOp,↓imp_ft,↓imp_ff,↓reduceIte,Nat.reduceLT,Nat.reduceLeDiff,Nat.reduceAdd,Nat.reduceMul,Nat.reduceEqDiff,reduceCtorEq,Int.reduceToNat,Int.reduceLT,Int.reduceLE,ir40_44,dhe,Ins.enc,hci]
    refine And.intro (by omega) (And.intro (by omega) (And.intro ⟨_,Try.func74,by kernel_rfl,by kernel_rfl⟩ ?_))
    refine call_inline (c:=ir74) (rs:=rs74) (nt:=nt74) 1000 (mkTab_ok _ _) Try.func74 rfl (by kernel_rfl) (by kernel_rfl) rfl (by simp [okVs,SV.okN,SC.okN]) (of_decide_eq_true rfl) (fun E0 a0 ht0=>?_)
    simp (maxSteps:=2000000) only [ir74,nt74,rs74,go_sem,↓runOp,↓reduceIte,Nat.reduceLT,Nat.reduceEqDiff,reduceCtorEq]
    refine draw_vc (by kernel_rfl) (mkTab_ok _ _) (of_decide_eq_true rfl) (of_decide_eq_true rfl) ?_
    repeat (first | simp (maxSteps:=2000000) only [go_sem,↓gateD,↓runD,↓reduceIte,Nat.reduceLT,Nat.reduceEqDiff,reduceCtorEq] | rw [dr_cons])
    refine dcall_intro (reg_cr (regs:=s.regs) rfl rfl hkr hg rfl rfl rfl (fun _ _=>rfl) ⟨rfl,rfl,rfl,rfl,rfl,rfl,fun _=>rfl⟩ fun _=>⟨rfl,rfl,rfl⟩) rfl trivial trivial (fun k hk=>by cases hk) ?_
    repeat (first | simp (maxSteps:=2000000) only [go_sem,↓gateD,↓runD,↓reduceIte,Nat.reduceLT,Nat.reduceLeDiff,Nat.reduceAdd,Nat.reduceEqDiff,reduceCtorEq] | rw [dr_cons])
    repeat (with_reducible refine And.intro (by first | omega | (simp only [maxLen];omega) | exact Or.inl trivial | exact Or.inr trivial | exact ⟨Or.inl trivial,Or.inr trivial⟩ | exact trivial) ?_)
    rw [put_r4 hkr hg]
    refine draw_vc (by kernel_rfl) (mkTab_ok _ _) (of_decide_eq_true rfl) (of_decide_eq_true rfl) ?_
    repeat (first | simp (maxSteps:=2000000) only [go_sem,↓gateD,↓runD,↓reduceIte,Nat.reduceLT,Nat.reduceEqDiff,reduceCtorEq,bfC] | rw [dr_cons])
    repeat (with_reducible refine And.intro (by first | omega | (simp only [maxLen];omega) | exact Or.inl trivial | exact Or.inr trivial | exact ⟨Or.inl trivial,Or.inr trivial⟩ | exact trivial) ?_)
    refine loopI (ι:={ i:Nat // i≤(s.bufs.getD k []).length }) (fun i=>⟨54,[(0,.c (.ptr (14,0,0) 0)),(34,.c (.sl (10,k,0) 2 0 (s.bufs.getD k []).length none)),(35,.c (.v (.int .i64 (s.bufs.getD k []).length))),(36,.c (.v (.int .i64 (i.1:Nat))))],stP (⟨s.words,s.regs.set k ((s.regs.getD k r40).put reg (seeL (s.words.getD ad.toNat 0) ad ((s.bufs.getD k []).take i.1))),s.places,s.bufs⟩:LS)++[(12,.one (.bk [.v (.int .i64 k),.v (.bool false),.v (.int .i64 addr)] 44)),(14,.one (.bk [.ptr (5,0,0) 0,.v (.int .i64 1),.v (.int .i64 reg),.v (.int .i64 ad),.v (.int .i64 val),.v (.int .i64 frm),.v (.int .i64 old),.v (.int .i64 cnt),.v (.int .i64 k),.bo (o != 1)] 127))],ltA 0 L,[AgF 16 E0,AgF 11 E],16⟩)
     (fun i=>(s.bufs.getD k []).length - i.1) ⟨0,by omega⟩ ?_ ?_
    ·exact le_renF id rfl ⟨factA List.mem_cons_self (Nat.le_refl _) (fun _ _=>rfl),factA (List.mem_cons_of_mem _ List.mem_cons_self) (show 11≤16 by decide) (fun _ _=>rfl),trivial⟩ (by simp [TmpsLe,look,SV.ren,SC.ren,idσ,SV.okN,SC.okN]) (ownLe_app (stP_le (fun i h=>Nat.lt_of_lt_of_le h (show 11≤16 by decide)) (fun _ _=>rfl) (by simp [look,stC]) rfl (by simp [look,seeL]) rfl rfl rfl) (by simp [OwnLe,BlkLeO,BlkLe,atN,look,Fm.get,idσ,SC.renL,SC.ren,SC.okL,SC.okN])) (by simp +contextual [ltA,ArrsLe,ArrLeO,atN,look,Fm.get,idσ,arrLe_of,arrLe_nest]) (of_decide_eq_true rfl)
    rintro ⟨i,hi⟩
    simp (maxSteps:=2000000) only [go_sem,↓condS,↓exitS,↓runOp,↓reduceIte,Nat.reduceLT,Nat.reduceLeDiff,Nat.reduceAdd,Nat.reduceEqDiff,reduceCtorEq,mkI_rs,stP,stO,stC,ltA,bfO,ats_pd]
    refine both (fun hlt=>?_) (fun hge=>?_)
    ·rw [decide_eq_true_eq] at hlt
     have hlt:i<(s.bufs.getD k []).length:=by omega
     have hstk:=take_pd hlt
     have hkr2:k<(s.regs.set k ((s.regs.getD k r40).put reg (seeL (s.words.getD ad.toNat 0) ad ((s.bufs.getD k []).take i)))).length:=by simpa using hkr
     repeat (with_reducible refine And.intro (by first | omega | (simp only [maxLen];omega) | exact Or.inl trivial | exact Or.inr trivial | exact ⟨Or.inl trivial,Or.inr trivial⟩ | exact trivial) ?_)
     refine draw_vc (by kernel_rfl) (mkTab_ok _ _) (of_decide_eq_true rfl) (of_decide_eq_true rfl) ?_
     repeat (first | simp (maxSteps:=2000000) only [go_sem,↓condS,↓runOp,↓gateD,↓runD,↓reduceIte,Nat.reduceLT,Nat.reduceAdd,Nat.reduceEqDiff,reduceCtorEq] | rw [dr_cons])
     refine both (fun hq=>?_) (fun hq=>?_)
     ·have hq:((s.bufs.getD k []).getD i pd0).addr=ad:=by simpa using hq
      have hse:seeL (s.words.getD ad.toNat 0) ad ((s.bufs.getD k []).take (i+1))=((s.bufs.getD k []).getD i pd0).val:=by rw [hstk,seeL_app];simp only [seeL,if_pos hq]
      refine draw_vc (by kernel_rfl) (mkTab_ok _ _) (of_decide_eq_true rfl) (of_decide_eq_true rfl) ?_
      repeat (first | simp (maxSteps:=2000000) only [go_sem,↓gateD,↓runD,↓reduceIte,Nat.reduceLT,Nat.reduceEqDiff,reduceCtorEq] | rw [dr_cons])
      refine dcall_intro (reg_cr (regs:=(s.regs.set k ((s.regs.getD k r40).put reg (seeL (s.words.getD ad.toNat 0) ad ((s.bufs.getD k []).take i))))) rfl rfl hkr2 hg rfl rfl rfl (fun _ _=>rfl) ⟨rfl,rfl,rfl,rfl,rfl,rfl,fun _=>rfl⟩ fun _=>⟨rfl,rfl,rfl⟩) rfl trivial trivial (fun k hk=>by cases hk) ?_
      repeat (first | simp (maxSteps:=2000000) only [go_sem,↓runOp,↓gateD,↓runD,↓reduceIte,Nat.reduceLT,Nat.reduceLeDiff,Nat.reduceEqDiff,reduceCtorEq] | rw [dr_cons])
      repeat (with_reducible refine And.intro (by first | omega | (simp only [maxLen];omega) | exact Or.inl trivial | exact Or.inr trivial | exact ⟨Or.inl trivial,Or.inr trivial⟩ | exact trivial) ?_)
      rw [put_r4 hkr2 hg,put_twice hkr hg,wr_succ (by omega)]
      exact backI ⟨i+1,hlt⟩ (by simp only;omega) (le_renF id rfl ⟨factA List.mem_cons_self (Nat.le_refl _) (fun _ _=>rfl),factA (List.mem_cons_of_mem _ List.mem_cons_self) (show 11≤16 by decide) (fun _ _=>rfl),trivial⟩ (by simp [TmpsLe,look,SV.ren,SC.ren,idσ,SV.okN,SC.okN]) (show OwnLe (· < 16) (idσ id) _ (stP (⟨s.words,s.regs.set k ((s.regs.getD k r40).put reg (seeL (s.words.getD ad.toNat 0) ad ((s.bufs.getD k []).take (i+1)))),s.places,s.bufs⟩:LS)++[(12,.one (.bk [.v (.int .i64 k),.v (.bool false),.v (.int .i64 addr)] 44)),(14,.one (.bk [.ptr (5,0,0) 0,.v (.int .i64 1),.v (.int .i64 reg),.v (.int .i64 ad),.v (.int .i64 val),.v (.int .i64 frm),.v (.int .i64 old),.v (.int .i64 cnt),.v (.int .i64 k),.bo (o != 1)] 127))]) from ownLe_app (stP_le (fun i h=>Nat.lt_of_lt_of_le h (show 11≤16 by decide)) (fun _ _=>rfl) (by simp [look,stC]) rfl (by simp only [look,List.length_set,hse,Nat.reduceEqDiff,reduceIte];try rfl) rfl rfl rfl) (by simp [OwnLe,BlkLeO,BlkLe,atN,look,Fm.get,idσ,SC.renL,SC.ren,SC.okL,SC.okN])) (by simp +contextual [ArrsLe,ArrLeO,atN,look,Fm.get,idσ,arrLe_of,arrLe_nest]) (of_decide_eq_true rfl))
     ·have hq:¬ ((s.bufs.getD k []).getD i pd0).addr=ad:=by simpa using hq
      have hse:seeL (s.words.getD ad.toNat 0) ad ((s.bufs.getD k []).take (i+1))=seeL (s.words.getD ad.toNat 0) ad ((s.bufs.getD k []).take i):=by rw [hstk,seeL_app];simp only [seeL,if_neg hq]
      rw [wr_succ (by omega)]
      exact backI ⟨i+1,hlt⟩ (by simp only;omega) (le_renF id rfl ⟨factA List.mem_cons_self (Nat.le_refl _) (fun _ _=>rfl),factA (List.mem_cons_of_mem _ List.mem_cons_self) (show 11≤16 by decide) (fun _ _=>rfl),trivial⟩ (by simp [TmpsLe,look,SV.ren,SC.ren,idσ,SV.okN,SC.okN]) (show OwnLe (· < 16) (idσ id) _ (stP (⟨s.words,s.regs.set k ((s.regs.getD k r40).put reg (seeL (s.words.getD ad.toNat 0) ad ((s.bufs.getD k []).take (i+1)))),s.places,s.bufs⟩:LS)++[(12,.one (.bk [.v (.int .i64 k),.v (.bool false),.v (.int .i64 addr)] 44)),(14,.one (.bk [.ptr (5,0,0) 0,.v (.int .i64 1),.v (.int .i64 reg),.v (.int .i64 ad),.v (.int .i64 val),.v (.int .i64 frm),.v (.int .i64 old),.v (.int .i64 cnt),.v (.int .i64 k),.bo (o != 1)] 127))]) from ownLe_app (stP_le (fun i h=>Nat.lt_of_lt_of_le h (show 11≤16 by decide)) (fun _ _=>rfl) (by simp [look,stC]) rfl (by simp only [look,List.length_set,hse,Nat.reduceEqDiff,reduceIte];try rfl) rfl rfl rfl) (by simp [OwnLe,BlkLeO,BlkLe,atN,look,Fm.get,idσ,SC.renL,SC.ren,SC.okL,SC.okN])) (by simp +contextual [ArrsLe,ArrLeO,atN,look,Fm.get,idσ,arrLe_of,arrLe_nest]) (of_decide_eq_true rfl))
    ·rw [decide_eq_false_iff_not] at hge
     have hin:i=(s.bufs.getD k []).length:=by omega
     subst hin
     rw [List.take_length]
     simp only [List.length_set]
     refine retI ht0 _ rfl (of_decide_eq_true rfl) (by simp [SV.okN,SC.okN]) ?_
     simp (maxSteps:=2000000) only [go_sem,↓condS,↓runOp,↓reduceIte,Nat.reduceLT,Nat.reduceEqDiff]
     refine draw_vc (by kernel_rfl) (mkTab_ok _ _) (of_decide_eq_true rfl) (of_decide_eq_true rfl) ?_
     repeat (first | simp (maxSteps:=2000000) only [go_sem,↓runOp,↓gateD,↓runD,↓reduceIte,Nat.reduceLT,Nat.reduceLeDiff,Nat.reduceEqDiff,reduceCtorEq,hwp] | rw [dr_cons])
     repeat (with_reducible refine And.intro (by first | omega | (simp only [maxLen];omega) | exact Or.inl trivial | exact Or.inr trivial | exact ⟨Or.inl trivial,Or.inr trivial⟩ | exact trivial) ?_)
     have hsx:stepS o s k ⟨1,reg,ad,val,frm,old,cnt⟩=some (⟨s.words,s.regs.set k ((s.regs.getD k r40).put reg (seeS s k ad)),s.places,s.bufs⟩,1):=by simp [stepS]
     rw [← hR,← hW,hst,hsx]
     exact retTurnP (s:=⟨s.words,s.regs.set k ((s.regs.getD k r40).put reg (seeS s k ad)),_,s.bufs⟩) (s0:=s) List.mem_cons_self (fun E E'=>by simp [SV.den,SC.den]) rfl (by simp) (by simp) rfl rfl rfl rfl rfl rfl rfl (set_atsT (enc:=eI) hk1) rfl rfl
   by_cases k2:kind=2
   ·subst k2
    have had:0≤ad∧ad<s.words.length:=by rw [lw];exact f4 (by decide)
    have hadn:ad.toNat<s.words.length:=by omega
    have hfm:=f5 rfl
    by_cases hfr:frm≥0
    ·have dfr:decide (frm≥0)=true:=decide_eq_true hfr
     have hnf:=nth_r4 (xs:=s.regs) (k:=k) (r:=frm) ⟨hfr,hfm.2⟩
     by_cases ho:o=1
     ·have do1:(o != 1)=false:=by simp [ho]
      simp (maxSteps:=2000000) only [go_sem,↓condS,↓runOp,↓imp_ft,↓imp_ff,↓reduceIte,Nat.reduceLT,Nat.reduceLeDiff,Nat.reduceAdd,Nat.reduceMul,Nat.reduceEqDiff,reduceCtorEq,Int.reduceToNat,Int.reduceLT,Int.reduceLE,ir40_44,dhe,Ins.enc,hci,do1]
      refine And.intro (by omega) (And.intro (by omega) (And.intro ⟨_,Try.func75,by kernel_rfl,by kernel_rfl⟩ ?_))
      refine call_inline (c:=ir75) (rs:=rs75) (nt:=nt75) 1000 (mkTab_ok _ _) Try.func75 rfl (by kernel_rfl) (by kernel_rfl) rfl (by simp [okVs,SV.okN,SC.okN]) (of_decide_eq_true rfl) (fun E0 a0 ht0=>?_)
      simp (maxSteps:=2000000) only [ir75,nt75,rs75,go_sem,↓condS,↓runOp,↓imp_tf,↓imp_tt,↓reduceIte,Nat.reduceLT,Nat.reduceAdd,Nat.reduceEqDiff,reduceCtorEq,dfr]
      refine draw_vc (by kernel_rfl) (mkTab_ok _ _) (of_decide_eq_true rfl) (of_decide_eq_true rfl) ?_
      repeat (first | simp (maxSteps:=2000000) only [go_sem,↓condS,↓runOp,↓gateD,↓runD,↓imp_ft,↓imp_ff,↓reduceIte,Nat.reduceLT,Nat.reduceAdd,Nat.reduceEqDiff,reduceCtorEq,hk0,hnf,Nat.mul_one] | rw [dr_cons])
      repeat (with_reducible refine And.intro (by first | omega | (simp only [maxLen];omega) | exact Or.inl trivial | exact Or.inr trivial | exact ⟨Or.inl trivial,Or.inr trivial⟩ | exact trivial) ?_)
      refine draw_vc (by kernel_rfl) (mkTab_ok _ _) (of_decide_eq_true rfl) (of_decide_eq_true rfl) ?_
      repeat (first | simp (maxSteps:=2000000) only [go_sem,↓runOp,↓gateD,↓runD,↓reduceIte,Nat.reduceLT,Nat.reduceLeDiff,Nat.reduceAdd,Nat.reduceEqDiff,reduceCtorEq] | rw [dr_cons])
      repeat (with_reducible refine And.intro (by first | omega | (simp only [maxLen];omega) | exact Or.inl trivial | exact Or.inr trivial | exact ⟨Or.inl trivial,Or.inr trivial⟩ | exact trivial) ?_)
      refine retI ht0 _ rfl (of_decide_eq_true rfl) (by simp [SV.okN,SC.okN]) ?_
      simp (maxSteps:=2000000) only [go_sem,↓condS,↓runOp,↓reduceIte,Nat.reduceLT,Nat.reduceEqDiff]
      refine draw_vc (by kernel_rfl) (mkTab_ok _ _) (of_decide_eq_true rfl) (of_decide_eq_true rfl) ?_
      repeat (first | simp (maxSteps:=2000000) only [go_sem,↓runOp,↓gateD,↓runD,↓reduceIte,Nat.reduceLT,Nat.reduceLeDiff,Nat.reduceEqDiff,reduceCtorEq,hwp] | rw [dr_cons])
      repeat (with_reducible refine And.intro (by first | omega | (simp only [maxLen];omega) | exact Or.inl trivial | exact Or.inr trivial | exact ⟨Or.inl trivial,Or.inr trivial⟩ | exact trivial) ?_)
      have hsx:stepS o s k ⟨2,reg,ad,val,frm,old,cnt⟩=some (⟨s.words.set ad.toNat ((s.regs.getD k r40).get frm),s.regs,s.places,s.bufs⟩,1):=by rw [st2,if_pos ho,if_pos hfr]
      rw [← hR,← hW,hst,hsx]
      exact retTurnP (s:=⟨s.words.set ad.toNat ((s.regs.getD k r40).get frm),s.regs,_,s.bufs⟩) (s0:=s) List.mem_cons_self (fun E E'=>by simp [SV.den,SC.den]) (by simp) rfl (by simp) rfl rfl rfl (set_atsT (enc:=eI) hadn) rfl rfl rfl (set_atsT (enc:=eI) hk1) rfl rfl
     ·have do1:(o != 1)=true:=by simp [ho]
      simp (maxSteps:=2000000) only [go_sem,↓condS,↓runOp,↓imp_ft,↓imp_ff,↓reduceIte,Nat.reduceLT,Nat.reduceLeDiff,Nat.reduceAdd,Nat.reduceMul,Nat.reduceEqDiff,reduceCtorEq,Int.reduceToNat,Int.reduceLT,Int.reduceLE,ir40_44,dhe,Ins.enc,hci,do1]
      refine And.intro (by omega) (And.intro (by omega) (And.intro ⟨_,Try.func75,by kernel_rfl,by kernel_rfl⟩ ?_))
      refine call_inline (c:=ir75) (rs:=rs75) (nt:=nt75) 1000 (mkTab_ok _ _) Try.func75 rfl (by kernel_rfl) (by kernel_rfl) rfl (by simp [okVs,SV.okN,SC.okN]) (of_decide_eq_true rfl) (fun E0 a0 ht0=>?_)
      simp (maxSteps:=2000000) only [ir75,nt75,rs75,go_sem,↓condS,↓runOp,↓imp_tf,↓imp_tt,↓reduceIte,Nat.reduceLT,Nat.reduceAdd,Nat.reduceEqDiff,reduceCtorEq,dfr]
      refine draw_vc (by kernel_rfl) (mkTab_ok _ _) (of_decide_eq_true rfl) (of_decide_eq_true rfl) ?_
      repeat (first | simp (maxSteps:=2000000) only [go_sem,↓condS,↓runOp,↓gateD,↓runD,↓imp_tf,↓imp_tt,↓reduceIte,Nat.reduceLT,Nat.reduceAdd,Nat.reduceEqDiff,reduceCtorEq,hk0,hnf,Nat.mul_one] | rw [dr_cons])
      repeat (with_reducible refine And.intro (by first | omega | (simp only [maxLen];omega) | exact Or.inl trivial | exact Or.inr trivial | exact ⟨Or.inl trivial,Or.inr trivial⟩ | exact trivial) ?_)
      refine draw_vc (by kernel_rfl) (mkTab_ok _ _) (of_decide_eq_true rfl) (of_decide_eq_true rfl) ?_
      repeat (first | simp (maxSteps:=2000000) only [go_sem,↓runOp,↓gateD,↓runD,↓reduceIte,Nat.reduceLT,Nat.reduceLeDiff,Nat.reduceAdd,Nat.reduceMul,Nat.reduceEqDiff,reduceCtorEq,bfC,bfO] | rw [dr_cons])
      repeat (with_reducible refine And.intro (by first | omega | (simp only [maxLen];omega) | exact Or.inl trivial | exact Or.inr trivial | exact ⟨Or.inl trivial,Or.inr trivial⟩ | exact trivial) ?_)
      refine retI ht0 _ rfl (of_decide_eq_true rfl) (by simp [SV.okN,SC.okN]) ?_
      simp (maxSteps:=2000000) only [go_sem,↓condS,↓runOp,↓reduceIte,Nat.reduceLT,Nat.reduceEqDiff]
      refine draw_vc (by kernel_rfl) (mkTab_ok _ _) (of_decide_eq_true rfl) (of_decide_eq_true rfl) ?_
      repeat (first | simp (maxSteps:=2000000) only [go_sem,↓runOp,↓gateD,↓runD,↓reduceIte,Nat.reduceLT,Nat.reduceLeDiff,Nat.reduceEqDiff,reduceCtorEq,hwp] | rw [dr_cons])
      repeat (with_reducible refine And.intro (by first | omega | (simp only [maxLen];omega) | exact Or.inl trivial | exact Or.inr trivial | exact ⟨Or.inl trivial,Or.inr trivial⟩ | exact trivial) ?_)
      have hsx:stepS o s k ⟨2,reg,ad,val,frm,old,cnt⟩=some (⟨s.words,s.regs,s.places,s.bufs.set k (s.bufs.getD k []++[⟨ad,((s.regs.getD k r40).get frm)⟩])⟩,1):=by rw [st2,if_neg ho,if_pos hfr]
      rw [← hR,← hW,hst,hsx]
      exact retTurnA hkb (by decide) List.mem_cons_self (fun E E'=>by simp [SV.den,SC.den]) (by simp) rfl rfl rfl rfl (set_atsT (enc:=eI) hk1) rfl rfl (fun e he=>if_neg he) rfl rfl
    ·have dfr:decide (frm≥0)=false:=decide_eq_false hfr
     by_cases ho:o=1
     ·have do1:(o != 1)=false:=by simp [ho]
      simp (maxSteps:=2000000) only [go_sem,↓condS,↓runOp,↓imp_ft,↓imp_ff,↓reduceIte,Nat.reduceLT,Nat.reduceLeDiff,Nat.reduceAdd,Nat.reduceMul,Nat.reduceEqDiff,reduceCtorEq,Int.reduceToNat,Int.reduceLT,Int.reduceLE,ir40_44,dhe,Ins.enc,hci,do1]
      refine And.intro (by omega) (And.intro (by omega) (And.intro ⟨_,Try.func75,by kernel_rfl,by kernel_rfl⟩ ?_))
      refine call_inline (c:=ir75) (rs:=rs75) (nt:=nt75) 1000 (mkTab_ok _ _) Try.func75 rfl (by kernel_rfl) (by kernel_rfl) rfl (by simp [okVs,SV.okN,SC.okN]) (of_decide_eq_true rfl) (fun E0 a0 ht0=>?_)
      simp (maxSteps:=2000000) only [ir75,nt75,rs75,go_sem,↓condS,↓runOp,↓imp_ft,↓imp_ff,↓reduceIte,Nat.reduceLT,Nat.reduceAdd,Nat.reduceEqDiff,reduceCtorEq,dfr]
      refine draw_vc (by kernel_rfl) (mkTab_ok _ _) (of_decide_eq_true rfl) (of_decide_eq_true rfl) ?_
      repeat (first | simp (maxSteps:=2000000) only [go_sem,↓runOp,↓gateD,↓runD,↓reduceIte,Nat.reduceLT,Nat.reduceLeDiff,Nat.reduceAdd,Nat.reduceEqDiff,reduceCtorEq] | rw [dr_cons])
      repeat (with_reducible refine And.intro (by first | omega | (simp only [maxLen];omega) | exact Or.inl trivial | exact Or.inr trivial | exact ⟨Or.inl trivial,Or.inr trivial⟩ | exact trivial) ?_)
      refine retI ht0 _ rfl (of_decide_eq_true rfl) (by simp [SV.okN,SC.okN]) ?_
      simp (maxSteps:=2000000) only [go_sem,↓condS,↓runOp,↓reduceIte,Nat.reduceLT,Nat.reduceEqDiff]
      refine draw_vc (by kernel_rfl) (mkTab_ok _ _) (of_decide_eq_true rfl) (of_decide_eq_true rfl) ?_
      repeat (first | simp (maxSteps:=2000000) only [go_sem,↓runOp,↓gateD,↓runD,↓reduceIte,Nat.reduceLT,Nat.reduceLeDiff,Nat.reduceEqDiff,reduceCtorEq,hwp] | rw [dr_cons])
      repeat (with_reducible refine And.intro (by first | omega | (simp only [maxLen];omega) | exact Or.inl trivial | exact Or.inr trivial | exact ⟨Or.inl trivial,Or.inr trivial⟩ | exact trivial) ?_)
      have hsx:stepS o s k ⟨2,reg,ad,val,frm,old,cnt⟩=some (⟨s.words.set ad.toNat val,s.regs,s.places,s.bufs⟩,1):=by rw [st2,if_pos ho,if_neg hfr]
      rw [← hR,← hW,hst,hsx]
      exact retTurnP (s:=⟨s.words.set ad.toNat val,s.regs,_,s.bufs⟩) (s0:=s) List.mem_cons_self (fun E E'=>by simp [SV.den,SC.den]) (by simp) rfl (by simp) rfl rfl rfl (set_atsT (enc:=eI) hadn) rfl rfl rfl (set_atsT (enc:=eI) hk1) rfl rfl
     ·have do1:(o != 1)=true:=by simp [ho]
      simp (maxSteps:=2000000) only [go_sem,↓condS,↓runOp,↓imp_ft,↓imp_ff,↓reduceIte,Nat.reduceLT,Nat.reduceLeDiff,Nat.reduceAdd,Nat.reduceMul,Nat.reduceEqDiff,reduceCtorEq,Int.reduceToNat,Int.reduceLT,Int.reduceLE,ir40_44,dhe,Ins.enc,hci,do1]
      refine And.intro (by omega) (And.intro (by omega) (And.intro ⟨_,Try.func75,by kernel_rfl,by kernel_rfl⟩ ?_))
      refine call_inline (c:=ir75) (rs:=rs75) (nt:=nt75) 1000 (mkTab_ok _ _) Try.func75 rfl (by kernel_rfl) (by kernel_rfl) rfl (by simp [okVs,SV.okN,SC.okN]) (of_decide_eq_true rfl) (fun E0 a0 ht0=>?_)
      simp (maxSteps:=2000000) only [ir75,nt75,rs75,go_sem,↓condS,↓runOp,↓imp_ft,↓imp_tf,↓imp_tt,↓imp_ff,↓reduceIte,Nat.reduceLT,Nat.reduceAdd,Nat.reduceEqDiff,reduceCtorEq,dfr]
      refine draw_vc (by kernel_rfl) (mkTab_ok _ _) (of_decide_eq_true rfl) (of_decide_eq_true rfl) ?_
      repeat (first | simp (maxSteps:=2000000) only [go_sem,↓runOp,↓gateD,↓runD,↓reduceIte,Nat.reduceLT,Nat.reduceLeDiff,Nat.reduceAdd,Nat.reduceMul,Nat.reduceEqDiff,reduceCtorEq,bfC,bfO] | rw [dr_cons])
      repeat (with_reducible refine And.intro (by first | omega | (simp only [maxLen];omega) | exact Or.inl trivial | exact Or.inr trivial | exact ⟨Or.inl trivial,Or.inr trivial⟩ | exact trivial) ?_)
      refine retI ht0 _ rfl (of_decide_eq_true rfl) (by simp [SV.okN,SC.okN]) ?_
      simp (maxSteps:=2000000) only [go_sem,↓condS,↓runOp,↓reduceIte,Nat.reduceLT,Nat.reduceEqDiff]
      refine draw_vc (by kernel_rfl) (mkTab_ok _ _) (of_decide_eq_true rfl) (of_decide_eq_true rfl) ?_
      repeat (first | simp (maxSteps:=2000000) only [go_sem,↓runOp,↓gateD,↓runD,↓reduceIte,Nat.reduceLT,Nat.reduceLeDiff,Nat.reduceEqDiff,reduceCtorEq,hwp] | rw [dr_cons])
      repeat (with_reducible refine And.intro (by first | omega | (simp only [maxLen];omega) | exact Or.inl trivial | exact Or.inr trivial | exact ⟨Or.inl trivial,Or.inr trivial⟩ | exact trivial) ?_)
      have hsx:stepS o s k ⟨2,reg,ad,val,frm,old,cnt⟩=some (⟨s.words,s.regs,s.places,s.bufs.set k (s.bufs.getD k []++[⟨ad,val⟩])⟩,1):=by rw [st2,if_neg ho,if_neg hfr]
      rw [← hR,← hW,hst,hsx]
      exact retTurnA hkb (by decide) List.mem_cons_self (fun E E'=>by simp [SV.den,SC.den]) (by simp) rfl rfl rfl rfl (set_atsT (enc:=eI) hk1) rfl rfl (fun e he=>if_neg he) rfl rfl
   by_cases k3:kind=3
   ·subst k3
    have hg:0≤reg∧reg<4:=f3 (by decide) (by decide)
    have hnr:=nth_r4 (xs:=s.regs) (k:=k) hg
    have had:0≤ad∧ad<s.words.length:=by rw [lw];exact f4 (by decide)
    have hadn:ad.toNat<s.words.length:=by omega
    by_cases hbf:(s.bufs.getD k []).length>0
    ·have dbf:(((s.bufs.getD k []).length:Int) == 0)=false:=by rw [beq_eq_false_iff_ne];omega
     simp (maxSteps:=2000000) only [go_sem,↓condS,↓runOp,↓imp_ft,↓imp_ff,↓reduceIte,Nat.reduceLT,Nat.reduceLeDiff,Nat.reduceAdd,Nat.reduceMul,Nat.reduceEqDiff,reduceCtorEq,Int.reduceToNat,Int.reduceLT,Int.reduceLE,ir40_44,dhe,Ins.enc,hci]
     refine And.intro (by omega) (And.intro (by omega) (And.intro ⟨_,Try.func76,by kernel_rfl,by kernel_rfl⟩ ?_))
     refine call_inline (c:=ir76) (rs:=rs76) (nt:=nt76) 1000 (mkTab_ok _ _) Try.func76 rfl (by kernel_rfl) (by kernel_rfl) rfl (by simp [okVs,SV.okN,SC.okN]) (of_decide_eq_true rfl) (fun E0 a0 ht0=>?_)
     simp (maxSteps:=2000000) only [ir76,nt76,rs76,go_sem,↓runOp,↓reduceIte,Nat.reduceLT,Nat.reduceEqDiff,reduceCtorEq]
     refine call_inline (c:=ir77) (rs:=rs77) (nt:=nt77) 1000 (mkTab_ok _ _) Try.func77 rfl (by kernel_rfl) (by kernel_rfl) rfl (by simp [okVs,SV.okN,SC.okN]) (of_decide_eq_true rfl) (fun E1 a1 ht1=>?_)
     simp (maxSteps:=2000000) only [ir77,nt77,rs77,go_sem,↓runOp,↓reduceIte,Nat.reduceLT,Nat.reduceEqDiff,reduceCtorEq]
     refine draw_vc (by kernel_rfl) (mkTab_ok _ _) (of_decide_eq_true rfl) (of_decide_eq_true rfl) ?_
     repeat (first | simp (maxSteps:=2000000) only [go_sem,↓gateD,↓runD,↓reduceIte,Nat.reduceLT,Nat.reduceEqDiff,reduceCtorEq,bfC,dbf] | rw [dr_cons])
     repeat (with_reducible refine And.intro (by first | omega | (simp only [maxLen];omega) | exact Or.inl trivial | exact Or.inr trivial | exact ⟨Or.inl trivial,Or.inr trivial⟩ | exact trivial) ?_)
     refine retI ht1 _ rfl (of_decide_eq_true rfl) (by simp [SV.okN,SC.okN]) ?_
     simp (maxSteps:=2000000) only [go_sem,↓condS,↓runOp,↓imp_tf,↓imp_tt,↓reduceIte,Nat.reduceLT,Nat.reduceEqDiff,reduceCtorEq,mkI_rs]
     refine retI ht0 _ rfl (of_decide_eq_true rfl) (by simp [SV.okN,SC.okN]) ?_
     simp (maxSteps:=2000000) only [go_sem,↓condS,↓runOp,↓reduceIte,Nat.reduceLT,Nat.reduceEqDiff]
     exact hno (by rw [hst,st3,if_pos hbf]) List.mem_cons_self rfl rfl rfl rfl rfl rfl
    ·have dbf:(((s.bufs.getD k []).length:Int) == 0)=true:=by rw [beq_iff_eq];omega
     simp (maxSteps:=2000000) only [go_sem,↓condS,↓runOp,↓imp_ft,↓imp_ff,↓reduceIte,Nat.reduceLT,Nat.reduceLeDiff,Nat.reduceAdd,Nat.reduceMul,Nat.reduceEqDiff,reduceCtorEq,Int.reduceToNat,Int.reduceLT,Int.reduceLE,ir40_44,dhe,Ins.enc,hci]
     refine And.intro (by omega) (And.intro (by omega) (And.intro ⟨_,Try.func76,by kernel_rfl,by kernel_rfl⟩ ?_))
     refine call_inline (c:=ir76) (rs:=rs76) (nt:=nt76) 1000 (mkTab_ok _ _) Try.func76 rfl (by kernel_rfl) (by kernel_rfl) rfl (by simp [okVs,SV.okN,SC.okN]) (of_decide_eq_true rfl) (fun E0 a0 ht0=>?_)
     simp (maxSteps:=2000000) only [ir76,nt76,rs76,go_sem,↓runOp,↓reduceIte,Nat.reduceLT,Nat.reduceEqDiff,reduceCtorEq]
     refine call_inline (c:=ir77) (rs:=rs77) (nt:=nt77) 1000 (mkTab_ok _ _) Try.func77 rfl (by kernel_rfl) (by kernel_rfl) rfl (by simp [okVs,SV.okN,SC.okN]) (of_decide_eq_true rfl) (fun E1 a1 ht1=>?_)
     simp (maxSteps:=2000000) only [ir77,nt77,rs77,go_sem,↓runOp,↓reduceIte,Nat.reduceLT,Nat.reduceEqDiff,reduceCtorEq]
     refine draw_vc (by kernel_rfl) (mkTab_ok _ _) (of_decide_eq_true rfl) (of_decide_eq_true rfl) ?_
     repeat (first | simp (maxSteps:=2000000) only [go_sem,↓gateD,↓runD,↓reduceIte,Nat.reduceLT,Nat.reduceEqDiff,reduceCtorEq,bfC,dbf] | rw [dr_cons])
     repeat (with_reducible refine And.intro (by first | omega | (simp only [maxLen];omega) | exact Or.inl trivial | exact Or.inr trivial | exact ⟨Or.inl trivial,Or.inr trivial⟩ | exact trivial) ?_)
     refine retI ht1 _ rfl (of_decide_eq_true rfl) (by simp [SV.okN,SC.okN]) ?_
     simp (maxSteps:=2000000) only [go_sem,↓condS,↓runOp,↓imp_ft,↓imp_ff,↓reduceIte,Nat.reduceLT,Nat.reduceEqDiff,reduceCtorEq]
     refine call_intro (reg_cr (regs:=s.regs) rfl rfl hkr hg rfl rfl rfl (fun _ _=>rfl) ⟨rfl,rfl,rfl,rfl,rfl,rfl,fun _=>rfl⟩ fun _=>⟨rfl,rfl,rfl⟩) (fun i hi=>by rw [List.mem_singleton] at hi;subst hi;exact (show 7<16 by decide)) ?_
     simp (maxSteps:=2000000) only [go_sem,↓runOp,↓reduceIte,Nat.reduceLT,Nat.reduceLeDiff,Nat.reduceEqDiff,reduceCtorEq]
     repeat (with_reducible refine And.intro (by first | omega | (simp only [maxLen];omega) | exact Or.inl trivial | exact Or.inr trivial | exact ⟨Or.inl trivial,Or.inr trivial⟩ | exact trivial) ?_)
     rw [put_r4 hkr hg]
     refine draw_vc (by kernel_rfl) (mkTab_ok _ _) (of_decide_eq_true rfl) (of_decide_eq_true rfl) ?_
     repeat (first | simp (maxSteps:=2000000) only [go_sem,↓condS,↓runOp,↓gateD,↓runD,↓reduceIte,Nat.reduceLT,Nat.reduceAdd,Nat.reduceEqDiff,reduceCtorEq] | rw [dr_cons])
     repeat (with_reducible refine And.intro (by first | omega | (simp only [maxLen];omega) | exact Or.inl trivial | exact Or.inr trivial | exact ⟨Or.inl trivial,Or.inr trivial⟩ | exact trivial) ?_)
     refine both (fun hq=>?_) (fun hq=>?_)
     ·have hq:s.words.getD ad.toNat 0=old:=by simpa using hq
      have hkr2:k<(s.regs.set k ((s.regs.getD k r40).put reg 0)).length:=by simpa using hkr
      refine draw_vc (by kernel_rfl) (mkTab_ok _ _) (of_decide_eq_true rfl) (of_decide_eq_true rfl) ?_
      repeat (first | simp (maxSteps:=2000000) only [go_sem,↓runOp,↓gateD,↓runD,↓reduceIte,Nat.reduceLT,Nat.reduceLeDiff,Nat.reduceAdd,Nat.reduceEqDiff,reduceCtorEq] | rw [dr_cons])
      repeat (with_reducible refine And.intro (by first | omega | (simp only [maxLen];omega) | exact Or.inl trivial | exact Or.inr trivial | exact ⟨Or.inl trivial,Or.inr trivial⟩ | exact trivial) ?_)
      refine call_intro (reg_cr (regs:=s.regs.set k ((s.regs.getD k r40).put reg 0)) rfl (by simp) hkr2 hg rfl rfl rfl (fun _ _=>rfl) ⟨rfl,rfl,rfl,rfl,rfl,rfl,fun _=>rfl⟩ fun _=>⟨rfl,rfl,rfl⟩) (fun i hi=>by rw [List.mem_singleton] at hi;subst hi;exact (show 7<16 by decide)) ?_
      simp (maxSteps:=2000000) only [go_sem,↓runOp,↓reduceIte,Nat.reduceLT,Nat.reduceLeDiff,Nat.reduceEqDiff,reduceCtorEq]
      repeat (with_reducible refine And.intro (by first | omega | (simp only [maxLen];omega) | exact Or.inl trivial | exact Or.inr trivial | exact ⟨Or.inl trivial,Or.inr trivial⟩ | exact trivial) ?_)
      refine retI ht0 _ rfl (of_decide_eq_true rfl) (by simp [SV.okN,SC.okN]) ?_
      simp (maxSteps:=2000000) only [go_sem,↓condS,↓runOp,↓reduceIte,Nat.reduceLT,Nat.reduceEqDiff]
      refine draw_vc (by kernel_rfl) (mkTab_ok _ _) (of_decide_eq_true rfl) (of_decide_eq_true rfl) ?_
      repeat (first | simp (maxSteps:=2000000) only [go_sem,↓runOp,↓gateD,↓runD,↓reduceIte,Nat.reduceLT,Nat.reduceLeDiff,Nat.reduceEqDiff,reduceCtorEq,hwp] | rw [dr_cons])
      repeat (with_reducible refine And.intro (by first | omega | (simp only [maxLen];omega) | exact Or.inl trivial | exact Or.inr trivial | exact ⟨Or.inl trivial,Or.inr trivial⟩ | exact trivial) ?_)
      have hsx:stepS o s k ⟨3,reg,ad,val,frm,old,cnt⟩=some (⟨s.words.set ad.toNat val,s.regs.set k ((s.regs.getD k r40).put reg 1),s.places,s.bufs⟩,1):=by rw [st3,if_neg hbf,if_pos hq]
      rw [← hR,← hW,hst,hsx]
      exact retTurnP (s:=⟨s.words.set ad.toNat val,s.regs.set k ((s.regs.getD k r40).put reg 1),_,s.bufs⟩) (s0:=s) List.mem_cons_self (fun E E'=>by simp [SV.den,SC.den]) (by simp) (by simp) (by simp) rfl rfl rfl (set_atsT (enc:=eI) hadn) rfl ((put_r4 hkr2 hg).trans (by rw [put_twice hkr hg])) rfl (set_atsT (enc:=eI) hk1) rfl rfl
     ·have hq:¬ s.words.getD ad.toNat 0=old:=by simpa using hq
      refine retI ht0 _ rfl (of_decide_eq_true rfl) (by simp [SV.okN,SC.okN]) ?_
      simp (maxSteps:=2000000) only [go_sem,↓condS,↓runOp,↓reduceIte,Nat.reduceLT,Nat.reduceEqDiff]
      refine draw_vc (by kernel_rfl) (mkTab_ok _ _) (of_decide_eq_true rfl) (of_decide_eq_true rfl) ?_
      repeat (first | simp (maxSteps:=2000000) only [go_sem,↓runOp,↓gateD,↓runD,↓reduceIte,Nat.reduceLT,Nat.reduceLeDiff,Nat.reduceEqDiff,reduceCtorEq,hwp] | rw [dr_cons])
      repeat (with_reducible refine And.intro (by first | omega | (simp only [maxLen];omega) | exact Or.inl trivial | exact Or.inr trivial | exact ⟨Or.inl trivial,Or.inr trivial⟩ | exact trivial) ?_)
      have hsx:stepS o s k ⟨3,reg,ad,val,frm,old,cnt⟩=some (⟨s.words,s.regs.set k ((s.regs.getD k r40).put reg 0),s.places,s.bufs⟩,1):=by rw [st3,if_neg hbf,if_neg hq]
      rw [← hR,← hW,hst,hsx]
      exact retTurnP (s:=⟨s.words,s.regs.set k ((s.regs.getD k r40).put reg 0),_,s.bufs⟩) (s0:=s) List.mem_cons_self (fun E E'=>by simp [SV.den,SC.den]) rfl (by simp) (by simp) rfl rfl rfl rfl rfl rfl rfl (set_atsT (enc:=eI) hk1) rfl rfl
   by_cases k4:kind=4
   ·subst k4
    by_cases hbf:(s.bufs.getD k []).length>0
    ·have dbf:(((s.bufs.getD k []).length:Int) == 0)=false:=by rw [beq_eq_false_iff_ne];omega
     simp (maxSteps:=2000000) only [go_sem,↓condS,↓runOp,↓imp_ft,↓imp_ff,↓reduceIte,Nat.reduceLT,Nat.reduceLeDiff,Nat.reduceAdd,Nat.reduceMul,Nat.reduceEqDiff,reduceCtorEq,Int.reduceToNat,Int.reduceLT,Int.reduceLE,ir40_44,dhe,Ins.enc,hci]
     refine And.intro (by omega) (And.intro (by omega) (And.intro ⟨_,Try.func77,by kernel_rfl,by kernel_rfl⟩ ?_))
     refine call_inline (c:=ir77) (rs:=rs77) (nt:=nt77) 1000 (mkTab_ok _ _) Try.func77 rfl (by kernel_rfl) (by kernel_rfl) rfl (by simp [okVs,SV.okN,SC.okN]) (of_decide_eq_true rfl) (fun E0 a0 ht0=>?_)
     simp (maxSteps:=2000000) only [ir77,nt77,rs77,go_sem,↓runOp,↓reduceIte,Nat.reduceLT,Nat.reduceEqDiff,reduceCtorEq]
     refine draw_vc (by kernel_rfl) (mkTab_ok _ _) (of_decide_eq_true rfl) (of_decide_eq_true rfl) ?_
     repeat (first | simp (maxSteps:=2000000) only [go_sem,↓gateD,↓runD,↓reduceIte,Nat.reduceLT,Nat.reduceEqDiff,reduceCtorEq,bfC,dbf] | rw [dr_cons])
     repeat (with_reducible refine And.intro (by first | omega | (simp only [maxLen];omega) | exact Or.inl trivial | exact Or.inr trivial | exact ⟨Or.inl trivial,Or.inr trivial⟩ | exact trivial) ?_)
     refine retI ht0 _ rfl (of_decide_eq_true rfl) (by simp [SV.okN,SC.okN]) ?_
     simp (maxSteps:=2000000) only [go_sem,↓condS,↓runOp,↓imp_tf,↓imp_tt,↓reduceIte,Nat.reduceLT,Nat.reduceEqDiff]
     exact hno (by rw [hst,st4,if_pos hbf]) List.mem_cons_self rfl rfl rfl rfl rfl rfl
    ·have dbf:(((s.bufs.getD k []).length:Int) == 0)=true:=by rw [beq_iff_eq];omega
     simp (maxSteps:=2000000) only [go_sem,↓condS,↓runOp,↓imp_ft,↓imp_ff,↓reduceIte,Nat.reduceLT,Nat.reduceLeDiff,Nat.reduceAdd,Nat.reduceMul,Nat.reduceEqDiff,reduceCtorEq,Int.reduceToNat,Int.reduceLT,Int.reduceLE,ir40_44,dhe,Ins.enc,hci]
     refine And.intro (by omega) (And.intro (by omega) (And.intro ⟨_,Try.func77,by kernel_rfl,by kernel_rfl⟩ ?_))
     refine call_inline (c:=ir77) (rs:=rs77) (nt:=nt77) 1000 (mkTab_ok _ _) Try.func77 rfl (by kernel_rfl) (by kernel_rfl) rfl (by simp [okVs,SV.okN,SC.okN]) (of_decide_eq_true rfl) (fun E0 a0 ht0=>?_)
     simp (maxSteps:=2000000) only [ir77,nt77,rs77,go_sem,↓runOp,↓reduceIte,Nat.reduceLT,Nat.reduceEqDiff,reduceCtorEq]
     refine draw_vc (by kernel_rfl) (mkTab_ok _ _) (of_decide_eq_true rfl) (of_decide_eq_true rfl) ?_
     repeat (first | simp (maxSteps:=2000000) only [go_sem,↓gateD,↓runD,↓reduceIte,Nat.reduceLT,Nat.reduceEqDiff,reduceCtorEq,bfC,dbf] | rw [dr_cons])
     repeat (with_reducible refine And.intro (by first | omega | (simp only [maxLen];omega) | exact Or.inl trivial | exact Or.inr trivial | exact ⟨Or.inl trivial,Or.inr trivial⟩ | exact trivial) ?_)
     refine retI ht0 _ rfl (of_decide_eq_true rfl) (by simp [SV.okN,SC.okN]) ?_
     simp (maxSteps:=2000000) only [go_sem,↓condS,↓runOp,↓imp_ft,↓imp_ff,↓reduceIte,Nat.reduceLT,Nat.reduceEqDiff]
     refine draw_vc (by kernel_rfl) (mkTab_ok _ _) (of_decide_eq_true rfl) (of_decide_eq_true rfl) ?_
     repeat (first | simp (maxSteps:=2000000) only [go_sem,↓runOp,↓gateD,↓runD,↓reduceIte,Nat.reduceLT,Nat.reduceLeDiff,Nat.reduceEqDiff,reduceCtorEq,hwp] | rw [dr_cons])
     repeat (with_reducible refine And.intro (by first | omega | (simp only [maxLen];omega) | exact Or.inl trivial | exact Or.inr trivial | exact ⟨Or.inl trivial,Or.inr trivial⟩ | exact trivial) ?_)
     have hsx:stepS o s k ⟨4,reg,ad,val,frm,old,cnt⟩=some (⟨s.words,s.regs,s.places,s.bufs⟩,1):=by rw [st4,if_neg hbf]
     rw [← hR,← hW,hst,hsx]
     exact retTurnP (s:=⟨s.words,s.regs,_,s.bufs⟩) (s0:=s) List.mem_cons_self (fun E E'=>by simp [SV.den,SC.den]) rfl rfl (by simp) rfl rfl rfl rfl rfl rfl rfl (set_atsT (enc:=eI) hk1) rfl rfl
   by_cases k5:kind=5
   ·subst k5
    have hg:0≤reg∧reg<4:=f3 (by decide) (by decide)
    have hnr:=nth_r4 (xs:=s.regs) (k:=k) hg
    simp (maxSteps:=2000000) only [go_sem,↓condS,↓runOp,↓imp_ft,↓imp_ff,↓reduceIte,Nat.reduceLT,Nat.reduceLeDiff,Nat.reduceAdd,Nat.reduceMul,Nat.reduceEqDiff,reduceCtorEq,Int.reduceToNat,Int.reduceLT,Int.reduceLE,ir40_44,dhe,Ins.enc,hci]
    refine And.intro (by omega) (And.intro (by omega) (And.intro ⟨_,Try.func78,by kernel_rfl,by kernel_rfl⟩ ?_))
    refine call_inline (c:=ir78) (rs:=rs78) (nt:=nt78) 1000 (mkTab_ok _ _) Try.func78 rfl (by kernel_rfl) (by kernel_rfl) rfl (by simp [okVs,SV.okN,SC.okN]) (of_decide_eq_true rfl) (fun E0 a0 ht0=>?_)
    simp (maxSteps:=2000000) only [ir78,nt78,rs78,go_sem,↓runOp,↓reduceIte,Nat.reduceLT,Nat.reduceEqDiff,reduceCtorEq]
    refine draw_vc (by kernel_rfl) (mkTab_ok _ _) (of_decide_eq_true rfl) (of_decide_eq_true rfl) ?_
    repeat (first | simp (maxSteps:=2000000) only [go_sem,↓gateD,↓runD,↓reduceIte,Nat.reduceLT,Nat.reduceEqDiff,reduceCtorEq] | rw [dr_cons])
    refine dcall_intro (reg_cr (regs:=s.regs) rfl rfl hkr hg rfl rfl rfl (fun _ _=>rfl) ⟨rfl,rfl,rfl,rfl,rfl,rfl,fun _=>rfl⟩ fun _=>⟨rfl,rfl,rfl⟩) rfl trivial trivial (fun k hk=>by cases hk) ?_
    repeat (first | simp (maxSteps:=2000000) only [go_sem,↓runOp,↓gateD,↓runD,↓reduceIte,Nat.reduceLT,Nat.reduceLeDiff,Nat.reduceAdd,Nat.reduceEqDiff,reduceCtorEq] | rw [dr_cons])
    repeat (with_reducible refine And.intro (by first | omega | (simp only [maxLen];omega) | exact Or.inl trivial | exact Or.inr trivial | exact ⟨Or.inl trivial,Or.inr trivial⟩ | exact trivial) ?_)
    refine retI ht0 _ rfl (of_decide_eq_true rfl) (by simp [SV.okN,SC.okN]) ?_
    simp (maxSteps:=2000000) only [go_sem,↓condS,↓runOp,↓reduceIte,Nat.reduceLT,Nat.reduceEqDiff]
    rw [put_r4 hkr hg]
    refine draw_vc (by kernel_rfl) (mkTab_ok _ _) (of_decide_eq_true rfl) (of_decide_eq_true rfl) ?_
    repeat (first | simp (maxSteps:=2000000) only [go_sem,↓runOp,↓gateD,↓runD,↓reduceIte,Nat.reduceLT,Nat.reduceLeDiff,Nat.reduceEqDiff,reduceCtorEq,hwp] | rw [dr_cons])
    repeat (with_reducible refine And.intro (by first | omega | (simp only [maxLen];omega) | exact Or.inl trivial | exact Or.inr trivial | exact ⟨Or.inl trivial,Or.inr trivial⟩ | exact trivial) ?_)
    have hsx:stepS o s k ⟨5,reg,ad,val,frm,old,cnt⟩=some (⟨s.words,s.regs.set k ((s.regs.getD k r40).put reg val),s.places,s.bufs⟩,1):=by simp [stepS]
    rw [← hR,← hW,hst,hsx]
    exact retTurnP (s:=⟨s.words,s.regs.set k ((s.regs.getD k r40).put reg val),_,s.bufs⟩) (s0:=s) List.mem_cons_self (fun E E'=>by simp [SV.den,SC.den]) rfl (by simp) (by simp) rfl rfl rfl rfl rfl rfl rfl (set_atsT (enc:=eI) hk1) rfl rfl
   by_cases k6:kind=6
   ·subst k6
    have hg:0≤reg∧reg<4:=f3 (by decide) (by decide)
    have hnr:=nth_r4 (xs:=s.regs) (k:=k) hg
    simp (maxSteps:=2000000) only [go_sem,↓condS,↓runOp,↓imp_ft,↓imp_ff,↓reduceIte,Nat.reduceLT,Nat.reduceLeDiff,Nat.reduceAdd,Nat.reduceMul,Nat.reduceEqDiff,reduceCtorEq,Int.reduceToNat,Int.reduceLT,Int.reduceLE,ir40_44,dhe,Ins.enc,hci]
    refine And.intro (by omega) (And.intro (by omega) (And.intro ⟨_,Try.func79,by kernel_rfl,by kernel_rfl⟩ ?_))
    refine call_inline (c:=ir79) (rs:=rs79) (nt:=nt79) 1000 (mkTab_ok _ _) Try.func79 rfl (by kernel_rfl) (by kernel_rfl) rfl (by simp [okVs,SV.okN,SC.okN]) (of_decide_eq_true rfl) (fun E0 a0 ht0=>?_)
    simp (maxSteps:=2000000) only [ir79,nt79,rs79,go_sem,↓runOp,↓reduceIte,Nat.reduceLT,Nat.reduceEqDiff,reduceCtorEq]
    refine draw_vc (by kernel_rfl) (mkTab_ok _ _) (of_decide_eq_true rfl) (of_decide_eq_true rfl) ?_
    repeat (first | simp (maxSteps:=2000000) only [go_sem,↓gateD,↓runD,↓reduceIte,Nat.reduceLT,Nat.reduceEqDiff,reduceCtorEq] | rw [dr_cons])
    refine dcall_intro (reg_cr (regs:=s.regs) rfl rfl hkr hg rfl rfl rfl (fun _ _=>rfl) ⟨rfl,rfl,rfl,rfl,rfl,rfl,fun _=>rfl⟩ fun _=>⟨rfl,rfl,rfl⟩) rfl trivial trivial (fun k hk=>by cases hk) ?_
    repeat (first | simp (maxSteps:=2000000) only [go_sem,↓runOp,↓gateD,↓runD,↓reduceIte,Nat.reduceLT,Nat.reduceLeDiff,Nat.reduceAdd,Nat.reduceEqDiff,reduceCtorEq,hnr] | rw [dr_cons])
    repeat (with_reducible refine And.intro (by first | omega | (simp only [maxLen];omega) | exact Or.inl trivial | exact Or.inr trivial | exact ⟨Or.inl trivial,Or.inr trivial⟩ | exact trivial) ?_)
    refine retI ht0 _ rfl (of_decide_eq_true rfl) (by simp [SV.okN,SC.okN]) ?_
    simp (maxSteps:=2000000) only [go_sem,↓condS,↓runOp,↓reduceIte,Nat.reduceLT,Nat.reduceEqDiff]
    rw [put_r4 hkr hg]
    refine draw_vc (by kernel_rfl) (mkTab_ok _ _) (of_decide_eq_true rfl) (of_decide_eq_true rfl) ?_
    repeat (first | simp (maxSteps:=2000000) only [go_sem,↓runOp,↓gateD,↓runD,↓reduceIte,Nat.reduceLT,Nat.reduceLeDiff,Nat.reduceEqDiff,reduceCtorEq,hwp] | rw [dr_cons])
    repeat (with_reducible refine And.intro (by first | omega | (simp only [maxLen];omega) | exact Or.inl trivial | exact Or.inr trivial | exact ⟨Or.inl trivial,Or.inr trivial⟩ | exact trivial) ?_)
    have hsx:stepS o s k ⟨6,reg,ad,val,frm,old,cnt⟩=some (⟨s.words,s.regs.set k ((s.regs.getD k r40).put reg (IntKind.i64.wrap ((s.regs.getD k r40).get reg+val))),s.places,s.bufs⟩,1):=by simp [stepS]
    rw [← hR,← hW,hst,hsx]
    exact retTurnP (s:=⟨s.words,s.regs.set k ((s.regs.getD k r40).put reg (IntKind.i64.wrap ((s.regs.getD k r40).get reg+val))),_,s.bufs⟩) (s0:=s) List.mem_cons_self (fun E E'=>by simp [SV.den,SC.den]) rfl (by simp) (by simp) rfl rfl rfl rfl rfl rfl rfl (set_atsT (enc:=eI) hk1) rfl rfl
   have k7:kind=7:=by omega
   subst k7
   have hg:0≤reg∧reg<4:=f3 (by decide) (by decide)
   have hnr:=nth_r4 (xs:=s.regs) (k:=k) hg
   have hcn:=f6 rfl
   have hwc:IntKind.i64.wrap (s.places.getD k 0+cnt)=s.places.getD k 0+cnt:=wrI (by omega)
   have hwd:IntKind.i64.wrap (s.places.getD k 0+cnt+1)=s.places.getD k 0+(1+cnt):=by rw [wrI (by omega)];omega
   have hgs:(s.places.set k (s.places.getD k 0+cnt)).getD k 0=s.places.getD k 0+cnt:=by rw [getD_setE,if_pos ⟨rfl,hk1⟩]
   have hk2:k<(s.places.set k (s.places.getD k 0+cnt)).length:=by simpa using hk1
   simp (maxSteps:=2000000) only [go_sem,↓condS,↓runOp,↓imp_ft,↓imp_ff,↓reduceIte,Nat.reduceLT,Nat.reduceLeDiff,Nat.reduceAdd,Nat.reduceMul,Nat.reduceEqDiff,reduceCtorEq,Int.reduceToNat,Int.reduceLT,Int.reduceLE,ir40_44,dhe,Ins.enc,hci]
   refine And.intro (by omega) (And.intro (by omega) (And.intro ⟨_,Try.func80,by kernel_rfl,by kernel_rfl⟩ ?_))
   refine call_inline (c:=ir80) (rs:=rs80) (nt:=nt80) 1000 (mkTab_ok _ _) Try.func80 rfl (by kernel_rfl) (by kernel_rfl) rfl (by simp [okVs,SV.okN,SC.okN]) (of_decide_eq_true rfl) (fun E0 a0 ht0=>?_)
   simp (maxSteps:=2000000) only [ir80,nt80,rs80,go_sem,↓runOp,↓reduceIte,Nat.reduceLT,Nat.reduceEqDiff,reduceCtorEq]
   refine draw_vc (by kernel_rfl) (mkTab_ok _ _) (of_decide_eq_true rfl) (of_decide_eq_true rfl) ?_
   repeat (first | simp (maxSteps:=2000000) only [go_sem,↓gateD,↓runD,↓reduceIte,Nat.reduceLT,Nat.reduceEqDiff,reduceCtorEq] | rw [dr_cons])
   refine dcall_intro (reg_cr (regs:=s.regs) rfl rfl hkr hg rfl rfl rfl (fun _ _=>rfl) ⟨rfl,rfl,rfl,rfl,rfl,rfl,fun _=>rfl⟩ fun _=>⟨rfl,rfl,rfl⟩) rfl trivial trivial (fun k hk=>by cases hk) ?_
   repeat (first | simp (maxSteps:=2000000) only [go_sem,↓condS,↓runOp,↓gateD,↓runD,↓reduceIte,Nat.reduceLT,Nat.reduceAdd,Nat.reduceEqDiff,reduceCtorEq,hnr] | rw [dr_cons])
   repeat (with_reducible refine And.intro (by first | omega | (simp only [maxLen];omega) | exact Or.inl trivial | exact Or.inr trivial | exact ⟨Or.inl trivial,Or.inr trivial⟩ | exact trivial) ?_)
   refine both (fun hq=>?_) (fun hq=>?_)
   ·have hq:(s.regs.getD k r40).get reg=val:=by simpa using hq
    refine draw_vc (by kernel_rfl) (mkTab_ok _ _) (of_decide_eq_true rfl) (of_decide_eq_true rfl) ?_
    repeat (first | simp (maxSteps:=2000000) only [go_sem,↓runOp,↓gateD,↓runD,↓reduceIte,Nat.reduceLT,Nat.reduceLeDiff,Nat.reduceAdd,Nat.reduceEqDiff,reduceCtorEq,hwc] | rw [dr_cons])
    repeat (with_reducible refine And.intro (by first | omega | (simp only [maxLen];omega) | exact Or.inl trivial | exact Or.inr trivial | exact ⟨Or.inl trivial,Or.inr trivial⟩ | exact trivial) ?_)
    refine retI ht0 _ rfl (of_decide_eq_true rfl) (by simp [SV.okN,SC.okN]) ?_
    simp (maxSteps:=2000000) only [go_sem,↓condS,↓runOp,↓reduceIte,Nat.reduceLT,Nat.reduceEqDiff]
    rw [show setAt k (ats eI s.places 0) [.v (.int .i64 (s.places.getD k 0+cnt))]=ats eI (s.places.set k (s.places.getD k 0+cnt)) 0 from set_atsT (enc:=eI) hk1]
    refine draw_vc (by kernel_rfl) (mkTab_ok _ _) (of_decide_eq_true rfl) (of_decide_eq_true rfl) ?_
    repeat (first | simp (maxSteps:=2000000) only [go_sem,↓runOp,↓gateD,↓runD,↓reduceIte,Nat.reduceLT,Nat.reduceLeDiff,Nat.reduceEqDiff,reduceCtorEq,hgs,hwd] | rw [dr_cons])
    repeat (with_reducible refine And.intro (by first | omega | (simp only [maxLen];omega) | exact Or.inl trivial | exact Or.inr trivial | exact ⟨Or.inl trivial,Or.inr trivial⟩ | exact trivial) ?_)
    have hsx:stepS o s k ⟨7,reg,ad,val,frm,old,cnt⟩=some (⟨s.words,s.regs,s.places,s.bufs⟩,1+cnt):=by rw [st7,if_pos hq]
    rw [← hR,← hW,hst,hsx]
    exact retTurnP (s:=⟨s.words,s.regs,_,s.bufs⟩) (s0:=s) List.mem_cons_self (fun E E'=>by simp [SV.den,SC.den]) rfl rfl (by simp) rfl rfl rfl rfl rfl rfl rfl ((set_atsT (enc:=eI) hk2).trans (by rw [List.set_set])) rfl rfl
   ·have hq:¬ (s.regs.getD k r40).get reg=val:=by simpa using hq
    refine retI ht0 _ rfl (of_decide_eq_true rfl) (by simp [SV.okN,SC.okN]) ?_
    simp (maxSteps:=2000000) only [go_sem,↓condS,↓runOp,↓reduceIte,Nat.reduceLT,Nat.reduceEqDiff]
    refine draw_vc (by kernel_rfl) (mkTab_ok _ _) (of_decide_eq_true rfl) (of_decide_eq_true rfl) ?_
    repeat (first | simp (maxSteps:=2000000) only [go_sem,↓runOp,↓gateD,↓runD,↓reduceIte,Nat.reduceLT,Nat.reduceLeDiff,Nat.reduceEqDiff,reduceCtorEq,hwp] | rw [dr_cons])
    repeat (with_reducible refine And.intro (by first | omega | (simp only [maxLen];omega) | exact Or.inl trivial | exact Or.inr trivial | exact ⟨Or.inl trivial,Or.inr trivial⟩ | exact trivial) ?_)
    have hsx:stepS o s k ⟨7,reg,ad,val,frm,old,cnt⟩=some (⟨s.words,s.regs,s.places,s.bufs⟩,1):=by rw [st7,if_neg hq]
    rw [← hR,← hW,hst,hsx]
    exact retTurnP (s:=⟨s.words,s.regs,_,s.bufs⟩) (s0:=s) List.mem_cons_self (fun E E'=>by simp [SV.den,SC.den]) rfl rfl (by simp) rfl rfl rfl rfl rfl rfl rfl (set_atsT (enc:=eI) hk1) rfl rfl
 ·have hwi:∀ w',Calls Try.prog 72 #[.int .i64 thr,.int .i64 (L.thr.length:Nat)] w' (RetV w' (.bool false)):=fun w'=>by
   have:=withinL w' thr L.thr.length
   rw [decide_eq_false hk] at this
   exact this
  have hno2:turnS L o s ⟨thr,out,addr⟩=(s,false):=by unfold turnS;rw [if_neg hk]
  simp (maxSteps:=2000000) only [ir40,nt40,rs40,go_sem,↓runOp,↓reduceIte,Nat.reduceLT,Nat.reduceAdd,Nat.reduceEqDiff,reduceCtorEq,ltA,ltS,Tn.enc,stP,stO,stC]
  refine callV (.c (.v (.bool false))) _ (fun E=>rfl) (fun E a w' _=>hwi w') ?_
  simp (maxSteps:=2000000) only [go_sem,↓condS,↓runOp,↓reduceIte,Nat.reduceLT,Nat.reduceEqDiff]
  exact hno hno2 List.mem_cons_self rfl rfl rfl rfl rfl rfl
end Go.Proofs.Ytmcpdafmkkjlcaa.Z
