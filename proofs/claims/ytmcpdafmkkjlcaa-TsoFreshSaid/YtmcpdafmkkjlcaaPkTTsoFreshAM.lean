/- TsoFreshSaid: what its proof is made of. No condition. -/
import Derived.Test.YtmcpdafmkkjlcaaPkTTsoFreshAL
set_option linter.unusedSimpArgs false
set_option linter.unusedVariables false
namespace Go.Proofs.Ytmcpdafmkkjlcaa.Z
open Go Go.RowKit
set_option maxRecDepth 100000 in
set_option maxHeartbeats 8000000 in
theorem iturn_zero (w:World) (E:Env) (L:Lt) (o:Int) (s:LS) (t:Tn) (N:Nat) (hL:checkB L=true) (hwf:WfS L o N s) (hN:N≤100000) (hz:t.thr=0) (h:Handed w E 11 (stP s) (ltA 0 L)) :
  Calls Try.prog 40 (([.agg (ltS 0),.c (.v (.int .i64 o)),.c (.ptr (5,0,0) 0),.agg (t.enc.map .v)]:List SV).map (SV.den E)).toArray w (EffR w E 11 (takesO E (stP s)) (.c (.bo (turnS L o s t).2)) 1 fun b=>killO [10]++stE b (turnS L o s t).1):=by
 refine enterO (c:=ir40) (rs:=rs40) (nt:=nt40) h _ Try.func40 rfl (by kernel_rfl) (by kernel_rfl) rfl (by simp [okVs,SV.okN,SC.okN,SC.okL,okL_v,ltS]) (of_decide_eq_true rfl) ?_
 generalize hR:EffR w E 11 (takesO E (stP s)) (.c (.bo (turnS L o s t).2)) 1 (fun b=>killO [10]++stE b (turnS L o s t).1)=R
 generalize hW:takesO E (stP s)=W
 obtain ⟨z1,z2,z3,z4⟩:=sz_at hL
 obtain ⟨lw,lr,lp,lb,hthr⟩:=hwf
 obtain ⟨thr,out,addr⟩:=t
 have hno:∀ {S2:St},turnS L o s ⟨thr,out,addr⟩=(s,false)→AgF 11 E∈S2.facts→look S2.own 5=some (.one (.bk (stC 6 s) 32))→look S2.own 6=some (.one (.ar s.words.length 1 (ats eI s.words 0) 3))→look S2.own 7=some (.one (.ar s.regs.length 4 (ats R4.enc s.regs r40) 68)) →
   look S2.own 8=some (.one (.ar s.places.length 1 (ats eI s.places 0) 3))→look S2.own 9=some (.one (.ar s.bufs.length 1 (bfC 10 s) 86))→look S2.own 10=some (.fam s.bufs.length (bfO s))→RetVC (mkO Try.prog w W rs40 R) (.c (.v (.bool false))) S2:=fun e h1 h5 h6 h7 h8 h9 h10=>by
  rw [← hR,← hW,e]
  exact retTurn0 h1 (fun E E'=>by simp [SV.den,SC.den]) h5 h6 h7 h8 h9 h10
 by_cases hk:0≤thr∧thr<L.thr.length
 ·obtain ⟨k,rfl⟩:∃ k:Nat,thr=k:=⟨thr.toNat,by omega⟩
  have hk:k<L.thr.length:=by omega
  have hk0:k=0:=by simpa using hz
  have hwi:∀ w',Calls Try.prog 72 #[.int .i64 k,.int .i64 (L.thr.length:Nat)] w' (RetV w' (.bool true)):=fun w'=>by
   have:=withinL w' k L.thr.length
   rw [decide_eq_true (by omega)] at this
   exact this
  obtain ⟨p0,p1,pb,psc,ppend⟩:=hthr k hk
  cases out with
  | true =>
   simp (maxSteps:=2000000) only [ir40,nt40,rs40,go_sem,↓runOp,↓reduceIte,Nat.reduceLT,Nat.reduceAdd,Nat.reduceEqDiff,reduceCtorEq,ltA,ltS,Tn.enc,stP,stO,stC]
   refine callV (.c (.v (.bool true))) _ (fun E=>rfl) (fun E a w' _=>hwi w') ?_
   simp (maxSteps:=2000000) only [go_sem,↓condS,↓runOp,↓reduceIte,Nat.reduceLT,Nat.reduceLeDiff,Nat.reduceAdd,Nat.reduceEqDiff]
   have ht:turnS L o s ⟨k,true,addr⟩=outS o s k addr:=by
    unfold turnS
    rw [if_pos (by simp only;omega),if_pos rfl]
    simp only [Int.toNat_natCast]
   rw [ht] at hR
   refine call_intro (cr_own 11 (stP s) [] (show 11≤13 by decide) (stP_plain s) (stP_le (fun i h=>h) (fun _ _=>rfl) rfl rfl rfl rfl rfl rfl) trivial stE_key (fun E w h=>iout_own w E o s k true addr (by omega) psc (fun p hp=>by rw [lw];exact ppend p hp) (by omega) h)) (lt11 (show 11≤13 by decide)) ?_
   simp (maxSteps:=2000000) only [go_sem,↓runOp,↓reduceIte,Nat.reduceLT,Nat.reduceAdd,Nat.reduceEqDiff,killO,stE]
   rw [← hR,← hW]
   exact retTurnN 13 (by decide) List.mem_cons_self (fun E E'=>by simp [SV.den,SC.den]) rfl rfl rfl rfl rfl rfl
  | false =>
   simp (maxSteps:=2000000) only [ir40,nt40,rs40,go_sem,↓runOp,↓reduceIte,Nat.reduceLT,Nat.reduceAdd,Nat.reduceEqDiff,reduceCtorEq,ltA,ltS,Tn.enc,stP,stO,stC]
   refine callV (.c (.v (.bool true))) _ (fun E=>rfl) (fun E a w' _=>hwi w') ?_
   simp (maxSteps:=2000000) only [go_sem,↓condS,↓runOp,↓reduceIte,Nat.reduceLT,Nat.reduceEqDiff,reduceCtorEq]
   have hk1:k<s.places.length:=by omega
   have hkr:k<s.regs.length:=by omega
   have hkb:k<s.bufs.length:=by omega
   repeat (with_reducible refine And.intro (by first | omega | (simp only [maxLen];omega) | exact Or.inl trivial | exact Or.inr trivial | exact ⟨Or.inl trivial,Or.inr trivial⟩ | exact trivial) ?_)
   refine draw_vc (by kernel_rfl) (mkTab_ok _ _) (of_decide_eq_true rfl) (of_decide_eq_true rfl) ?_
   repeat (first | simp (maxSteps:=2000000) only [go_sem,↓runOp,↓gateD,↓runD,↓reduceIte,Nat.reduceLT,Nat.reduceEqDiff,reduceCtorEq] | rw [dr_cons])
   repeat (with_reducible refine And.intro (by first | omega | (simp only [maxLen];omega) | exact Or.inl trivial | exact Or.inr trivial | exact ⟨Or.inl trivial,Or.inr trivial⟩ | exact trivial) ?_)
   by_cases he:s.places.getD k 0≥(L.thr.getD k []).length
   ·have dhe:decide (s.places.getD k 0≥((L.thr.getD k []).length:Int))=true:=decide_eq_true he
    simp (maxSteps:=2000000) only [go_sem,↓condS,↓runOp,↓imp_tf,↓imp_tt,↓reduceIte,Nat.reduceLT,Nat.reduceEqDiff,ir40_44,dhe]
    exact hno (by unfold turnS;rw [if_pos (by simp only;omega),if_neg (by simp),if_pos (by simp only [Int.toNat_natCast];omega)]) List.mem_cons_self rfl rfl rfl rfl rfl rfl
   have dhe:decide (s.places.getD k 0≥((L.thr.getD k []).length:Int))=false:=decide_eq_false he
   have hpl:(s.places.getD k 0).toNat<(L.thr.getD k []).length:=by omega
   have hfit:=(fits_at hL hk).2 _ (getD_memE (d:=in0) hpl)
   have hst:turnS L o s ⟨k,false,addr⟩=match stepS o s k ((L.thr.getD k []).getD (s.places.getD k 0).toNat in0) with
    | none=>(s,false)
    | some (s',f)=>({ s' with places:=s'.places.set k (if ((L.thr.getD k []).length:Int)<s'.places.getD k 0+f then ((L.thr.getD k []).length:Int) else s'.places.getD k 0+f) },true):=by
    unfold turnS
    rw [if_pos (by simp only;omega),if_neg (by simp),if_neg (by simp only [Int.toNat_natCast];omega)]
    simp only [Int.toNat_natCast]
    cases stepS o s k ((L.thr.getD k []).getD (s.places.getD k 0).toNat in0) with
    | none=>rfl
    | some q=>obtain ⟨s',f⟩:=q;rfl
   have hle10:=(fits_at hL hk).1
   generalize hci:(L.thr.getD k []).getD (s.places.getD k 0).toNat in0=ci at hst hfit
   obtain ⟨kind,reg,ad,val,frm,old,cnt⟩:=ci
   simp only [fitsB,decide_eq_true_eq] at hfit
   obtain ⟨f1,f2,f3,f4,f5,f6⟩:=hfit
   have hwp:IntKind.i64.wrap (s.places.getD k 0+1)=s.places.getD k 0+1:=wrI (by omega)
   subst hk0
   by_cases k1:kind=1
   ·subst k1
    have hg:0≤reg∧reg<4:=f3 (by decide) (by decide)
    have hnr:=nth_r4 (xs:=s.regs) (k:=0) hg
    have had:0≤ad∧ad<s.words.length:=by rw [lw];exact f4 (by decide)
    have hadn:ad.toNat<s.words.length:=by omega
    simp (maxSteps:=2000000) only [go_sem,↓condS,↓runOp,↓imp_ft,↓imp_ff,↓reduceIte,Nat.reduceLT,Nat.reduceLeDiff,Nat.reduceAdd,Nat.reduceMul,Nat.reduceEqDiff,reduceCtorEq,Int.reduceToNat,Int.reduceLT,Int.reduceLE,ir40_44,dhe,Ins.enc,hci]
    refine And.intro (by omega) (And.intro (by omega) (And.intro ⟨_,Try.func74,by kernel_rfl,by kernel_rfl⟩ ?_))
    refine call_inline (c:=ir74) (rs:=rs74) (nt:=nt74) 1000 (mkTab_ok _ _) Try.func74 rfl (by kernel_rfl) (by kernel_rfl) rfl (by simp [okVs,SV.okN,SC.okN]) (of_decide_eq_true rfl) (fun E0 a0 ht0=>?_)
    simp (maxSteps:=2000000) only [ir74,nt74,rs74,go_sem,↓runOp,↓reduceIte,Nat.reduceLT,Nat.reduceEqDiff,reduceCtorEq]
    refine draw_vc (by kernel_rfl) (mkTab_ok _ _) (of_decide_eq_true rfl) (of_decide_eq_true rfl) ?_
    repeat (first | simp (maxSteps:=2000000) only [go_sem,↓gateD,↓runD,↓reduceIte,Nat.reduceLT,Nat.reduceEqDiff,reduceCtorEq] | rw [dr_cons])
    refine dcall_intro (reg_cr (regs:=s.regs) rfl rfl hkr hg rfl rfl rfl (fun _ _=>rfl) ⟨rfl,rfl,rfl,rfl,rfl,rfl,fun _=>rfl⟩ fun _=>⟨rfl,rfl,rfl⟩) rfl trivial trivial (fun _ hk=>by cases hk) ?_
    repeat (first | simp (maxSteps:=2000000) only [go_sem,↓gateD,↓runD,↓reduceIte,Nat.reduceLT,Nat.reduceLeDiff,Nat.reduceAdd,Nat.reduceEqDiff,reduceCtorEq] | rw [dr_cons])
    repeat (with_reducible refine And.intro (by first | omega | (simp only [maxLen];omega) | exact Or.inl trivial | exact Or.inr trivial | exact ⟨Or.inl trivial,Or.inr trivial⟩ | exact trivial) ?_)
    rw [put_r4 hkr hg]
    refine draw_vc (by kernel_rfl) (mkTab_ok _ _) (of_decide_eq_true rfl) (of_decide_eq_true rfl) ?_
    repeat (first | simp (maxSteps:=2000000) only [go_sem,↓gateD,↓runD,↓reduceIte,Nat.reduceLT,Nat.reduceEqDiff,reduceCtorEq,Int.reduceToNat,Int.reduceLE,bfC] | rw [dr_cons])
    repeat (with_reducible refine And.intro (by first | omega | (simp only [maxLen];omega) | exact Or.inl trivial | exact Or.inr trivial | exact ⟨Or.inl trivial,Or.inr trivial⟩ | exact trivial) ?_)
    refine loopI (ι:={ i:Nat // i≤(s.bufs.getD 0 []).length }) (fun i=>⟨54,[(0,.c (.ptr (14,0,0) 0)),(34,.c (.sl (10,0,0) 2 0 (s.bufs.getD 0 []).length none)),(35,.c (.v (.int .i64 (s.bufs.getD 0 []).length))),(36,.c (.v (.int .i64 (i.1:Nat))))],stP (⟨s.words,s.regs.set 0 ((s.regs.getD 0 r40).put reg (seeL (s.words.getD ad.toNat 0) ad ((s.bufs.getD 0 []).take i.1))),s.places,s.bufs⟩:LS)++[(12,.one (.bk [.v (.int .i64 0),.v (.bool false),.v (.int .i64 addr)] 44)),(14,.one (.bk [.ptr (5,0,0) 0,.v (.int .i64 1),.v (.int .i64 reg),.v (.int .i64 ad),.v (.int .i64 val),.v (.int .i64 frm),.v (.int .i64 old),.v (.int .i64 cnt),.v (.int .i64 0),.bo (o != 1)] 127))],ltA 0 L,[AgF 16 E0,AgF 11 E],16⟩)
     (fun i=>(s.bufs.getD 0 []).length - i.1) ⟨0,by omega⟩ ?_ ?_
    ·exact le_renF id rfl ⟨factA List.mem_cons_self (Nat.le_refl _) (fun _ _=>rfl),factA (List.mem_cons_of_mem _ List.mem_cons_self) (show 11≤16 by decide) (fun _ _=>rfl),trivial⟩ (by simp [TmpsLe,look,SV.ren,SC.ren,idσ,SV.okN,SC.okN]) (ownLe_app (stP_le (fun i h=>Nat.lt_of_lt_of_le h (show 11≤16 by decide)) (fun _ _=>rfl) (by simp [look,stC]) rfl (by simp [look,seeL]) rfl rfl rfl) (by simp [OwnLe,BlkLeO,BlkLe,atN,look,Fm.get,idσ,SC.renL,SC.ren,SC.okL,SC.okN])) (by simp +contextual [ltA,ArrsLe,ArrLeO,atN,look,Fm.get,idσ,arrLe_of,arrLe_nest]) (of_decide_eq_true rfl)
    rintro ⟨i,hi⟩
    simp (maxSteps:=2000000) only [go_sem,↓condS,↓exitS,↓runOp,↓reduceIte,Nat.reduceLT,Nat.reduceLeDiff,Nat.reduceAdd,Nat.reduceEqDiff,reduceCtorEq,mkI_rs,stP,stO,stC,ltA,bfO,ats_pd]
    refine both (fun hlt=>?_) (fun hge=>?_)
    ·rw [decide_eq_true_eq] at hlt
     have hlt:i<(s.bufs.getD 0 []).length:=by omega
     have hstk:=take_pd hlt
     have hkr2:0<(s.regs.set 0 ((s.regs.getD 0 r40).put reg (seeL (s.words.getD ad.toNat 0) ad ((s.bufs.getD 0 []).take i)))).length:=by simpa using hkr
     repeat (with_reducible refine And.intro (by first | omega | (simp only [maxLen];omega) | exact Or.inl trivial | exact Or.inr trivial | exact ⟨Or.inl trivial,Or.inr trivial⟩ | exact trivial) ?_)
     refine draw_vc (by kernel_rfl) (mkTab_ok _ _) (of_decide_eq_true rfl) (of_decide_eq_true rfl) ?_
     repeat (first | simp (maxSteps:=2000000) only [go_sem,↓condS,↓runOp,↓gateD,↓runD,↓reduceIte,Nat.reduceLT,Nat.reduceAdd,Nat.reduceEqDiff,reduceCtorEq] | rw [dr_cons])
     refine both (fun hq=>?_) (fun hq=>?_)
     ·have hq:((s.bufs.getD 0 []).getD i pd0).addr=ad:=by simpa using hq
      have hse:seeL (s.words.getD ad.toNat 0) ad ((s.bufs.getD 0 []).take (i+1))=((s.bufs.getD 0 []).getD i pd0).val:=by rw [hstk,seeL_app];simp only [seeL,if_pos hq]
      refine draw_vc (by kernel_rfl) (mkTab_ok _ _) (of_decide_eq_true rfl) (of_decide_eq_true rfl) ?_
      repeat (first | simp (maxSteps:=2000000) only [go_sem,↓gateD,↓runD,↓reduceIte,Nat.reduceLT,Nat.reduceEqDiff,reduceCtorEq] | rw [dr_cons])
      refine dcall_intro (reg_cr (regs:=(s.regs.set 0 ((s.regs.getD 0 r40).put reg (seeL (s.words.getD ad.toNat 0) ad ((s.bufs.getD 0 []).take i))))) rfl rfl hkr2 hg rfl rfl rfl (fun _ _=>rfl) ⟨rfl,rfl,rfl,rfl,rfl,rfl,fun _=>rfl⟩ fun _=>⟨rfl,rfl,rfl⟩) rfl trivial trivial (fun _ hk=>by cases hk) ?_
      repeat (first | simp (maxSteps:=2000000) only [go_sem,↓runOp,↓gateD,↓runD,↓reduceIte,Nat.reduceLT,Nat.reduceLeDiff,Nat.reduceEqDiff,reduceCtorEq] | rw [dr_cons])
      repeat (with_reducible refine And.intro (by first | omega | (simp only [maxLen];omega) | exact Or.inl trivial | exact Or.inr trivial | exact ⟨Or.inl trivial,Or.inr trivial⟩ | exact trivial) ?_)
      rw [put_r4 hkr2 hg,put_twice hkr hg,wr_succ (by omega)]
      exact backI ⟨i+1,hlt⟩ (by simp only;omega) (le_renF id rfl ⟨factA List.mem_cons_self (Nat.le_refl _) (fun _ _=>rfl),factA (List.mem_cons_of_mem _ List.mem_cons_self) (show 11≤16 by decide) (fun _ _=>rfl),trivial⟩ (by simp [TmpsLe,look,SV.ren,SC.ren,idσ,SV.okN,SC.okN]) (show OwnLe (· < 16) (idσ id) _ (stP (⟨s.words,s.regs.set 0 ((s.regs.getD 0 r40).put reg (seeL (s.words.getD ad.toNat 0) ad ((s.bufs.getD 0 []).take (i+1)))),s.places,s.bufs⟩:LS)++[(12,.one (.bk [.v (.int .i64 0),.v (.bool false),.v (.int .i64 addr)] 44)),(14,.one (.bk [.ptr (5,0,0) 0,.v (.int .i64 1),.v (.int .i64 reg),.v (.int .i64 ad),.v (.int .i64 val),.v (.int .i64 frm),.v (.int .i64 old),.v (.int .i64 cnt),.v (.int .i64 0),.bo (o != 1)] 127))]) from ownLe_app (stP_le (fun i h=>Nat.lt_of_lt_of_le h (show 11≤16 by decide)) (fun _ _=>rfl) (by simp [look,stC]) rfl (by simp only [look,List.length_set,hse,Nat.reduceEqDiff,reduceIte];try rfl) rfl rfl rfl) (by simp [OwnLe,BlkLeO,BlkLe,atN,look,Fm.get,idσ,SC.renL,SC.ren,SC.okL,SC.okN])) (by simp +contextual [ArrsLe,ArrLeO,atN,look,Fm.get,idσ,arrLe_of,arrLe_nest]) (of_decide_eq_true rfl))
     ·have hq:¬ ((s.bufs.getD 0 []).getD i pd0).addr=ad:=by simpa using hq
      have hse:seeL (s.words.getD ad.toNat 0) ad ((s.bufs.getD 0 []).take (i+1))=seeL (s.words.getD ad.toNat 0) ad ((s.bufs.getD 0 []).take i):=by rw [hstk,seeL_app];simp only [seeL,if_neg hq]
      rw [wr_succ (by omega)]
      exact backI ⟨i+1,hlt⟩ (by simp only;omega) (le_renF id rfl ⟨factA List.mem_cons_self (Nat.le_refl _) (fun _ _=>rfl),factA (List.mem_cons_of_mem _ List.mem_cons_self) (show 11≤16 by decide) (fun _ _=>rfl),trivial⟩ (by simp [TmpsLe,look,SV.ren,SC.ren,idσ,SV.okN,SC.okN]) (show OwnLe (· < 16) (idσ id) _ (stP (⟨s.words,s.regs.set 0 ((s.regs.getD 0 r40).put reg (seeL (s.words.getD ad.toNat 0) ad ((s.bufs.getD 0 []).take (i+1)))),s.places,s.bufs⟩:LS)++[(12,.one (.bk [.v (.int .i64 0),.v (.bool false),.v (.int .i64 addr)] 44)),(14,.one (.bk [.ptr (5,0,0) 0,.v (.int .i64 1),.v (.int .i64 reg),.v (.int .i64 ad),.v (.int .i64 val),.v (.int .i64 frm),.v (.int .i64 old),.v (.int .i64 cnt),.v (.int .i64 0),.bo (o != 1)] 127))]) from ownLe_app (stP_le (fun i h=>Nat.lt_of_lt_of_le h (show 11≤16 by decide)) (fun _ _=>rfl) (by simp [look,stC]) rfl (by simp only [look,List.length_set,hse,Nat.reduceEqDiff,reduceIte];try rfl) rfl rfl rfl) (by simp [OwnLe,BlkLeO,BlkLe,atN,look,Fm.get,idσ,SC.renL,SC.ren,SC.okL,SC.okN])) (by simp +contextual [ArrsLe,ArrLeO,atN,look,Fm.get,idσ,arrLe_of,arrLe_nest]) (of_decide_eq_true rfl))
    ·rw [decide_eq_false_iff_not] at hge
     have hin:i=(s.bufs.getD 0 []).length:=by omega
     subst hin
     rw [List.take_length]
     simp only [List.length_set]
     refine retI ht0 _ rfl (of_decide_eq_true rfl) (by simp [SV.okN,SC.okN]) ?_
     simp (maxSteps:=2000000) only [go_sem,↓condS,↓runOp,↓reduceIte,Nat.reduceLT,Nat.reduceEqDiff]
     refine draw_vc (by kernel_rfl) (mkTab_ok _ _) (of_decide_eq_true rfl) (of_decide_eq_true rfl) ?_
     repeat (first | simp (maxSteps:=2000000) only [go_sem,↓runOp,↓gateD,↓runD,↓reduceIte,Nat.reduceLT,Nat.reduceLeDiff,Nat.reduceEqDiff,reduceCtorEq,Int.reduceToNat,Int.reduceLE,hwp] | rw [dr_cons])
     repeat (with_reducible refine And.intro (by first | omega | (simp only [maxLen];omega) | exact Or.inl trivial | exact Or.inr trivial | exact ⟨Or.inl trivial,Or.inr trivial⟩ | exact trivial) ?_)
     have hsx:stepS o s 0 ⟨1,reg,ad,val,frm,old,cnt⟩=some (⟨s.words,s.regs.set 0 ((s.regs.getD 0 r40).put reg (seeS s 0 ad)),s.places,s.bufs⟩,1):=by simp [stepS]
     rw [← hR,← hW,hst,hsx]
     exact retTurnP (s:=⟨s.words,s.regs.set 0 ((s.regs.getD 0 r40).put reg (seeS s 0 ad)),_,s.bufs⟩) (s0:=s) List.mem_cons_self (fun E E'=>by simp [SV.den,SC.den]) rfl (by simp) (by simp) rfl rfl rfl rfl rfl rfl rfl (set_atsT (enc:=eI) hk1) rfl rfl
   by_cases k2:kind=2
   ·subst k2
    have had:0≤ad∧ad<s.words.length:=by rw [lw];exact f4 (by decide)
    have hadn:ad.toNat<s.words.length:=by omega
    have hfm:=f5 rfl
    by_cases hfr:frm≥0
    ·have dfr:decide (frm≥0)=true:=decide_eq_true hfr
     have hnf:=nth_r4 (xs:=s.regs) (k:=0) (r:=frm) ⟨hfr,hfm.2⟩
     by_cases ho:o=1
     ·have do1:(o != 1)=false:=by simp [ho]
      simp (maxSteps:=2000000) only [go_sem,↓condS,↓runOp,↓imp_ft,↓imp_ff,↓reduceIte,Nat.reduceLT,Nat.reduceLeDiff,Nat.reduceAdd,Nat.reduceMul,Nat.reduceEqDiff,reduceCtorEq,Int.reduceToNat,Int.reduceLT,Int.reduceLE,ir40_44,dhe,Ins.enc,hci,do1]
      refine And.intro (by omega) (And.intro (by omega) (And.intro ⟨_,Try.func75,by kernel_rfl,by kernel_rfl⟩ ?_))
      refine call_inline (c:=ir75) (rs:=rs75) (nt:=nt75) 1000 (mkTab_ok _ _) Try.func75 rfl (by kernel_rfl) (by kernel_rfl) rfl (by simp [okVs,SV.okN,SC.okN]) (of_decide_eq_true rfl) (fun E0 a0 ht0=>?_)
      simp (maxSteps:=2000000) only [ir75,nt75,rs75,go_sem,↓condS,↓runOp,↓imp_tf,↓imp_tt,↓reduceIte,Nat.reduceLT,Nat.reduceAdd,Nat.reduceEqDiff,reduceCtorEq,dfr]
      refine draw_vc (by kernel_rfl) (mkTab_ok _ _) (of_decide_eq_true rfl) (of_decide_eq_true rfl) ?_
      repeat (first | simp (maxSteps:=2000000) only [go_sem,↓condS,↓runOp,↓gateD,↓runD,↓imp_ft,↓imp_ff,↓reduceIte,Nat.reduceLT,Nat.reduceAdd,Nat.reduceEqDiff,reduceCtorEq,Int.reduceToNat,Int.reduceLE,hnf,Nat.mul_one] | rw [dr_cons])
      repeat (with_reducible refine And.intro (by first | omega | (simp only [maxLen];omega) | exact Or.inl trivial | exact Or.inr trivial | exact ⟨Or.inl trivial,Or.inr trivial⟩ | exact trivial) ?_)
      refine draw_vc (by kernel_rfl) (mkTab_ok _ _) (of_decide_eq_true rfl) (of_decide_eq_true rfl) ?_
      repeat (first | simp (maxSteps:=2000000) only [go_sem,↓runOp,↓gateD,↓runD,↓reduceIte,Nat.reduceLT,Nat.reduceLeDiff,Nat.reduceAdd,Nat.reduceEqDiff,reduceCtorEq] | rw [dr_cons])
      repeat (with_reducible refine And.intro (by first | omega | (simp only [maxLen];omega) | exact Or.inl trivial | exact Or.inr trivial | exact ⟨Or.inl trivial,Or.inr trivial⟩ | exact trivial) ?_)
      refine retI ht0 _ rfl (of_decide_eq_true rfl) (by simp [SV.okN,SC.okN]) ?_
      simp (maxSteps:=2000000) only [go_sem,↓condS,↓runOp,↓reduceIte,Nat.reduceLT,Nat.reduceEqDiff]
      refine draw_vc (by kernel_rfl) (mkTab_ok _ _) (of_decide_eq_true rfl) (of_decide_eq_true rfl) ?_
      repeat (first | simp (maxSteps:=2000000) only [go_sem,↓runOp,↓gateD,↓runD,↓reduceIte,Nat.reduceLT,Nat.reduceLeDiff,Nat.reduceEqDiff,reduceCtorEq,Int.reduceToNat,Int.reduceLE,hwp] | rw [dr_cons])
      repeat (with_reducible refine And.intro (by first | omega | (simp only [maxLen];omega) | exact Or.inl trivial | exact Or.inr trivial | exact ⟨Or.inl trivial,Or.inr trivial⟩ | exact trivial) ?_)
      have hsx:stepS o s 0 ⟨2,reg,ad,val,frm,old,cnt⟩=some (⟨s.words.set ad.toNat ((s.regs.getD 0 r40).get frm),s.regs,s.places,s.bufs⟩,1):=by rw [st2,if_pos ho,if_pos hfr]
      rw [← hR,← hW,hst,hsx]
      exact retTurnP (s:=⟨s.words.set ad.toNat ((s.regs.getD 0 r40).get frm),s.regs,_,s.bufs⟩) (s0:=s) List.mem_cons_self (fun E E'=>by simp [SV.den,SC.den]) (by simp) rfl (by simp) rfl rfl rfl (set_atsT (enc:=eI) hadn) rfl rfl rfl (set_atsT (enc:=eI) hk1) rfl rfl
     ·have do1:(o != 1)=true:=by simp [ho]
      simp (maxSteps:=2000000) only [go_sem,↓condS,↓runOp,↓imp_ft,↓imp_ff,↓reduceIte,Nat.reduceLT,Nat.reduceLeDiff,Nat.reduceAdd,Nat.reduceMul,Nat.reduceEqDiff,reduceCtorEq,Int.reduceToNat,Int.reduceLT,Int.reduceLE,ir40_44,dhe,Ins.enc,hci,do1]
      refine And.intro (by omega) (And.intro (by omega) (And.intro ⟨_,Try.func75,by kernel_rfl,by kernel_rfl⟩ ?_))
      refine call_inline (c:=ir75) (rs:=rs75) (nt:=nt75) 1000 (mkTab_ok _ _) Try.func75 rfl (by kernel_rfl) (by kernel_rfl) rfl (by simp [okVs,SV.okN,SC.okN]) (of_decide_eq_true rfl) (fun E0 a0 ht0=>?_)
      simp (maxSteps:=2000000) only [ir75,nt75,rs75,go_sem,↓condS,↓runOp,↓imp_tf,↓imp_tt,↓reduceIte,Nat.reduceLT,Nat.reduceAdd,Nat.reduceEqDiff,reduceCtorEq,dfr]
      refine draw_vc (by kernel_rfl) (mkTab_ok _ _) (of_decide_eq_true rfl) (of_decide_eq_true rfl) ?_
      repeat (first | simp (maxSteps:=2000000) only [go_sem,↓condS,↓runOp,↓gateD,↓runD,↓imp_tf,↓imp_tt,↓reduceIte,Nat.reduceLT,Nat.reduceAdd,Nat.reduceEqDiff,reduceCtorEq,Int.reduceToNat,Int.reduceLE,hnf,Nat.mul_one] | rw [dr_cons])
      repeat (with_reducible refine And.intro (by first | omega | (simp only [maxLen];omega) | exact Or.inl trivial | exact Or.inr trivial | exact ⟨Or.inl trivial,Or.inr trivial⟩ | exact trivial) ?_)
      refine draw_vc (by kernel_rfl) (mkTab_ok _ _) (of_decide_eq_true rfl) (of_decide_eq_true rfl) ?_
      repeat (first | simp (maxSteps:=2000000) only [go_sem,↓runOp,↓gateD,↓runD,↓reduceIte,Nat.reduceLT,Nat.reduceLeDiff,Nat.reduceAdd,Nat.reduceMul,Nat.reduceEqDiff,reduceCtorEq,Int.reduceToNat,Int.reduceLE,bfC,bfO] | rw [dr_cons])
      repeat (with_reducible refine And.intro (by first | omega | (simp only [maxLen];omega) | exact Or.inl trivial | exact Or.inr trivial | exact ⟨Or.inl trivial,Or.inr trivial⟩ | exact trivial) ?_)
      refine retI ht0 _ rfl (of_decide_eq_true rfl) (by simp [SV.okN,SC.okN]) ?_
      simp (maxSteps:=2000000) only [go_sem,↓condS,↓runOp,↓reduceIte,Nat.reduceLT,Nat.reduceEqDiff]
      refine draw_vc (by kernel_rfl) (mkTab_ok _ _) (of_decide_eq_true rfl) (of_decide_eq_true rfl) ?_
      repeat (first | simp (maxSteps:=2000000) only [go_sem,↓runOp,↓gateD,↓runD,↓reduceIte,Nat.reduceLT,Nat.reduceLeDiff,Nat.reduceEqDiff,reduceCtorEq,Int.reduceToNat,Int.reduceLE,hwp] | rw [dr_cons])
      repeat (with_reducible refine And.intro (by first | omega | (simp only [maxLen];omega) | exact Or.inl trivial | exact Or.inr trivial | exact ⟨Or.inl trivial,Or.inr trivial⟩ | exact trivial) ?_)
      have hsx:stepS o s 0 ⟨2,reg,ad,val,frm,old,cnt⟩=some (⟨s.words,s.regs,s.places,s.bufs.set 0 (s.bufs.getD 0 []++[⟨ad,((s.regs.getD 0 r40).get frm)⟩])⟩,1):=by rw [st2,if_neg ho,if_pos hfr]
      rw [← hR,← hW,hst,hsx]
      exact retTurnA hkb (by decide) List.mem_cons_self (fun E E'=>by simp [SV.den,SC.den]) (by simp) rfl rfl rfl rfl (set_atsT (enc:=eI) hk1) rfl rfl (fun e he=>if_neg he) rfl rfl
    ·have dfr:decide (frm≥0)=false:=decide_eq_false hfr
     by_cases ho:o=1
     ·have do1:(o != 1)=false:=by simp [ho]
      simp (maxSteps:=2000000) only [go_sem,↓condS,↓runOp,↓imp_ft,↓imp_ff,↓reduceIte,Nat.reduceLT,Nat.reduceLeDiff,Nat.reduceAdd,Nat.reduceMul,Nat.reduceEqDiff,reduceCtorEq,Int.reduceToNat,Int.reduceLT,Int.reduceLE,ir40_44,dhe,Ins.enc,hci,do1]
      refine And.intro (by omega) (And.intro (by omega) (And.intro ⟨_,Try.func75,by kernel_rfl,by kernel_rfl⟩ ?_))
      refine call_inline (c:=ir75) (rs:=rs75) (nt:=nt75) 1000 (mkTab_ok _ _) Try.func75 rfl (by kernel_rfl) (by kernel_rfl) rfl (by simp [okVs,SV.okN,SC.okN]) (of_decide_eq_true rfl) (fun E0 a0 ht0=>?_)
      simp (maxSteps:=2000000) only [ir75,nt75,rs75,go_sem,↓condS,↓runOp,↓imp_ft,↓imp_ff,↓reduceIte,Nat.reduceLT,Nat.reduceAdd,Nat.reduceEqDiff,reduceCtorEq,dfr]
      refine draw_vc (by kernel_rfl) (mkTab_ok _ _) (of_decide_eq_true rfl) (of_decide_eq_true rfl) ?_
      repeat (first | simp (maxSteps:=2000000) only [go_sem,↓runOp,↓gateD,↓runD,↓reduceIte,Nat.reduceLT,Nat.reduceLeDiff,Nat.reduceAdd,Nat.reduceEqDiff,reduceCtorEq] | rw [dr_cons])
      repeat (with_reducible refine And.intro (by first | omega | (simp only [maxLen];omega) | exact Or.inl trivial | exact Or.inr trivial | exact ⟨Or.inl trivial,Or.inr trivial⟩ | exact trivial) ?_)
      refine retI ht0 _ rfl (of_decide_eq_true rfl) (by simp [SV.okN,SC.okN]) ?_
      simp (maxSteps:=2000000) only [go_sem,↓condS,↓runOp,↓reduceIte,Nat.reduceLT,Nat.reduceEqDiff]
      refine draw_vc (by kernel_rfl) (mkTab_ok _ _) (of_decide_eq_true rfl) (of_decide_eq_true rfl) ?_
      repeat (first | simp (maxSteps:=2000000) only [go_sem,↓runOp,↓gateD,↓runD,↓reduceIte,Nat.reduceLT,Nat.reduceLeDiff,Nat.reduceEqDiff,reduceCtorEq,Int.reduceToNat,Int.reduceLE,hwp] | rw [dr_cons])
      repeat (with_reducible refine And.intro (by first | omega | (simp only [maxLen];omega) | exact Or.inl trivial | exact Or.inr trivial | exact ⟨Or.inl trivial,Or.inr trivial⟩ | exact trivial) ?_)
      have hsx:stepS o s 0 ⟨2,reg,ad,val,frm,old,cnt⟩=some (⟨s.words.set ad.toNat val,s.regs,s.places,s.bufs⟩,1):=by rw [st2,if_pos ho,if_neg hfr]
      rw [← hR,← hW,hst,hsx]
      exact retTurnP (s:=⟨s.words.set ad.toNat val,s.regs,_,s.bufs⟩) (s0:=s) List.mem_cons_self (fun E E'=>by simp [SV.den,SC.den]) (by simp) rfl (by simp) rfl rfl rfl (set_atsT (enc:=eI) hadn) rfl rfl rfl (set_atsT (enc:=eI) hk1) rfl rfl
     ·have do1:(o != 1)=true:=by simp [ho]
      simp (maxSteps:=2000000) only [go_sem,↓condS,↓runOp,↓imp_ft,↓imp_ff,↓reduceIte,Nat.reduceLT,Nat.reduceLeDiff,Nat.reduceAdd,Nat.reduceMul,Nat.reduceEqDiff,reduceCtorEq,Int.reduceToNat,Int.reduceLT,Int.reduceLE,ir40_44,dhe,Ins.enc,hci,do1]
      refine And.intro (by omega) (And.intro (by omega) (And.intro ⟨_,Try.func75,by kernel_rfl,by kernel_rfl⟩ ?_))
      refine call_inline (c:=ir75) (rs:=rs75) (nt:=nt75) 1000 (mkTab_ok _ _) Try.func75 rfl (by kernel_rfl) (by kernel_rfl) rfl (by simp [okVs,SV.okN,SC.okN]) (of_decide_eq_true rfl) (fun E0 a0 ht0=>?_)
      simp (maxSteps:=2000000) only [ir75,nt75,rs75,go_sem,↓condS,↓runOp,↓imp_ft,↓imp_tf,↓imp_tt,↓imp_ff,↓reduceIte,Nat.reduceLT,Nat.reduceAdd,Nat.reduceEqDiff,reduceCtorEq,dfr]
      refine draw_vc (by kernel_rfl) (mkTab_ok _ _) (of_decide_eq_true rfl) (of_decide_eq_true rfl) ?_
      repeat (first | simp (maxSteps:=2000000) only [go_sem,↓runOp,↓gateD,↓runD,↓reduceIte,Nat.reduceLT,Nat.reduceLeDiff,Nat.reduceAdd,Nat.reduceMul,Nat.reduceEqDiff,reduceCtorEq,Int.reduceToNat,Int.reduceLE,bfC,bfO] | rw [dr_cons])
      repeat (with_reducible refine And.intro (by first | omega | (simp only [maxLen];omega) | exact Or.inl trivial | exact Or.inr trivial | exact ⟨Or.inl trivial,Or.inr trivial⟩ | exact trivial) ?_)
      refine retI ht0 _ rfl (of_decide_eq_true rfl) (by simp [SV.okN,SC.okN]) ?_
      simp (maxSteps:=2000000) only [go_sem,↓condS,↓runOp,↓reduceIte,Nat.reduceLT,Nat.reduceEqDiff]
      refine draw_vc (by kernel_rfl) (mkTab_ok _ _) (of_decide_eq_true rfl) (of_decide_eq_true rfl) ?_
      repeat (first | simp (maxSteps:=2000000) only [go_sem,↓runOp,↓gateD,↓runD,↓reduceIte,Nat.reduceLT,Nat.reduceLeDiff,Nat.reduceEqDiff,reduceCtorEq,Int.reduceToNat,Int.reduceLE,hwp] | rw [dr_cons])
      repeat (with_reducible refine And.intro (by first | omega | (simp only [maxLen];omega) | exact Or.inl trivial | exact Or.inr trivial | exact ⟨Or.inl trivial,Or.inr trivial⟩ | exact trivial) ?_)
      have hsx:stepS o s 0 ⟨2,reg,ad,val,frm,old,cnt⟩=some (⟨s.words,s.regs,s.places,s.bufs.set 0 (s.bufs.getD 0 []++[⟨ad,val⟩])⟩,1):=by rw [st2,if_neg ho,if_neg hfr]
      rw [← hR,← hW,hst,hsx]
      exact retTurnA hkb (by decide) List.mem_cons_self (fun E E'=>by simp [SV.den,SC.den]) (by simp) rfl rfl rfl rfl (set_atsT (enc:=eI) hk1) rfl rfl (fun e he=>if_neg he) rfl rfl
   by_cases k3:kind=3
   ·subst k3
    have hg:0≤reg∧reg<4:=f3 (by decide) (by decide)
    have hnr:=nth_r4 (xs:=s.regs) (k:=0) hg
    have had:0≤ad∧ad<s.words.length:=by rw [lw];exact f4 (by decide)
    have hadn:ad.toNat<s.words.length:=by omega
    by_cases hbf:(s.bufs.getD 0 []).length>0
    ·have dbf:(((s.bufs.getD 0 []).length:Int) == 0)=false:=by rw [beq_eq_false_iff_ne];omega
     simp (maxSteps:=2000000) only [go_sem,↓condS,↓runOp,↓imp_ft,↓imp_ff,↓reduceIte,Nat.reduceLT,Nat.reduceLeDiff,Nat.reduceAdd,Nat.reduceMul,Nat.reduceEqDiff,reduceCtorEq,Int.reduceToNat,Int.reduceLT,Int.reduceLE,ir40_44,dhe,Ins.enc,hci]
     refine And.intro (by omega) (And.intro (by omega) (And.intro ⟨_,Try.func76,by kernel_rfl,by kernel_rfl⟩ ?_))
     refine call_inline (c:=ir76) (rs:=rs76) (nt:=nt76) 1000 (mkTab_ok _ _) Try.func76 rfl (by kernel_rfl) (by kernel_rfl) rfl (by simp [okVs,SV.okN,SC.okN]) (of_decide_eq_true rfl) (fun E0 a0 ht0=>?_)
     simp (maxSteps:=2000000) only [ir76,nt76,rs76,go_sem,↓runOp,↓reduceIte,Nat.reduceLT,Nat.reduceEqDiff,reduceCtorEq]
     refine call_inline (c:=ir77) (rs:=rs77) (nt:=nt77) 1000 (mkTab_ok _ _) Try.func77 rfl (by kernel_rfl) (by kernel_rfl) rfl (by simp [okVs,SV.okN,SC.okN]) (of_decide_eq_true rfl) (fun E1 a1 ht1=>?_)
     simp (maxSteps:=2000000) only [ir77,nt77,rs77,go_sem,↓runOp,↓reduceIte,Nat.reduceLT,Nat.reduceEqDiff,reduceCtorEq]
     refine draw_vc (by kernel_rfl) (mkTab_ok _ _) (of_decide_eq_true rfl) (of_decide_eq_true rfl) ?_
     repeat (first | simp (maxSteps:=2000000) only [go_sem,↓gateD,↓runD,↓reduceIte,Nat.reduceLT,Nat.reduceEqDiff,reduceCtorEq,Int.reduceToNat,Int.reduceLE,bfC,dbf] | rw [dr_cons])
     repeat (with_reducible refine And.intro (by first | omega | (simp only [maxLen];omega) | exact Or.inl trivial | exact Or.inr trivial | exact ⟨Or.inl trivial,Or.inr trivial⟩ | exact trivial) ?_)
     refine retI ht1 _ rfl (of_decide_eq_true rfl) (by simp [SV.okN,SC.okN]) ?_
     simp (maxSteps:=2000000) only [go_sem,↓condS,↓runOp,↓imp_tf,↓imp_tt,↓reduceIte,Nat.reduceLT,Nat.reduceEqDiff,reduceCtorEq,mkI_rs]
     refine retI ht0 _ rfl (of_decide_eq_true rfl) (by simp [SV.okN,SC.okN]) ?_
     simp (maxSteps:=2000000) only [go_sem,↓condS,↓runOp,↓reduceIte,Nat.reduceLT,Nat.reduceEqDiff]
     exact hno (by rw [hst,st3,if_pos hbf]) List.mem_cons_self rfl rfl rfl rfl rfl rfl
    ·have dbf:(((s.bufs.getD 0 []).length:Int) == 0)=true:=by rw [beq_iff_eq];omega
     simp (maxSteps:=2000000) only [go_sem,↓condS,↓runOp,↓imp_ft,↓imp_ff,↓reduceIte,Nat.reduceLT,Nat.reduceLeDiff,Nat.reduceAdd,Nat.reduceMul,Nat.reduceEqDiff,reduceCtorEq,Int.reduceToNat,Int.reduceLT,Int.reduceLE,ir40_44,dhe,Ins.enc,hci]
     refine And.intro (by omega) (And.intro (by omega) (And.intro ⟨_,Try.func76,by kernel_rfl,by kernel_rfl⟩ ?_))
     refine call_inline (c:=ir76) (rs:=rs76) (nt:=nt76) 1000 (mkTab_ok _ _) Try.func76 rfl (by kernel_rfl) (by kernel_rfl) rfl (by simp [okVs,SV.okN,SC.okN]) (of_decide_eq_true rfl) (fun E0 a0 ht0=>?_)
     simp (maxSteps:=2000000) only [ir76,nt76,rs76,go_sem,↓runOp,↓reduceIte,Nat.reduceLT,Nat.reduceEqDiff,reduceCtorEq]
     refine call_inline (c:=ir77) (rs:=rs77) (nt:=nt77) 1000 (mkTab_ok _ _) Try.func77 rfl (by kernel_rfl) (by kernel_rfl) rfl (by simp [okVs,SV.okN,SC.okN]) (of_decide_eq_true rfl) (fun E1 a1 ht1=>?_)
     simp (maxSteps:=2000000) only [ir77,nt77,rs77,go_sem,↓runOp,↓reduceIte,Nat.reduceLT,Nat.reduceEqDiff,reduceCtorEq]
     refine draw_vc (by kernel_rfl) (mkTab_ok _ _) (of_decide_eq_true rfl) (of_decide_eq_true rfl) ?_
     repeat (first | simp (maxSteps:=2000000) only [go_sem,↓gateD,↓runD,↓reduceIte,Nat.reduceLT,Nat.reduceEqDiff,reduceCtorEq,Int.reduceToNat,Int.reduceLE,bfC,dbf] | rw [dr_cons])
     repeat (with_reducible refine And.intro (by first | omega | (simp only [maxLen];omega) | exact Or.inl trivial | exact Or.inr trivial | exact ⟨Or.inl trivial,Or.inr trivial⟩ | exact trivial) ?_)
     refine retI ht1 _ rfl (of_decide_eq_true rfl) (by simp [SV.okN,SC.okN]) ?_
     simp (maxSteps:=2000000) only [go_sem,↓condS,↓runOp,↓imp_ft,↓imp_ff,↓reduceIte,Nat.reduceLT,Nat.reduceEqDiff,reduceCtorEq]
     refine call_intro (reg_cr (regs:=s.regs) rfl rfl hkr hg rfl rfl rfl (fun _ _=>rfl) ⟨rfl,rfl,rfl,rfl,rfl,rfl,fun _=>rfl⟩ fun _=>⟨rfl,rfl,rfl⟩) (fun i hi=>by rw [List.mem_singleton] at hi;subst hi;exact (show 7<16 by decide)) ?_
     simp (maxSteps:=2000000) only [go_sem,↓runOp,↓reduceIte,Nat.reduceLT,Nat.reduceLeDiff,Nat.reduceEqDiff,reduceCtorEq]
     repeat (with_reducible refine And.intro (by first | omega | (simp only [maxLen];omega) | exact Or.inl trivial | exact Or.inr trivial | exact ⟨Or.inl trivial,Or.inr trivial⟩ | exact trivial) ?_)
     rw [put_r4 hkr hg]
     refine draw_vc (by kernel_rfl) (mkTab_ok _ _) (of_decide_eq_true rfl) (of_decide_eq_true rfl) ?_
     repeat (first | simp (maxSteps:=2000000) only [go_sem,↓condS,↓runOp,↓gateD,↓runD,↓reduceIte,Nat.reduceLT,Nat.reduceAdd,Nat.reduceEqDiff,reduceCtorEq] | rw [dr_cons])
     repeat (with_reducible refine And.intro (by first | omega | (simp only [maxLen];omega) | exact Or.inl trivial | exact Or.inr trivial | exact ⟨Or.inl trivial,Or.inr trivial⟩ | exact trivial) ?_)
     refine both (fun hq=>?_) (fun hq=>?_)
     ·have hq:s.words.getD ad.toNat 0=old:=by simpa using hq
      have hkr2:0<(s.regs.set 0 ((s.regs.getD 0 r40).put reg 0)).length:=by simpa using hkr
      refine draw_vc (by kernel_rfl) (mkTab_ok _ _) (of_decide_eq_true rfl) (of_decide_eq_true rfl) ?_
      repeat (first | simp (maxSteps:=2000000) only [go_sem,↓runOp,↓gateD,↓runD,↓reduceIte,Nat.reduceLT,Nat.reduceLeDiff,Nat.reduceAdd,Nat.reduceEqDiff,reduceCtorEq] | rw [dr_cons])
      repeat (with_reducible refine And.intro (by first | omega | (simp only [maxLen];omega) | exact Or.inl trivial | exact Or.inr trivial | exact ⟨Or.inl trivial,Or.inr trivial⟩ | exact trivial) ?_)
      refine call_intro (reg_cr (regs:=s.regs.set 0 ((s.regs.getD 0 r40).put reg 0)) rfl (by simp) hkr2 hg rfl rfl rfl (fun _ _=>rfl) ⟨rfl,rfl,rfl,rfl,rfl,rfl,fun _=>rfl⟩ fun _=>⟨rfl,rfl,rfl⟩) (fun i hi=>by rw [List.mem_singleton] at hi;subst hi;exact (show 7<16 by decide)) ?_
      simp (maxSteps:=2000000) only [go_sem,↓runOp,↓reduceIte,Nat.reduceLT,Nat.reduceLeDiff,Nat.reduceEqDiff,reduceCtorEq]
      repeat (with_reducible refine And.intro (by first | omega | (simp only [maxLen];omega) | exact Or.inl trivial | exact Or.inr trivial | exact ⟨Or.inl trivial,Or.inr trivial⟩ | exact trivial) ?_)
      refine retI ht0 _ rfl (of_decide_eq_true rfl) (by simp [SV.okN,SC.okN]) ?_
      simp (maxSteps:=2000000) only [go_sem,↓condS,↓runOp,↓reduceIte,Nat.reduceLT,Nat.reduceEqDiff]
      refine draw_vc (by kernel_rfl) (mkTab_ok _ _) (of_decide_eq_true rfl) (of_decide_eq_true rfl) ?_
      repeat (first | simp (maxSteps:=2000000) only [go_sem,↓runOp,↓gateD,↓runD,↓reduceIte,Nat.reduceLT,Nat.reduceLeDiff,Nat.reduceEqDiff,reduceCtorEq,Int.reduceToNat,Int.reduceLE,hwp] | rw [dr_cons])
      repeat (with_reducible refine And.intro (by first | omega | (simp only [maxLen];omega) | exact Or.inl trivial | exact Or.inr trivial | exact ⟨Or.inl trivial,Or.inr trivial⟩ | exact trivial) ?_)
      have hsx:stepS o s 0 ⟨3,reg,ad,val,frm,old,cnt⟩=some (⟨s.words.set ad.toNat val,s.regs.set 0 ((s.regs.getD 0 r40).put reg 1),s.places,s.bufs⟩,1):=by rw [st3,if_neg hbf,if_pos hq]
      rw [← hR,← hW,hst,hsx]
      exact retTurnP (s:=⟨s.words.set ad.toNat val,s.regs.set 0 ((s.regs.getD 0 r40).put reg 1),_,s.bufs⟩) (s0:=s) List.mem_cons_self (fun E E'=>by simp [SV.den,SC.den]) (by simp) (by simp) (by simp) rfl rfl rfl (set_atsT (enc:=eI) hadn) rfl ((put_r4 hkr2 hg).trans (by rw [put_twice hkr hg])) rfl (set_atsT (enc:=eI) hk1) rfl rfl
     ·have hq:¬ s.words.getD ad.toNat 0=old:=by simpa using hq
      refine retI ht0 _ rfl (of_decide_eq_true rfl) (by simp [SV.okN,SC.okN]) ?_
      simp (maxSteps:=2000000) only [go_sem,↓condS,↓runOp,↓reduceIte,Nat.reduceLT,Nat.reduceEqDiff]
      refine draw_vc (by kernel_rfl) (mkTab_ok _ _) (of_decide_eq_true rfl) (of_decide_eq_true rfl) ?_
      repeat (first | simp (maxSteps:=2000000) only [go_sem,↓runOp,↓gateD,↓runD,↓reduceIte,Nat.reduceLT,Nat.reduceLeDiff,Nat.reduceEqDiff,reduceCtorEq,Int.reduceToNat,Int.reduceLE,hwp] | rw [dr_cons])
      repeat (with_reducible refine And.intro (by first | omega | (simp only [maxLen];omega) | exact Or.inl trivial | exact Or.inr trivial | exact ⟨Or.inl trivial,Or.inr trivial⟩ | exact trivial) ?_)
      have hsx:stepS o s 0 ⟨3,reg,ad,val,frm,old,cnt⟩=some (⟨s.words,s.regs.set 0 ((s.regs.getD 0 r40).put reg 0),s.places,s.bufs⟩,1):=by rw [st3,if_neg hbf,if_neg hq]
      rw [← hR,← hW,hst,hsx]
      exact retTurnP (s:=⟨s.words,s.regs.set 0 ((s.regs.getD 0 r40).put reg 0),_,s.bufs⟩) (s0:=s) List.mem_cons_self (fun E E'=>by simp [SV.den,SC.den]) rfl (by simp) (by simp) rfl rfl rfl rfl rfl rfl rfl (set_atsT (enc:=eI) hk1) rfl rfl
   by_cases k4:kind=4
   ·subst k4
    by_cases hbf:(s.bufs.getD 0 []).length>0
    ·have dbf:(((s.bufs.getD 0 []).length:Int) == 0)=false:=by rw [beq_eq_false_iff_ne];omega
     simp (maxSteps:=2000000) only [go_sem,↓condS,↓runOp,↓imp_ft,↓imp_ff,↓reduceIte,Nat.reduceLT,Nat.reduceLeDiff,Nat.reduceAdd,Nat.reduceMul,Nat.reduceEqDiff,reduceCtorEq,Int.reduceToNat,Int.reduceLT,Int.reduceLE,ir40_44,dhe,Ins.enc,hci]
     refine And.intro (by omega) (And.intro (by omega) (And.intro ⟨_,Try.func77,by kernel_rfl,by kernel_rfl⟩ ?_))
     refine call_inline (c:=ir77) (rs:=rs77) (nt:=nt77) 1000 (mkTab_ok _ _) Try.func77 rfl (by kernel_rfl) (by kernel_rfl) rfl (by simp [okVs,SV.okN,SC.okN]) (of_decide_eq_true rfl) (fun E0 a0 ht0=>?_)
     simp (maxSteps:=2000000) only [ir77,nt77,rs77,go_sem,↓runOp,↓reduceIte,Nat.reduceLT,Nat.reduceEqDiff,reduceCtorEq]
     refine draw_vc (by kernel_rfl) (mkTab_ok _ _) (of_decide_eq_true rfl) (of_decide_eq_true rfl) ?_
     repeat (first | simp (maxSteps:=2000000) only [go_sem,↓gateD,↓runD,↓reduceIte,Nat.reduceLT,Nat.reduceEqDiff,reduceCtorEq,Int.reduceToNat,Int.reduceLE,bfC,dbf] | rw [dr_cons])
     repeat (with_reducible refine And.intro (by first | omega | (simp only [maxLen];omega) | exact Or.inl trivial | exact Or.inr trivial | exact ⟨Or.inl trivial,Or.inr trivial⟩ | exact trivial) ?_)
     refine retI ht0 _ rfl (of_decide_eq_true rfl) (by simp [SV.okN,SC.okN]) ?_
     simp (maxSteps:=2000000) only [go_sem,↓condS,↓runOp,↓imp_tf,↓imp_tt,↓reduceIte,Nat.reduceLT,Nat.reduceEqDiff]
     exact hno (by rw [hst,st4,if_pos hbf]) List.mem_cons_self rfl rfl rfl rfl rfl rfl
    ·have dbf:(((s.bufs.getD 0 []).length:Int) == 0)=true:=by rw [beq_iff_eq];omega
     simp (maxSteps:=2000000) only [go_sem,↓condS,↓runOp,↓imp_ft,↓imp_ff,↓reduceIte,Nat.reduceLT,Nat.reduceLeDiff,Nat.reduceAdd,Nat.reduceMul,Nat.reduceEqDiff,reduceCtorEq,Int.reduceToNat,Int.reduceLT,Int.reduceLE,ir40_44,dhe,Ins.enc,hci]
     refine And.intro (by omega) (And.intro (by omega) (And.intro ⟨_,Try.func77,by kernel_rfl,by kernel_rfl⟩ ?_))
     refine call_inline (c:=ir77) (rs:=rs77) (nt:=nt77) 1000 (mkTab_ok _ _) Try.func77 rfl (by kernel_rfl) (by kernel_rfl) rfl (by simp [okVs,SV.okN,SC.okN]) (of_decide_eq_true rfl) (fun E0 a0 ht0=>?_)
     simp (maxSteps:=2000000) only [ir77,nt77,rs77,go_sem,↓runOp,↓reduceIte,Nat.reduceLT,Nat.reduceEqDiff,reduceCtorEq]
     refine draw_vc (by kernel_rfl) (mkTab_ok _ _) (of_decide_eq_true rfl) (of_decide_eq_true rfl) ?_
     repeat (first | simp (maxSteps:=2000000) only [go_sem,↓gateD,↓runD,↓reduceIte,Nat.reduceLT,Nat.reduceEqDiff,reduceCtorEq,Int.reduceToNat,Int.reduceLE,bfC,dbf] | rw [dr_cons])
     repeat (with_reducible refine And.intro (by first | omega | (simp only [maxLen];omega) | exact Or.inl trivial | exact Or.inr trivial | exact ⟨Or.inl trivial,Or.inr trivial⟩ | exact trivial) ?_)
     refine retI ht0 _ rfl (of_decide_eq_true rfl) (by simp [SV.okN,SC.okN]) ?_
     simp (maxSteps:=2000000) only [go_sem,↓condS,↓runOp,↓imp_ft,↓imp_ff,↓reduceIte,Nat.reduceLT,Nat.reduceEqDiff]
     refine draw_vc (by kernel_rfl) (mkTab_ok _ _) (of_decide_eq_true rfl) (of_decide_eq_true rfl) ?_
     repeat (first | simp (maxSteps:=2000000) only [go_sem,↓runOp,↓gateD,↓runD,↓reduceIte,Nat.reduceLT,Nat.reduceLeDiff,Nat.reduceEqDiff,reduceCtorEq,Int.reduceToNat,Int.reduceLE,hwp] | rw [dr_cons])
     repeat (with_reducible refine And.intro (by first | omega | (simp only [maxLen];omega) | exact Or.inl trivial | exact Or.inr trivial | exact ⟨Or.inl trivial,Or.inr trivial⟩ | exact trivial) ?_)
     have hsx:stepS o s 0 ⟨4,reg,ad,val,frm,old,cnt⟩=some (⟨s.words,s.regs,s.places,s.bufs⟩,1):=by rw [st4,if_neg hbf]
     rw [← hR,← hW,hst,hsx]
     exact retTurnP (s:=⟨s.words,s.regs,_,s.bufs⟩) (s0:=s) List.mem_cons_self (fun E E'=>by simp [SV.den,SC.den]) rfl rfl (by simp) rfl rfl rfl rfl rfl rfl rfl (set_atsT (enc:=eI) hk1) rfl rfl
   by_cases k5:kind=5
   ·subst k5
    have hg:0≤reg∧reg<4:=f3 (by decide) (by decide)
    have hnr:=nth_r4 (xs:=s.regs) (k:=0) hg
    simp (maxSteps:=2000000) only [go_sem,↓condS,↓runOp,↓imp_ft,↓imp_ff,↓reduceIte,Nat.reduceLT,Nat.reduceLeDiff,Nat.reduceAdd,Nat.reduceMul,Nat.reduceEqDiff,reduceCtorEq,Int.reduceToNat,Int.reduceLT,Int.reduceLE,ir40_44,dhe,Ins.enc,hci]
    refine And.intro (by omega) (And.intro (by omega) (And.intro ⟨_,Try.func78,by kernel_rfl,by kernel_rfl⟩ ?_))
    refine call_inline (c:=ir78) (rs:=rs78) (nt:=nt78) 1000 (mkTab_ok _ _) Try.func78 rfl (by kernel_rfl) (by kernel_rfl) rfl (by simp [okVs,SV.okN,SC.okN]) (of_decide_eq_true rfl) (fun E0 a0 ht0=>?_)
    simp (maxSteps:=2000000) only [ir78,nt78,rs78,go_sem,↓runOp,↓reduceIte,Nat.reduceLT,Nat.reduceEqDiff,reduceCtorEq]
    refine draw_vc (by kernel_rfl) (mkTab_ok _ _) (of_decide_eq_true rfl) (of_decide_eq_true rfl) ?_
    repeat (first | simp (maxSteps:=2000000) only [go_sem,↓gateD,↓runD,↓reduceIte,Nat.reduceLT,Nat.reduceEqDiff,reduceCtorEq] | rw [dr_cons])
    refine dcall_intro (reg_cr (regs:=s.regs) rfl rfl hkr hg rfl rfl rfl (fun _ _=>rfl) ⟨rfl,rfl,rfl,rfl,rfl,rfl,fun _=>rfl⟩ fun _=>⟨rfl,rfl,rfl⟩) rfl trivial trivial (fun _ hk=>by cases hk) ?_
    repeat (first | simp (maxSteps:=2000000) only [go_sem,↓runOp,↓gateD,↓runD,↓reduceIte,Nat.reduceLT,Nat.reduceLeDiff,Nat.reduceAdd,Nat.reduceEqDiff,reduceCtorEq] | rw [dr_cons])
    repeat (with_reducible refine And.intro (by first | omega | (simp only [maxLen];omega) | exact Or.inl trivial | exact Or.inr trivial | exact ⟨Or.inl trivial,Or.inr trivial⟩ | exact trivial) ?_)
    refine retI ht0 _ rfl (of_decide_eq_true rfl) (by simp [SV.okN,SC.okN]) ?_
    simp (maxSteps:=2000000) only [go_sem,↓condS,↓runOp,↓reduceIte,Nat.reduceLT,Nat.reduceEqDiff]
    rw [put_r4 hkr hg]
    refine draw_vc (by kernel_rfl) (mkTab_ok _ _) (of_decide_eq_true rfl) (of_decide_eq_true rfl) ?_
    repeat (first | simp (maxSteps:=2000000) only [go_sem,↓runOp,↓gateD,↓runD,↓reduceIte,Nat.reduceLT,Nat.reduceLeDiff,Nat.reduceEqDiff,reduceCtorEq,Int.reduceToNat,Int.reduceLE,hwp] | rw [dr_cons])
    repeat (with_reducible refine And.intro (by first | omega | (simp only [maxLen];omega) | exact Or.inl trivial | exact Or.inr trivial | exact ⟨Or.inl trivial,Or.inr trivial⟩ | exact trivial) ?_)
    have hsx:stepS o s 0 ⟨5,reg,ad,val,frm,old,cnt⟩=some (⟨s.words,s.regs.set 0 ((s.regs.getD 0 r40).put reg val),s.places,s.bufs⟩,1):=by simp [stepS]
    rw [← hR,← hW,hst,hsx]
    exact retTurnP (s:=⟨s.words,s.regs.set 0 ((s.regs.getD 0 r40).put reg val),_,s.bufs⟩) (s0:=s) List.mem_cons_self (fun E E'=>by simp [SV.den,SC.den]) rfl (by simp) (by simp) rfl rfl rfl rfl rfl rfl rfl (set_atsT (enc:=eI) hk1) rfl rfl
   by_cases k6:kind=6
   ·subst k6
    have hg:0≤reg∧reg<4:=f3 (by decide) (by decide)
    have hnr:=nth_r4 (xs:=s.regs) (k:=0) hg
    simp (maxSteps:=2000000) only [go_sem,↓condS,↓runOp,↓imp_ft,↓imp_ff,↓reduceIte,Nat.reduceLT,Nat.reduceLeDiff,Nat.reduceAdd,Nat.reduceMul,Nat.reduceEqDiff,reduceCtorEq,Int.reduceToNat,Int.reduceLT,Int.reduceLE,ir40_44,dhe,Ins.enc,hci]
    refine And.intro (by omega) (And.intro (by omega) (And.intro ⟨_,Try.func79,by kernel_rfl,by kernel_rfl⟩ ?_))
    refine call_inline (c:=ir79) (rs:=rs79) (nt:=nt79) 1000 (mkTab_ok _ _) Try.func79 rfl (by kernel_rfl) (by kernel_rfl) rfl (by simp [okVs,SV.okN,SC.okN]) (of_decide_eq_true rfl) (fun E0 a0 ht0=>?_)
    simp (maxSteps:=2000000) only [ir79,nt79,rs79,go_sem,↓runOp,↓reduceIte,Nat.reduceLT,Nat.reduceEqDiff,reduceCtorEq]
    refine draw_vc (by kernel_rfl) (mkTab_ok _ _) (of_decide_eq_true rfl) (of_decide_eq_true rfl) ?_
    repeat (first | simp (maxSteps:=2000000) only [go_sem,↓gateD,↓runD,↓reduceIte,Nat.reduceLT,Nat.reduceEqDiff,reduceCtorEq] | rw [dr_cons])
    refine dcall_intro (reg_cr (regs:=s.regs) rfl rfl hkr hg rfl rfl rfl (fun _ _=>rfl) ⟨rfl,rfl,rfl,rfl,rfl,rfl,fun _=>rfl⟩ fun _=>⟨rfl,rfl,rfl⟩) rfl trivial trivial (fun _ hk=>by cases hk) ?_
    repeat (first | simp (maxSteps:=2000000) only [go_sem,↓runOp,↓gateD,↓runD,↓reduceIte,Nat.reduceLT,Nat.reduceLeDiff,Nat.reduceAdd,Nat.reduceEqDiff,reduceCtorEq,hnr] | rw [dr_cons])
    repeat (with_reducible refine And.intro (by first | omega | (simp only [maxLen];omega) | exact Or.inl trivial | exact Or.inr trivial | exact ⟨Or.inl trivial,Or.inr trivial⟩ | exact trivial) ?_)
    refine retI ht0 _ rfl (of_decide_eq_true rfl) (by simp [SV.okN,SC.okN]) ?_
    simp (maxSteps:=2000000) only [go_sem,↓condS,↓runOp,↓reduceIte,Nat.reduceLT,Nat.reduceEqDiff]
    rw [put_r4 hkr hg]
    refine draw_vc (by kernel_rfl) (mkTab_ok _ _) (of_decide_eq_true rfl) (of_decide_eq_true rfl) ?_
    repeat (first | simp (maxSteps:=2000000) only [go_sem,↓runOp,↓gateD,↓runD,↓reduceIte,Nat.reduceLT,Nat.reduceLeDiff,Nat.reduceEqDiff,reduceCtorEq,Int.reduceToNat,Int.reduceLE,hwp] | rw [dr_cons])
    repeat (with_reducible refine And.intro (by first | omega | (simp only [maxLen];omega) | exact Or.inl trivial | exact Or.inr trivial | exact ⟨Or.inl trivial,Or.inr trivial⟩ | exact trivial) ?_)
    have hsx:stepS o s 0 ⟨6,reg,ad,val,frm,old,cnt⟩=some (⟨s.words,s.regs.set 0 ((s.regs.getD 0 r40).put reg (IntKind.i64.wrap ((s.regs.getD 0 r40).get reg+val))),s.places,s.bufs⟩,1):=by simp [stepS]
    rw [← hR,← hW,hst,hsx]
    exact retTurnP (s:=⟨s.words,s.regs.set 0 ((s.regs.getD 0 r40).put reg (IntKind.i64.wrap ((s.regs.getD 0 r40).get reg+val))),_,s.bufs⟩) (s0:=s) List.mem_cons_self (fun E E'=>by simp [SV.den,SC.den]) rfl (by simp) (by simp) rfl rfl rfl rfl rfl rfl rfl (set_atsT (enc:=eI) hk1) rfl rfl
   have k7:kind=7:=by omega
   subst k7
   have hg:0≤reg∧reg<4:=f3 (by decide) (by decide)
   have hnr:=nth_r4 (xs:=s.regs) (k:=0) hg
   have hcn:=f6 rfl
   have hwc:IntKind.i64.wrap (s.places.getD 0 0+cnt)=s.places.getD 0 0+cnt:=wrI (by omega)
   have hwd:IntKind.i64.wrap (s.places.getD 0 0+cnt+1)=s.places.getD 0 0+(1+cnt):=by rw [wrI (by omega)];omega
   have hgs:(s.places.set 0 (s.places.getD 0 0+cnt)).getD 0 0=s.places.getD 0 0+cnt:=by rw [getD_setE,if_pos ⟨rfl,hk1⟩]
   have hk2:0<(s.places.set 0 (s.places.getD 0 0+cnt)).length:=by simpa using hk1
   simp (maxSteps:=2000000) only [go_sem,↓condS,↓runOp,↓imp_ft,↓imp_ff,↓reduceIte,Nat.reduceLT,Nat.reduceLeDiff,Nat.reduceAdd,Nat.reduceMul,Nat.reduceEqDiff,reduceCtorEq,Int.reduceToNat,Int.reduceLT,Int.reduceLE,ir40_44,dhe,Ins.enc,hci]
   refine And.intro (by omega) (And.intro (by omega) (And.intro ⟨_,Try.func80,by kernel_rfl,by kernel_rfl⟩ ?_))
   refine call_inline (c:=ir80) (rs:=rs80) (nt:=nt80) 1000 (mkTab_ok _ _) Try.func80 rfl (by kernel_rfl) (by kernel_rfl) rfl (by simp [okVs,SV.okN,SC.okN]) (of_decide_eq_true rfl) (fun E0 a0 ht0=>?_)
   simp (maxSteps:=2000000) only [ir80,nt80,rs80,go_sem,↓runOp,↓reduceIte,Nat.reduceLT,Nat.reduceEqDiff,reduceCtorEq]
   refine draw_vc (by kernel_rfl) (mkTab_ok _ _) (of_decide_eq_true rfl) (of_decide_eq_true rfl) ?_
   repeat (first | simp (maxSteps:=2000000) only [go_sem,↓gateD,↓runD,↓reduceIte,Nat.reduceLT,Nat.reduceEqDiff,reduceCtorEq] | rw [dr_cons])
   refine dcall_intro (reg_cr (regs:=s.regs) rfl rfl hkr hg rfl rfl rfl (fun _ _=>rfl) ⟨rfl,rfl,rfl,rfl,rfl,rfl,fun _=>rfl⟩ fun _=>⟨rfl,rfl,rfl⟩) rfl trivial trivial (fun _ hk=>by cases hk) ?_
   repeat (first | simp (maxSteps:=2000000) only [go_sem,↓condS,↓runOp,↓gateD,↓runD,↓reduceIte,Nat.reduceLT,Nat.reduceAdd,Nat.reduceEqDiff,reduceCtorEq,hnr] | rw [dr_cons])
   repeat (with_reducible refine And.intro (by first | omega | (simp only [maxLen];omega) | exact Or.inl trivial | exact Or.inr trivial | exact ⟨Or.inl trivial,Or.inr trivial⟩ | exact trivial) ?_)
   refine both (fun hq=>?_) (fun hq=>?_)
   ·have hq:(s.regs.getD 0 r40).get reg=val:=by simpa using hq
    refine draw_vc (by kernel_rfl) (mkTab_ok _ _) (of_decide_eq_true rfl) (of_decide_eq_true rfl) ?_
    repeat (first | simp (maxSteps:=2000000) only [go_sem,↓runOp,↓gateD,↓runD,↓reduceIte,Nat.reduceLT,Nat.reduceLeDiff,Nat.reduceAdd,Nat.reduceEqDiff,reduceCtorEq,Int.reduceToNat,Int.reduceLE,hwc] | rw [dr_cons])
    repeat (with_reducible refine And.intro (by first | omega | (simp only [maxLen];omega) | exact Or.inl trivial | exact Or.inr trivial | exact ⟨Or.inl trivial,Or.inr trivial⟩ | exact trivial) ?_)
    refine retI ht0 _ rfl (of_decide_eq_true rfl) (by simp [SV.okN,SC.okN]) ?_
    simp (maxSteps:=2000000) only [go_sem,↓condS,↓runOp,↓reduceIte,Nat.reduceLT,Nat.reduceEqDiff]
    rw [show setAt 0 (ats eI s.places 0) [.v (.int .i64 (s.places.getD 0 0+cnt))]=ats eI (s.places.set 0 (s.places.getD 0 0+cnt)) 0 from set_atsT (enc:=eI) hk1]
    refine draw_vc (by kernel_rfl) (mkTab_ok _ _) (of_decide_eq_true rfl) (of_decide_eq_true rfl) ?_
    repeat (first | simp (maxSteps:=2000000) only [go_sem,↓runOp,↓gateD,↓runD,↓reduceIte,Nat.reduceLT,Nat.reduceLeDiff,Nat.reduceEqDiff,reduceCtorEq,Int.reduceToNat,Int.reduceLE,hgs,hwd] | rw [dr_cons])
    repeat (with_reducible refine And.intro (by first | omega | (simp only [maxLen];omega) | exact Or.inl trivial | exact Or.inr trivial | exact ⟨Or.inl trivial,Or.inr trivial⟩ | exact trivial) ?_)
    have hsx:stepS o s 0 ⟨7,reg,ad,val,frm,old,cnt⟩=some (⟨s.words,s.regs,s.places,s.bufs⟩,1+cnt):=by rw [st7,if_pos hq]
    rw [← hR,← hW,hst,hsx]
    exact retTurnP (s:=⟨s.words,s.regs,_,s.bufs⟩) (s0:=s) List.mem_cons_self (fun E E'=>by simp [SV.den,SC.den]) rfl rfl (by simp) rfl rfl rfl rfl rfl rfl rfl ((set_atsT (enc:=eI) hk2).trans (by rw [List.set_set])) rfl rfl
   ·have hq:¬ (s.regs.getD 0 r40).get reg=val:=by simpa using hq
    refine retI ht0 _ rfl (of_decide_eq_true rfl) (by simp [SV.okN,SC.okN]) ?_
    simp (maxSteps:=2000000) only [go_sem,↓condS,↓runOp,↓reduceIte,Nat.reduceLT,Nat.reduceEqDiff]
    refine draw_vc (by kernel_rfl) (mkTab_ok _ _) (of_decide_eq_true rfl) (of_decide_eq_true rfl) ?_
    repeat (first | simp (maxSteps:=2000000) only [go_sem,↓runOp,↓gateD,↓runD,↓reduceIte,Nat.reduceLT,Nat.reduceLeDiff,Nat.reduceEqDiff,reduceCtorEq,Int.reduceToNat,Int.reduceLE,hwp] | rw [dr_cons])
    repeat (with_reducible refine And.intro (by first | omega | (simp only [maxLen];omega) | exact Or.inl trivial | exact Or.inr trivial | exact ⟨Or.inl trivial,Or.inr trivial⟩ | exact trivial) ?_)
    have hsx:stepS o s 0 ⟨7,reg,ad,val,frm,old,cnt⟩=some (⟨s.words,s.regs,s.places,s.bufs⟩,1):=by rw [st7,if_neg hq]
    rw [← hR,← hW,hst,hsx]
    exact retTurnP (s:=⟨s.words,s.regs,_,s.bufs⟩) (s0:=s) List.mem_cons_self (fun E E'=>by simp [SV.den,SC.den]) rfl rfl (by simp) rfl rfl rfl rfl rfl rfl rfl (set_atsT (enc:=eI) hk1) rfl rfl
 ·have hwi:∀ w',Calls Try.prog 72 #[.int .i64 thr,.int .i64 (L.thr.length:Nat)] w' (RetV w' (.bool false)):=fun w'=>by
   have:=withinL w' thr L.thr.length
   rw [decide_eq_false hk] at this
   exact this
  have hno2:turnS L o s ⟨thr,out,addr⟩=(s,false):=by unfold turnS;rw [if_neg hk]
  simp (maxSteps:=2000000) only [ir40,nt40,rs40,go_sem,↓runOp,↓reduceIte,Nat.reduceLT,Nat.reduceAdd,Nat.reduceEqDiff,reduceCtorEq,ltA,ltS,Tn.enc,stP,stO,stC]
  refine callV (.c (.v (.bool false))) _ (fun E=>rfl) (fun E a w' _=>hwi w') ?_
  simp (maxSteps:=2000000) only [go_sem,↓condS,↓runOp,↓reduceIte,Nat.reduceLT,Nat.reduceEqDiff]
  exact hno hno2 List.mem_cons_self rfl rfl rfl rfl rfl rfl
end Go.Proofs.Ytmcpdafmkkjlcaa.Z
namespace Go.Proofs.Ytmcpdafmkkjlcaa.Z
open Go Go.RowKit
def ir25_62:IR:=(.cond (.t 62) (.draw [(⟨(some 64),(.mv (.t 2)),none⟩,([],[68,69,70,71,72,73,74,75])),(⟨(some 65),(.nilck (.t 64)),none⟩,([],[68,69,70,71,72,73,74,75])),(⟨(some 66),(.fa 1 (.t 65)),none⟩,([],[68,69,70,71,72,73,74,75])),(⟨(some 67),(.ld false 1 (.t 66)),none⟩,([],[68,69,70,71,72,73,74,75])),(⟨(some 68),(.mv (.t 9)),none⟩,([0,1,2,3],[64,65,66,67,69,70,71,72,73,74,75])),(⟨(some 69),(.fa 1 (.t 10)),none⟩,([0,1,2,3,4],[64,65,66,67,68,71,72,73,74,75,76])),(⟨(some 70),(.ld false 1 (.t 69)),none⟩,([0,1,2,3,4],[64,65,66,67,68,71,72,73,74,75,76])),(⟨(some 71),(.mv (.t 2)),none⟩,([0,1,2,3,4,5,6],[64,65,66,67,68,69,70,72,73,74,76])),(⟨(some 72),(.mv (.t 9)),none⟩,([0,1,2,3,4,5,6,7],[64,65,66,67,68,69,70,71,73,74,76])),(⟨(some 73),(.fa 2 (.t 10)),none⟩,([0,1,2,3,4,5,6,7,8],[64,65,66,67,68,69,70,71,72,76])),(⟨(some 74),(.ld false 1 (.t 73)),none⟩,([0,1,2,3,4,5,6,7,8],[64,65,66,67,68,69,70,71,72,76])),(⟨(some 75),(.call 48 [(.t 71),(.t 72),(.t 74)]),none⟩,([0,1,2,3,4,5,6],[64,65,66,67,68,69,70,76])),(⟨(some 76),(.ia 4 (.t 67) (.t 68)),none⟩,([5,6,7,8,9,10,11],[69,70,71,72,73,74,75])),(⟨(some 77),(.iar 4 1 (.t 76) (.t 70)),none⟩,([],[])),(⟨none,(.st 1 (.t 77) (.t 75)),none⟩,([],[]))]) (.seq (.ops [⟨(some 79),(.bin .eql (.t 61) (.k (.c (.v (.int .i64 2))))),none⟩,⟨(some 78),(.mv (.t 79)),none⟩]) (.kill [62,79] (.cond (.t 78) (.seq (.ops [⟨(some 80),(.fa 3 (.t 10)),none⟩,⟨(some 81),(.ld false 1 (.t 80)),none⟩,⟨(some 12),(.mv (.t 81)),none⟩]) (.kill [61,78,80,81] (.seq (.seq (.ops [⟨(some 82),(.fa 4 (.t 10)),none⟩,⟨(some 83),(.ld false 1 (.t 82)),none⟩,⟨(some 84),(.bin .geq (.t 83) (.k (.c (.v (.int .i64 0))))),none⟩]) (.kill [82,83] (.cond (.t 84) (.draw [(⟨(some 85),(.mv (.t 2)),none⟩,([],[89,90,91])),(⟨(some 86),(.nilck (.t 85)),none⟩,([],[89,90,91])),(⟨(some 87),(.fa 1 (.t 86)),none⟩,([],[89,90,91])),(⟨(some 88),(.ld false 1 (.t 87)),none⟩,([],[89,90,91])),(⟨(some 89),(.mv (.t 9)),none⟩,([0,1,2,3],[85,86,87,88,90,91])),(⟨(some 90),(.fa 4 (.t 10)),none⟩,([0,1,2,3,4],[85,86,87,88,89,92])),(⟨(some 91),(.ld false 1 (.t 90)),none⟩,([0,1,2,3,4],[85,86,87,88,89,92])),(⟨(some 92),(.ia 4 (.t 88) (.t 89)),none⟩,([5,6],[90,91])),(⟨(some 93),(.iar 4 1 (.t 92) (.t 91)),none⟩,([],[])),(⟨(some 94),(.ld false 1 (.t 93)),none⟩,([],[])),(⟨(some 12),(.mv (.t 94)),none⟩,([],[]))]) .skip))) (.kill [84,85,86,87,88,89,90,91,92,93,94] (.seq (.ops [⟨(some 95),(.mv (.t 1)),none⟩,⟨(some 96),(.bin .eql (.t 95) (.k (.c (.v (.int .i64 1))))),none⟩]) (.kill [1,95] (.cond (.t 96) (.draw [(⟨(some 97),(.mv (.t 2)),none⟩,([],[101,102,103])),(⟨(some 98),(.nilck (.t 97)),none⟩,([],[101,102,103])),(⟨(some 99),(.fa 0 (.t 98)),none⟩,([],[101,102,103])),(⟨(some 100),(.ld false 1 (.t 99)),none⟩,([],[101,102,103])),(⟨(some 101),(.fa 2 (.t 10)),none⟩,([0,1,2,3],[97,98,99,100,103])),(⟨(some 102),(.ld false 1 (.t 101)),none⟩,([0,1,2,3],[97,98,99,100,103])),(⟨(some 103),(.mv (.t 12)),none⟩,([0,1,2,3,4,5],[97,98,99,100,101,102])),(⟨(some 104),(.ia 1 (.t 100) (.t 102)),none⟩,([],[])),(⟨none,(.st 1 (.t 104) (.t 103)),none⟩,([],[]))]) (.draw [(⟨(some 105),(.mv (.t 2)),none⟩,([],[109,110,111,112,113,114,115,116,117,118,119,120,121,122])),(⟨(some 106),(.nilck (.t 105)),none⟩,([],[109,110,111,112,113,114,115,116,117,118,119,120,121,122])),(⟨(some 107),(.fa 3 (.t 106)),none⟩,([],[109,110,111,112,113,114,115,116,117,118,119,120,121,122])),(⟨(some 108),(.ld false 1 (.t 107)),none⟩,([],[109,110,111,112,113,114,115,116,117,118,119,120,121,122])),(⟨(some 109),(.mv (.t 9)),none⟩,([0,1,2,3],[105,106,107,108,110,111,112,113,114,115,116,117,118,119,120,121,122])),(⟨(some 110),(.mv (.t 2)),none⟩,([0,1,2,3,4],[105,106,107,108,109,114,117,118,119,120,121])),(⟨(some 111),(.nilck (.t 110)),none⟩,([0,1,2,3,4],[105,106,107,108,109,114,117,118,119,120,121])),(⟨(some 112),(.fa 3 (.t 111)),none⟩,([0,1,2,3,4],[105,106,107,108,109,114,117,118,119,120,121])),(⟨(some 113),(.ld false 1 (.t 112)),none⟩,([0,1,2,3,4],[105,106,107,108,109,114,117,118,119,120,121])),(⟨(some 114),(.mv (.t 9)),none⟩,([0,1,2,3,4,5,6,7,8],[105,106,107,108,109,110,111,112,113,117,118,119,120,121])),(⟨(some 115),(.ia 1 (.t 113) (.t 114)),none⟩,([0,1,2,3,4],[105,106,107,108,109,117,118,119,120,121])),(⟨(some 116),(.ld false 1 (.t 115)),none⟩,([0,1,2,3,4],[105,106,107,108,109,117,118,119,120,121])),(⟨(some 117),(.fa 2 (.t 10)),none⟩,([0,1,2,3,4,5,6,7,8,9,10,11],[105,106,107,108,109,110,111,112,113,114,115,116,119])),(⟨(some 118),(.ld false 1 (.t 117)),none⟩,([0,1,2,3,4,5,6,7,8,9,10,11],[105,106,107,108,109,110,111,112,113,114,115,116,119])),(⟨(some 119),(.mv (.t 12)),none⟩,([0,1,2,3,4,5,6,7,8,9,10,11,12,13],[105,106,107,108,109,110,111,112,113,114,115,116,117,118])),(⟨(some 120),(.build [(.v (.int .i64 0)),(.v (.int .i64 0))] [(0,(1,(.t 118))),(1,(1,(.t 119)))]),none⟩,([0,1,2,3,4,5,6,7,8,9,10,11],[105,106,107,108,109,110,111,112,113,114,115,116])),(⟨(some 121),(.mkSl 88 1 2 [(.v (.int .i64 0)),(.v (.int .i64 0))] [(0,(2,(.t 120)))]),none⟩,([0,1,2,3,4,5,6,7,8,9,10,11],[105,106,107,108,109,110,111,112,113,114,115,116])),(⟨(some 122),(.app 88 2 16 [(.v (.int .i64 0)),(.v (.int .i64 0))] (.t 116) (.t 121)),none⟩,([0,1,2,3,4],[105,106,107,108,109])),(⟨(some 123),(.ia 1 (.t 108) (.t 109)),none⟩,([],[])),(⟨none,(.st 1 (.t 123) (.t 122)),none⟩,([],[]))])))))))) (.seq (.ops [⟨(some 125),(.bin .eql (.t 61) (.k (.c (.v (.int .i64 3))))),none⟩,⟨(some 124),(.mv (.t 125)),none⟩]) (.kill [1,78,125] (.cond (.t 124) (.seq (.seq (.ops [⟨(some 126),(.mv (.t 2)),none⟩,⟨(some 127),(.nilck (.t 126)),none⟩,⟨(some 128),(.fa 3 (.t 127)),none⟩,⟨(some 129),(.ld false 1 (.t 128)),none⟩,⟨(some 130),(.mv (.t 9)),none⟩,⟨(some 131),(.ia 1 (.t 129) (.t 130)),none⟩,⟨(some 132),(.ld false 1 (.t 131)),none⟩,⟨(some 133),(.len (.t 132)),none⟩,⟨(some 134),(.bin .gtr (.t 133) (.k (.c (.v (.int .i64 0))))),none⟩]) (.kill [61,124,126,127,128,129,130,131,132,133] (.cond (.t 134) (.seq (.ops [⟨(some 8),(.mv (.k (.c (.v (.bool false))))),none⟩]) (.kill [2,4,9,10,11,134] .ret)) .skip))) (.kill [8,134] (.seq (.draw [(⟨(some 135),(.mv (.t 2)),none⟩,([],[139,140,141])),(⟨(some 136),(.nilck (.t 135)),none⟩,([],[139,140,141])),(⟨(some 137),(.fa 1 (.t 136)),none⟩,([],[139,140,141])),(⟨(some 138),(.ld false 1 (.t 137)),none⟩,([],[139,140,141])),(⟨(some 139),(.mv (.t 9)),none⟩,([0,1,2,3],[135,136,137,138,140,141])),(⟨(some 140),(.fa 1 (.t 10)),none⟩,([0,1,2,3,4],[135,136,137,138,139,142])),(⟨(some 141),(.ld false 1 (.t 140)),none⟩,([0,1,2,3,4],[135,136,137,138,139,142])),(⟨(some 142),(.ia 4 (.t 138) (.t 139)),none⟩,([5,6],[140,141])),(⟨(some 143),(.iar 4 1 (.t 142) (.t 141)),none⟩,([],[])),(⟨none,(.st 1 (.t 143) (.k (.c (.v (.int .i64 0))))),none⟩,([],[]))]) (.kill [135,136,137,138,139,140,141,142,143] (.seq (.draw [(⟨(some 144),(.mv (.t 2)),none⟩,([],[148,149,152,153])),(⟨(some 145),(.nilck (.t 144)),none⟩,([],[148,149,152,153])),(⟨(some 146),(.fa 0 (.t 145)),none⟩,([],[148,149,152,153])),(⟨(some 147),(.ld false 1 (.t 146)),none⟩,([],[148,149,152,153])),(⟨(some 148),(.fa 2 (.t 10)),none⟩,([0,1,2,3],[144,145,146,147,152,153])),(⟨(some 149),(.ld false 1 (.t 148)),none⟩,([0,1,2,3],[144,145,146,147,152,153])),(⟨(some 150),(.ia 1 (.t 147) (.t 149)),none⟩,([],[152,153])),(⟨(some 151),(.ld false 1 (.t 150)),none⟩,([],[152,153])),(⟨(some 152),(.fa 5 (.t 10)),none⟩,([0,1,2,3,4,5,6,7],[144,145,146,147,148,149,150,151])),(⟨(some 153),(.ld false 1 (.t 152)),none⟩,([0,1,2,3,4,5,6,7],[144,145,146,147,148,149,150,151])),(⟨(some 154),(.bin .eql (.t 151) (.t 153)),none⟩,([],[]))]) (.kill [144,145,146,147,148,149,150,151,152,153] (.cond (.t 154) (.seq (.draw [(⟨(some 155),(.mv (.t 2)),none⟩,([],[159,160,161,162])),(⟨(some 156),(.nilck (.t 155)),none⟩,([],[159,160,161,162])),(⟨(some 157),(.fa 0 (.t 156)),none⟩,([],[159,160,161,162])),(⟨(some 158),(.ld false 1 (.t 157)),none⟩,([],[159,160,161,162])),(⟨(some 159),(.fa 2 (.t 10)),none⟩,([0,1,2,3],[155,156,157,158,161,162])),(⟨(some 160),(.ld false 1 (.t 159)),none⟩,([0,1,2,3],[155,156,157,158,161,162])),(⟨(some 161),(.fa 3 (.t 10)),none⟩,([0,1,2,3,4,5],[155,156,157,158,159,160])),(⟨(some 162),(.ld false 1 (.t 161)),none⟩,([0,1,2,3,4,5],[155,156,157,158,159,160])),(⟨(some 163),(.ia 1 (.t 158) (.t 160)),none⟩,([],[])),(⟨none,(.st 1 (.t 163) (.t 162)),none⟩,([],[]))]) (.kill [154,155,156,157,158,159,160,161,162,163] (.draw [(⟨(some 164),(.mv (.t 2)),none⟩,([],[168,169,170])),(⟨(some 165),(.nilck (.t 164)),none⟩,([],[168,169,170])),(⟨(some 166),(.fa 1 (.t 165)),none⟩,([],[168,169,170])),(⟨(some 167),(.ld false 1 (.t 166)),none⟩,([],[168,169,170])),(⟨(some 168),(.mv (.t 9)),none⟩,([0,1,2,3],[164,165,166,167,169,170])),(⟨(some 169),(.fa 1 (.t 10)),none⟩,([0,1,2,3,4],[164,165,166,167,168,171])),(⟨(some 170),(.ld false 1 (.t 169)),none⟩,([0,1,2,3,4],[164,165,166,167,168,171])),(⟨(some 171),(.ia 4 (.t 167) (.t 168)),none⟩,([5,6],[169,170])),(⟨(some 172),(.iar 4 1 (.t 171) (.t 170)),none⟩,([],[])),(⟨none,(.st 1 (.t 172) (.k (.c (.v (.int .i64 1))))),none⟩,([],[]))]))) .skip))))))) (.seq (.ops [⟨(some 174),(.bin .eql (.t 61) (.k (.c (.v (.int .i64 4))))),none⟩,⟨(some 173),(.mv (.t 174)),none⟩]) (.kill [124,174] (.cond (.t 173) (.seq (.ops [⟨(some 175),(.mv (.t 2)),none⟩,⟨(some 176),(.nilck (.t 175)),none⟩,⟨(some 177),(.fa 3 (.t 176)),none⟩,⟨(some 178),(.ld false 1 (.t 177)),none⟩,⟨(some 179),(.mv (.t 9)),none⟩,⟨(some 180),(.ia 1 (.t 178) (.t 179)),none⟩,⟨(some 181),(.ld false 1 (.t 180)),none⟩,⟨(some 182),(.len (.t 181)),none⟩,⟨(some 183),(.bin .gtr (.t 182) (.k (.c (.v (.int .i64 0))))),none⟩]) (.kill [10,61,173,175,176,177,178,179,180,181,182] (.cond (.t 183) (.seq (.ops [⟨(some 8),(.mv (.k (.c (.v (.bool false))))),none⟩]) (.kill [2,4,9,11,183] .ret)) .skip))) (.seq (.ops [⟨(some 185),(.bin .eql (.t 61) (.k (.c (.v (.int .i64 5))))),none⟩,⟨(some 184),(.mv (.t 185)),none⟩]) (.kill [173,185] (.cond (.t 184) (.draw [(⟨(some 186),(.mv (.t 2)),none⟩,([],[190,191,192,193,194])),(⟨(some 187),(.nilck (.t 186)),none⟩,([],[190,191,192,193,194])),(⟨(some 188),(.fa 1 (.t 187)),none⟩,([],[190,191,192,193,194])),(⟨(some 189),(.ld false 1 (.t 188)),none⟩,([],[190,191,192,193,194])),(⟨(some 190),(.mv (.t 9)),none⟩,([0,1,2,3],[186,187,188,189,191,192,193,194])),(⟨(some 191),(.fa 1 (.t 10)),none⟩,([0,1,2,3,4],[186,187,188,189,190,193,194,195])),(⟨(some 192),(.ld false 1 (.t 191)),none⟩,([0,1,2,3,4],[186,187,188,189,190,193,194,195])),(⟨(some 193),(.fa 3 (.t 10)),none⟩,([0,1,2,3,4,5,6],[186,187,188,189,190,191,192,195])),(⟨(some 194),(.ld false 1 (.t 193)),none⟩,([0,1,2,3,4,5,6],[186,187,188,189,190,191,192,195])),(⟨(some 195),(.ia 4 (.t 189) (.t 190)),none⟩,([5,6,7,8],[191,192,193,194])),(⟨(some 196),(.iar 4 1 (.t 195) (.t 192)),none⟩,([],[])),(⟨none,(.st 1 (.t 196) (.t 194)),none⟩,([],[]))]) (.seq (.ops [⟨(some 198),(.bin .eql (.t 61) (.k (.c (.v (.int .i64 6))))),none⟩,⟨(some 197),(.mv (.t 198)),none⟩]) (.kill [184,198] (.cond (.t 197) (.draw [(⟨(some 199),(.mv (.t 2)),none⟩,([],[203,204,205,209,210])),(⟨(some 200),(.nilck (.t 199)),none⟩,([],[203,204,205,209,210])),(⟨(some 201),(.fa 1 (.t 200)),none⟩,([],[203,204,205,209,210])),(⟨(some 202),(.ld false 1 (.t 201)),none⟩,([],[203,204,205,209,210])),(⟨(some 203),(.mv (.t 9)),none⟩,([0,1,2,3],[199,200,201,202,204,205,209,210])),(⟨(some 204),(.fa 1 (.t 10)),none⟩,([0,1,2,3,4],[199,200,201,202,203,206,209,210,212])),(⟨(some 205),(.ld false 1 (.t 204)),none⟩,([0,1,2,3,4],[199,200,201,202,203,206,209,210,212])),(⟨(some 206),(.ia 4 (.t 202) (.t 203)),none⟩,([5,6],[204,205,209,210,212])),(⟨(some 207),(.iar 4 1 (.t 206) (.t 205)),none⟩,([],[209,210,212])),(⟨(some 208),(.ld false 1 (.t 207)),none⟩,([],[209,210,212])),(⟨(some 209),(.fa 3 (.t 10)),none⟩,([0,1,2,3,4,5,6,7,8,9],[199,200,201,202,203,204,205,206,207,208,212])),(⟨(some 210),(.ld false 1 (.t 209)),none⟩,([0,1,2,3,4,5,6,7,8,9],[199,200,201,202,203,204,205,206,207,208,212])),(⟨(some 211),(.bin .add (.t 208) (.t 210)),none⟩,([],[212])),(⟨(some 212),(.ia 4 (.t 202) (.t 203)),none⟩,([5,6,7,8,9,10,11,12],[204,205,206,207,208,209,210,211])),(⟨(some 213),(.iar 4 1 (.t 212) (.t 205)),none⟩,([],[])),(⟨none,(.st 1 (.t 213) (.t 211)),none⟩,([],[]))]) (.seq (.ops [⟨(some 215),(.bin .eql (.t 61) (.k (.c (.v (.int .i64 7))))),none⟩,⟨(some 214),(.mv (.t 215)),none⟩]) (.kill [61,197,215] (.cond (.t 214) (.seq (.draw [(⟨(some 216),(.mv (.t 2)),none⟩,([],[220,221,222,226,227])),(⟨(some 217),(.nilck (.t 216)),none⟩,([],[220,221,222,226,227])),(⟨(some 218),(.fa 1 (.t 217)),none⟩,([],[220,221,222,226,227])),(⟨(some 219),(.ld false 1 (.t 218)),none⟩,([],[220,221,222,226,227])),(⟨(some 220),(.mv (.t 9)),none⟩,([0,1,2,3],[216,217,218,219,221,222,226,227])),(⟨(some 221),(.fa 1 (.t 10)),none⟩,([0,1,2,3,4],[216,217,218,219,220,223,226,227])),(⟨(some 222),(.ld false 1 (.t 221)),none⟩,([0,1,2,3,4],[216,217,218,219,220,223,226,227])),(⟨(some 223),(.ia 4 (.t 219) (.t 220)),none⟩,([5,6],[221,222,226,227])),(⟨(some 224),(.iar 4 1 (.t 223) (.t 222)),none⟩,([],[226,227])),(⟨(some 225),(.ld false 1 (.t 224)),none⟩,([],[226,227])),(⟨(some 226),(.fa 3 (.t 10)),none⟩,([0,1,2,3,4,5,6,7,8,9],[216,217,218,219,220,221,222,223,224,225])),(⟨(some 227),(.ld false 1 (.t 226)),none⟩,([0,1,2,3,4,5,6,7,8,9],[216,217,218,219,220,221,222,223,224,225])),(⟨(some 228),(.bin .eql (.t 225) (.t 227)),none⟩,([],[]))]) (.kill [214,216,217,218,219,220,221,222,223,224,225,226,227] (.cond (.t 228) (.ops [⟨(some 229),(.fa 6 (.t 10)),none⟩,⟨(some 230),(.ld false 1 (.t 229)),none⟩,⟨(some 231),(.bin .add (.k (.c (.v (.int .i64 1)))) (.t 230)),none⟩,⟨(some 11),(.mv (.t 231)),none⟩]) .skip))) .skip)))))))))))))))))))
def ir25:IR:=(.seq (.ops [⟨(some 4),(.box 25 (.t 0)),none⟩,⟨(some 7),(.box 44 (.t 3)),none⟩,⟨(some 8),(.mv (.k (.c (.v (.bool false))))),none⟩]) (.kill [0,3,5,6,8,9,10,11] (.seq (.ops [⟨(some 13),(.fa 0 (.t 7)),none⟩,⟨(some 14),(.ld false 1 (.t 13)),none⟩,⟨(some 9),(.mv (.t 14)),none⟩]) (.kill [13,14] (.seq (.seq (.ops [⟨(some 15),(.mv (.t 9)),none⟩,⟨(some 16),(.bin .lss (.t 15) (.k (.c (.v (.int .i64 0))))),none⟩,⟨(some 17),(.mv (.t 16)),none⟩,⟨(some 18),(.mv (.t 9)),(some (17,false))⟩,⟨(some 19),(.fa 1 (.t 4)),(some (17,false))⟩,⟨(some 20),(.ld false 1 (.t 19)),(some (17,false))⟩,⟨(some 21),(.len (.t 20)),(some (17,false))⟩,⟨(some 22),(.bin .geq (.t 18) (.t 21)),(some (17,false))⟩,⟨(some 23),(.pick (.t 17) (.k (.c (.v (.bool true)))) (.t 22)),none⟩]) (.kill [15,16,17,18,19,20,21,22] (.cond (.t 23) (.seq (.ops [⟨(some 8),(.mv (.k (.c (.v (.bool false))))),none⟩]) (.kill [1,2,4,7,9,23] .ret)) .skip))) (.kill [8,23] (.seq (.seq (.ops [⟨(some 24),(.fa 1 (.t 7)),none⟩,⟨(some 25),(.ld false 1 (.t 24)),none⟩]) (.kill [24] (.cond (.t 25) (.seq (.ops [⟨(some 26),(.mv (.t 1)),none⟩,⟨(some 27),(.mv (.t 2)),none⟩,⟨(some 28),(.mv (.t 9)),none⟩,⟨(some 29),(.fa 2 (.t 7)),none⟩,⟨(some 30),(.ld false 1 (.t 29)),none⟩,⟨(some 31),(.call 47 [(.t 26),(.t 27),(.t 28),(.t 30)]),none⟩,⟨(some 8),(.mv (.t 31)),none⟩]) (.kill [1,2,4,7,9,25,26,27,28,29,30,31] .ret)) .skip))) (.kill [7,8,25] (.seq (.seq (.draw [(⟨(some 32),(.mv (.t 2)),none⟩,([],[36,39,40,41,42,43,44])),(⟨(some 33),(.nilck (.t 32)),none⟩,([],[36,39,40,41,42,43,44])),(⟨(some 34),(.fa 2 (.t 33)),none⟩,([],[36,39,40,41,42,43,44])),(⟨(some 35),(.ld false 1 (.t 34)),none⟩,([],[36,39,40,41,42,43,44])),(⟨(some 36),(.mv (.t 9)),none⟩,([0,1,2,3],[32,33,34,35,39,40,41,42,43,44])),(⟨(some 37),(.ia 1 (.t 35) (.t 36)),none⟩,([],[39,40,41,42,43,44])),(⟨(some 38),(.ld false 1 (.t 37)),none⟩,([],[39,40,41,42,43,44])),(⟨(some 39),(.fa 1 (.t 4)),none⟩,([0,1,2,3,4,5,6],[32,33,34,35,36,37,38,41])),(⟨(some 40),(.ld false 1 (.t 39)),none⟩,([0,1,2,3,4,5,6],[32,33,34,35,36,37,38,41])),(⟨(some 41),(.mv (.t 9)),none⟩,([0,1,2,3,4,5,6,7,8],[32,33,34,35,36,37,38,39,40])),(⟨(some 42),(.ia 1 (.t 40) (.t 41)),none⟩,([0,1,2,3,4,5,6],[32,33,34,35,36,37,38])),(⟨(some 43),(.ld false 1 (.t 42)),none⟩,([0,1,2,3,4,5,6],[32,33,34,35,36,37,38])),(⟨(some 44),(.len (.t 43)),none⟩,([0,1,2,3,4,5,6],[32,33,34,35,36,37,38])),(⟨(some 45),(.bin .eql (.t 38) (.t 44)),none⟩,([],[]))]) (.kill [32,33,34,35,36,37,38,39,40,41,42,43,44] (.cond (.t 45) (.seq (.ops [⟨(some 8),(.mv (.k (.c (.v (.bool false))))),none⟩]) (.kill [1,2,4,9,45] .ret)) .skip))) (.kill [8,45] (.seq (.draw [(⟨(some 46),(.fa 1 (.t 4)),none⟩,([],[48,51,52,53,54,55,56,57,10])),(⟨(some 47),(.ld false 1 (.t 46)),none⟩,([],[48,51,52,53,54,55,56,57,10])),(⟨(some 48),(.mv (.t 9)),none⟩,([0,1],[46,47,51,52,53,54,55,56,57,10])),(⟨(some 49),(.ia 1 (.t 47) (.t 48)),none⟩,([],[51,52,53,54,55,56,57,10])),(⟨(some 50),(.ld false 1 (.t 49)),none⟩,([],[51,52,53,54,55,56,57,10])),(⟨(some 51),(.mv (.t 2)),none⟩,([0,1,2,3,4],[46,47,48,49,50,55,10])),(⟨(some 52),(.nilck (.t 51)),none⟩,([0,1,2,3,4],[46,47,48,49,50,55,10])),(⟨(some 53),(.fa 2 (.t 52)),none⟩,([0,1,2,3,4],[46,47,48,49,50,55,10])),(⟨(some 54),(.ld false 1 (.t 53)),none⟩,([0,1,2,3,4],[46,47,48,49,50,55,10])),(⟨(some 55),(.mv (.t 9)),none⟩,([0,1,2,3,4,5,6,7,8],[46,47,48,49,50,51,52,53,54,10])),(⟨(some 56),(.ia 1 (.t 54) (.t 55)),none⟩,([0,1,2,3,4],[46,47,48,49,50,10])),(⟨(some 57),(.ld false 1 (.t 56)),none⟩,([0,1,2,3,4],[46,47,48,49,50,10])),(⟨(some 58),(.ia 7 (.t 50) (.t 57)),none⟩,([],[10])),(⟨(some 59),(.ld true 7 (.t 58)),none⟩,([],[10])),(⟨(some 10),(.new 83 [(.v (.int .i64 0)),(.v (.int .i64 0)),(.v (.int .i64 0)),(.v (.int .i64 0)),(.v (.int .i64 0)),(.v (.int .i64 0)),(.v (.int .i64 0))]),none⟩,([0,1,2,3,4,5,6,7,8,9,10,11,12,13],[46,47,48,49,50,51,52,53,54,55,56,57,58,59])),(⟨none,(.st 7 (.t 10) (.t 59)),none⟩,([],[]))]) (.kill [46,47,48,49,50,51,52,53,54,55,56,57,58,59] (.seq (.ops [⟨(some 11),(.mv (.k (.c (.v (.int .i64 1))))),none⟩]) (.seq (.seq (.ops [⟨(some 60),(.fa 0 (.t 10)),none⟩,⟨(some 61),(.ld false 1 (.t 60)),none⟩]) (.kill [60] (.blk 0 (.seq (.ops [⟨(some 63),(.bin .eql (.t 61) (.k (.c (.v (.int .i64 1))))),none⟩,⟨(some 62),(.mv (.t 63)),none⟩]) (.kill [63] ir25_62))))) (.kill [1,8,10,12,61,62,63,64,65,66,67,68,69,70,71,72,73,74,75,76,77,78,79,80,81,82,83,84,85,86,87,88,89,90,91,92,93,94,95,96,97,98,99,100,101,102,103,104,105,106,107,108,109,110,111,112,113,114,115,116,117,118,119,120,121,122,123,124,125,126,127,128,129,130,131,132,133,134,135,136,137,138,139,140,141,142,143,144,145,146,147,148,149,150,151,152,153,154,155,156,157,158,159,160,161,162,163,164,165,166,167,168,169,170,171,172,173,174,175,176,177,178,179,180,181,182,183,184,185,186,187,188,189,190,191,192,193,194,195,196,197,198,199,200,201,202,203,204,205,206,207,208,209,210,211,212,213,214,215,216,217,218,219,220,221,222,223,224,225,226,227,228,229,230,231] (.seq (.draw [(⟨(some 232),(.mv (.t 2)),none⟩,([],[236,237,238,239,240,241,242,243,244,245,246,247,248,249,250,251,252])),(⟨(some 233),(.nilck (.t 232)),none⟩,([],[236,237,238,239,240,241,242,243,244,245,246,247,248,249,250,251,252])),(⟨(some 234),(.fa 2 (.t 233)),none⟩,([],[236,237,238,239,240,241,242,243,244,245,246,247,248,249,250,251,252])),(⟨(some 235),(.ld false 1 (.t 234)),none⟩,([],[236,237,238,239,240,241,242,243,244,245,246,247,248,249,250,251,252])),(⟨(some 236),(.mv (.t 9)),none⟩,([0,1,2,3],[232,233,234,235,237,238,239,240,241,242,243,244,245,246,247,248,249,250,251,252])),(⟨(some 237),(.mv (.t 2)),none⟩,([0,1,2,3,4],[232,233,234,235,236,241,244,246,247,248,249,250,251])),(⟨(some 238),(.nilck (.t 237)),none⟩,([0,1,2,3,4],[232,233,234,235,236,241,244,246,247,248,249,250,251])),(⟨(some 239),(.fa 2 (.t 238)),none⟩,([0,1,2,3,4],[232,233,234,235,236,241,244,246,247,248,249,250,251])),(⟨(some 240),(.ld false 1 (.t 239)),none⟩,([0,1,2,3,4],[232,233,234,235,236,241,244,246,247,248,249,250,251])),(⟨(some 241),(.mv (.t 9)),none⟩,([0,1,2,3,4,5,6,7,8],[232,233,234,235,236,237,238,239,240,244,246,247,248,249,250,251])),(⟨(some 242),(.ia 1 (.t 240) (.t 241)),none⟩,([0,1,2,3,4],[232,233,234,235,236,244,246,247,248,249,250,251])),(⟨(some 243),(.ld false 1 (.t 242)),none⟩,([0,1,2,3,4],[232,233,234,235,236,244,246,247,248,249,250,251])),(⟨(some 244),(.mv (.t 11)),none⟩,([0,1,2,3,4,5,6,7,8,9,10,11],[232,233,234,235,236,237,238,239,240,241,242,243,246,247,248,249,250,251])),(⟨(some 245),(.bin .add (.t 243) (.t 244)),none⟩,([0,1,2,3,4],[232,233,234,235,236,246,247,248,249,250,251])),(⟨(some 246),(.fa 1 (.t 4)),none⟩,([0,1,2,3,4,5,6,7,8,9,10,11,12,13],[232,233,234,235,236,237,238,239,240,241,242,243,244,245,248])),(⟨(some 247),(.ld false 1 (.t 246)),none⟩,([0,1,2,3,4,5,6,7,8,9,10,11,12,13],[232,233,234,235,236,237,238,239,240,241,242,243,244,245,248])),(⟨(some 248),(.mv (.t 9)),none⟩,([0,1,2,3,4,5,6,7,8,9,10,11,12,13,14,15],[232,233,234,235,236,237,238,239,240,241,242,243,244,245,246,247])),(⟨(some 249),(.ia 1 (.t 247) (.t 248)),none⟩,([0,1,2,3,4,5,6,7,8,9,10,11,12,13],[232,233,234,235,236,237,238,239,240,241,242,243,244,245])),(⟨(some 250),(.ld false 1 (.t 249)),none⟩,([0,1,2,3,4,5,6,7,8,9,10,11,12,13],[232,233,234,235,236,237,238,239,240,241,242,243,244,245])),(⟨(some 251),(.len (.t 250)),none⟩,([0,1,2,3,4,5,6,7,8,9,10,11,12,13],[232,233,234,235,236,237,238,239,240,241,242,243,244,245])),(⟨(some 252),(.mm false (.t 245) (.t 251)),none⟩,([0,1,2,3,4],[232,233,234,235,236])),(⟨(some 253),(.ia 1 (.t 235) (.t 236)),none⟩,([],[])),(⟨none,(.st 1 (.t 253) (.t 252)),none⟩,([],[]))]) (.kill [2,4,9,11,232,233,234,235,236,237,238,239,240,241,242,243,244,245,246,247,248,249,250,251,252,253] (.seq (.ops [⟨(some 8),(.mv (.k (.c (.v (.bool true))))),none⟩]) .ret))))))))))))))))))
def rs25:List RS:=[(.t 8)]
def nt25:Nat:=254
end Go.Proofs.Ytmcpdafmkkjlcaa.Z
