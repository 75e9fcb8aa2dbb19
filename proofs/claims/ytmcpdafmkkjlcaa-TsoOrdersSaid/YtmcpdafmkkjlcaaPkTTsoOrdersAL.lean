/- TsoOrdersSaid: what its proof is made of. No condition. -/
import Derived.Test.YtmcpdafmkkjlcaaPkTTsoOrdersAK
set_option linter.unusedSimpArgs false
set_option linter.unusedVariables false
namespace Go.Proofs.Ytmcpdafmkkjlcaa.Z
open Go Go.RowKit
set_option maxRecDepth 100000 in
set_option maxHeartbeats 8000000 in
theorem iturn_zero (w:World) (E:Env) (L:Lt) (o:Int) (s:LS) (t:Tn) (N:Nat) (hL:checkB L=true) (hwf:WfS L o N s) (hN:N≤100000) (hz:t.thr=0) (h:Handed w E 11 (stP s) (ltA 0 L)) :
  Calls Try.prog 40 (([.agg (ltS 0),.c (.v (.int .i64 o)),.c (.ptr (5,0,0) 0),.agg (t.enc.map .v)]:List SV).map (SV.den E)).toArray w (EffR w E 11 (takesO E (stP s)) (.c (.bo (turnS L o s t).2)) 1 fun b=>killO [10]++stE b (turnS L o s t).1):=by
 refine enterO (c:=ir40) (rs:=rs40) (nt:=nt40) h _ Try.func40 rfl (by kernel_rfl) (by kernel_rfl) rfl (by simp [okVs,SV.okN,SC.okN,SC.okL,okL_v,ltS]) (of_decide_eq_true rfl) ?_
 generalize hR:EffR w E 11 (takesO E (stP s)) (.c (.bo (turnS L o s t).2)) 1 (fun b=>killO [10]++stE b (turnS L o s t).1)=R
 generalize hW:takesO E (stP s)=W
 obtain ⟨z1,z2,z3,z4⟩:=sz_at hL
 obtain ⟨lw,lr,lp,lb,hthr⟩:=hwf
 obtain ⟨thr,out,addr⟩:=t
 have hno:∀ {S2:St},turnS L o s ⟨thr,out,addr⟩=(s,false)→AgF 11 E∈S2.facts→look S2.own 5=some (.one (.bk (stC 6 s) 32))→look S2.own 6=some (.one (.ar s.words.length 1 (ats eI s.words 0) 3))→look S2.own 7=some (.one (.ar s.regs.length 4 (ats R4.enc s.regs r40) 68)) →
   look S2.own 8=some (.one (.ar s.places.length 1 (ats eI s.places 0) 3))→look S2.own 9=some (.one (.ar s.bufs.length 1 (bfC 10 s) 86))→look S2.own 10=some (.fam s.bufs.length (bfO s))→RetVC (mkO Try.prog w W rs40 R) (.c (.v (.bool false))) S2:=fun e h1 h5 h6 h7 h8 h9 h10=>by
  rw [← hR,← hW,e]
  exact retTurn0 h1 (fun E E'=>by simp [SV.den,SC.den]) h5 h6 h7 h8 h9 h10
 by_cases hk:0≤thr∧thr<L.thr.length
 ·obtain ⟨k,rfl⟩:∃ k:Nat,thr=k:=⟨thr.toNat,by omega⟩
  have hk:k<L.thr.length:=by omega
  have hk0:k=0:=by simpa using hz
  have hwi:∀ w',Calls Try.prog 72 #[.int .i64 k,.int .i64 (L.thr.length:Nat)] w' (RetV w' (.bool true)):=fun w'=>by
   have:=withinL w' k L.thr.length
   rw [decide_eq_true (by omega)] at this
   exact this
  obtain ⟨p0,p1,pb,psc,ppend⟩:=hthr k hk
  cases out with
  | true =>
   simp (maxSteps:=2000000) only [ir40,nt40,rs40,go_sem,↓reduceIte,Nat.reduceLT,Nat.reduceLeDiff,Nat.reduceAdd,Nat.reduceSub,Nat.reduceMul,Nat.reduceEqDiff,reduceCtorEq,Int.reduceToNat,Int.reduceEq,Int.reduceBEq,Int.reduceBNe,Int.reduceLT,Int.reduceLE,Int.reduceNeg,Int.reduceAdd,Int.reduceSub,Int.reduceMul,Int.reduceGE,Int.reduceGT,endO,ltA,ltS,Tn.enc,stP,stO,stC,bfC]
   refine callV (.c (.v (.bool true))) _ (fun E=>rfl) (fun E a w' _=>hwi w') ?_
   simp (maxSteps:=2000000) only [go_sem,↓reduceIte,Nat.reduceLT,Nat.reduceLeDiff,Nat.reduceAdd,Nat.reduceSub,Nat.reduceMul,Nat.reduceEqDiff,reduceCtorEq,Int.reduceToNat,Int.reduceEq,Int.reduceBEq,Int.reduceBNe,Int.reduceLT,Int.reduceLE,Int.reduceNeg,Int.reduceAdd,Int.reduceSub,Int.reduceMul,Int.reduceGE,Int.reduceGT,endO]
   have ht:turnS L o s ⟨k,true,addr⟩=outS o s k addr:=by
    unfold turnS
    rw [if_pos (by simp only;omega),if_pos rfl]
    simp only [Int.toNat_natCast]
   rw [ht] at hR
   refine call_intro (cr_own 11 (stP s) [] (show 11≤13 by decide) (stP_plain s) (stP_le (fun i h=>h) (fun _ _=>rfl) rfl rfl rfl rfl rfl rfl) trivial stE_key (fun E w h=>iout_own w E o s k true addr (by omega) psc (fun p hp=>by rw [lw];exact ppend p hp) (by omega) h)) (lt11 (show 11≤13 by decide)) ?_
   simp (maxSteps:=2000000) only [go_sem,↓reduceIte,Nat.reduceLT,Nat.reduceLeDiff,Nat.reduceAdd,Nat.reduceSub,Nat.reduceMul,Nat.reduceEqDiff,reduceCtorEq,Int.reduceToNat,Int.reduceEq,Int.reduceBEq,Int.reduceBNe,Int.reduceLT,Int.reduceLE,Int.reduceNeg,Int.reduceAdd,Int.reduceSub,Int.reduceMul,Int.reduceGE,Int.reduceGT,endO,killO,stE]
   rw [← hR,← hW]
   exact retTurnN 13 (by decide) List.mem_cons_self (fun E E'=>by simp [SV.den,SC.den]) rfl rfl rfl rfl rfl rfl
  | false =>
   simp (maxSteps:=2000000) only [ir40,nt40,rs40,go_sem,↓reduceIte,Nat.reduceLT,Nat.reduceLeDiff,Nat.reduceAdd,Nat.reduceSub,Nat.reduceMul,Nat.reduceEqDiff,reduceCtorEq,Int.reduceToNat,Int.reduceEq,Int.reduceBEq,Int.reduceBNe,Int.reduceLT,Int.reduceLE,Int.reduceNeg,Int.reduceAdd,Int.reduceSub,Int.reduceMul,Int.reduceGE,Int.reduceGT,endO,ltA,ltS,Tn.enc,stP,stO,stC,bfC]
   refine callV (.c (.v (.bool true))) _ (fun E=>rfl) (fun E a w' _=>hwi w') ?_
   simp (maxSteps:=2000000) only [go_sem,↓reduceIte,Nat.reduceLT,Nat.reduceLeDiff,Nat.reduceAdd,Nat.reduceSub,Nat.reduceMul,Nat.reduceEqDiff,reduceCtorEq,Int.reduceToNat,Int.reduceEq,Int.reduceBEq,Int.reduceBNe,Int.reduceLT,Int.reduceLE,Int.reduceNeg,Int.reduceAdd,Int.reduceSub,Int.reduceMul,Int.reduceGE,Int.reduceGT,endO]
   have hk1:k<s.places.length:=by omega
   have hkr:k<s.regs.length:=by omega
   have hkb:k<s.bufs.length:=by omega
   repeat (with_reducible refine And.intro (by first | omega | (simp only [maxLen];omega) | exact Or.inl trivial | exact Or.inr trivial | exact ⟨Or.inl trivial,Or.inr trivial⟩ | exact trivial) ?_)
   refine draw_vc (by kernel_rfl) (mkTab_ok _ _) (of_decide_eq_true rfl) (of_decide_eq_true rfl) ?_
   repeat (first | simp (maxSteps:=2000000) only [go_sem,↓reduceIte,Nat.reduceLT,Nat.reduceLeDiff,Nat.reduceAdd,Nat.reduceSub,Nat.reduceMul,Nat.reduceEqDiff,reduceCtorEq,Int.reduceToNat,Int.reduceEq,Int.reduceBEq,Int.reduceBNe,Int.reduceLT,Int.reduceLE,Int.reduceNeg,Int.reduceAdd,Int.reduceSub,Int.reduceMul,Int.reduceGE,Int.reduceGT,endO] | rw [dr_cons])
   repeat (with_reducible refine And.intro (by first | omega | (simp only [maxLen];omega) | exact Or.inl trivial | exact Or.inr trivial | exact ⟨Or.inl trivial,Or.inr trivial⟩ | exact trivial) ?_)
   by_cases he:s.places.getD k 0≥(L.thr.getD k []).length
   ·have dhe:decide (s.places.getD k 0≥((L.thr.getD k []).length:Int))=true:=decide_eq_true he
    simp (maxSteps:=2000000) only [go_sem,↓reduceIte,Nat.reduceLT,Nat.reduceLeDiff,Nat.reduceAdd,Nat.reduceSub,Nat.reduceMul,Nat.reduceEqDiff,reduceCtorEq,Int.reduceToNat,Int.reduceEq,Int.reduceBEq,Int.reduceBNe,Int.reduceLT,Int.reduceLE,Int.reduceNeg,Int.reduceAdd,Int.reduceSub,Int.reduceMul,Int.reduceGE,Int.reduceGT,endO,ir40_44,dhe]
    exact hno (by unfold turnS;rw [if_pos (by simp only;omega),if_neg (by simp),if_pos (by simp only [Int.toNat_natCast];omega)]) List.mem_cons_self rfl rfl rfl rfl rfl rfl
   have dhe:decide (s.places.getD k 0≥((L.thr.getD k []).length:Int))=false:=decide_eq_false he
   have hpl:(s.places.getD k 0).toNat<(L.thr.getD k []).length:=by omega
   have hfit:=(fits_at hL hk).2 _ (getD_memE (d:=in0) hpl)
   have hst:turnS L o s ⟨k,false,addr⟩=match stepS o s k ((L.thr.getD k []).getD (s.places.getD k 0).toNat in0) with
    | none=>(s,false)
    | some (s',f)=>({ s' with places:=s'.places.set k (if ((L.thr.getD k []).length:Int)<s'.places.getD k 0+f then ((L.thr.getD k []).length:Int) else s'.places.getD k 0+f) },true):=by
    unfold turnS
    rw [if_pos (by simp only;omega),if_neg (by simp),if_neg (by simp only [Int.toNat_natCast];omega)]
    simp only [Int.toNat_natCast]
    cases stepS o s k ((L.thr.getD k []).getD (s.places.getD k 0).toNat in0) with
    | none=>rfl
    | some q=>obtain ⟨s',f⟩:=q;rfl
   have hle10:=(fits_at hL hk).1
   generalize hci:(L.thr.getD k []).getD (s.places.getD k 0).toNat in0=ci at hst hfit
   obtain ⟨kind,reg,ad,val,frm,old,cnt⟩:=ci
   simp only [fitsB,decide_eq_true_eq] at hfit
   obtain ⟨f1,f2,f3,f4,f5,f6⟩:=hfit
   have hwp:IntKind.i64.wrap (s.places.getD k 0+1)=s.places.getD k 0+1:=wrI (by omega)
   subst hk0
   by_cases k1:kind=1
   ·subst k1
    have hg:0≤reg∧reg<4:=f3 (by decide) (by decide)
    have hnr:=nth_r4 (xs:=s.regs) (k:=0) hg
    have had:0≤ad∧ad<s.words.length:=by rw [lw];exact f4 (by decide)
    have hadn:ad.toNat<s.words.length:=by omega
    simp (maxSteps:=2000000) only [go_sem,↓reduceIte,Nat.reduceLT,Nat.reduceLeDiff,Nat.reduceAdd,Nat.reduceSub,Nat.reduceMul,Nat.reduceEqDiff,reduceCtorEq,Int.reduceToNat,Int.reduceEq,Int.reduceBEq,Int.reduceBNe,Int.reduceLT,Int.reduceLE,Int.reduceNeg,Int.reduceAdd,Int.reduceSub,Int.reduceMul,Int.reduceGE,Int.reduceGT,endO,ir40_44,dhe,Ins.enc,hci]
    refine And.intro (by omega) (And.intro (by omega) (And.intro ⟨_,Try.func74,by kernel_rfl,by kernel_rfl⟩ ?_))
    refine call_inline (c:=ir74) (rs:=rs74) (nt:=nt74) 1000 (mkTab_ok _ _) Try.func74 rfl (by kernel_rfl) (by kernel_rfl) rfl (by simp [okVs,SV.okN,SC.okL,SC.okN]) (of_decide_eq_true rfl) (fun E0 a0 ht0=>?_)
    simp (maxSteps:=2000000) only [ir74,nt74,rs74,go_sem,↓reduceIte,Nat.reduceLT,Nat.reduceLeDiff,Nat.reduceAdd,Nat.reduceSub,Nat.reduceMul,Nat.reduceEqDiff,reduceCtorEq,Int.reduceToNat,Int.reduceEq,Int.reduceBEq,Int.reduceBNe,Int.reduceLT,Int.reduceLE,Int.reduceNeg,Int.reduceAdd,Int.reduceSub,Int.reduceMul,Int.reduceGE,Int.reduceGT,endO,mkI_rs]
    refine draw_vc (by kernel_rfl) (mkTab_ok _ _) (of_decide_eq_true rfl) (of_decide_eq_true rfl) ?_
    repeat (first | simp (maxSteps:=2000000) only [go_sem,↓reduceIte,Nat.reduceLT,Nat.reduceLeDiff,Nat.reduceAdd,Nat.reduceSub,Nat.reduceMul,Nat.reduceEqDiff,reduceCtorEq,Int.reduceToNat,Int.reduceEq,Int.reduceBEq,Int.reduceBNe,Int.reduceLT,Int.reduceLE,Int.reduceNeg,Int.reduceAdd,Int.reduceSub,Int.reduceMul,Int.reduceGE,Int.reduceGT,endO] | rw [dr_cons])
    refine dcall_intro (reg_cr (regs:=s.regs) rfl rfl hkr hg rfl rfl rfl (fun _ _=>rfl) ⟨rfl,rfl,rfl,rfl,rfl,rfl,fun _=>rfl⟩ fun _=>⟨rfl,rfl,rfl⟩) rfl trivial trivial (fun _ hk=>by cases hk) ?_
    repeat (first | simp (maxSteps:=2000000) only [go_sem,↓reduceIte,Nat.reduceLT,Nat.reduceLeDiff,Nat.reduceAdd,Nat.reduceSub,Nat.reduceMul,Nat.reduceEqDiff,reduceCtorEq,Int.reduceToNat,Int.reduceEq,Int.reduceBEq,Int.reduceBNe,Int.reduceLT,Int.reduceLE,Int.reduceNeg,Int.reduceAdd,Int.reduceSub,Int.reduceMul,Int.reduceGE,Int.reduceGT,endO] | rw [dr_cons])
    repeat (with_reducible refine And.intro (by first | omega | (simp only [maxLen];omega) | exact Or.inl trivial | exact Or.inr trivial | exact ⟨Or.inl trivial,Or.inr trivial⟩ | exact trivial) ?_)
    rw [put_r4 hkr hg]
    refine draw_vc (by kernel_rfl) (mkTab_ok _ _) (of_decide_eq_true rfl) (of_decide_eq_true rfl) ?_
    repeat (first | simp (maxSteps:=2000000) only [go_sem,↓reduceIte,Nat.reduceLT,Nat.reduceLeDiff,Nat.reduceAdd,Nat.reduceSub,Nat.reduceMul,Nat.reduceEqDiff,reduceCtorEq,Int.reduceToNat,Int.reduceEq,Int.reduceBEq,Int.reduceBNe,Int.reduceLT,Int.reduceLE,Int.reduceNeg,Int.reduceAdd,Int.reduceSub,Int.reduceMul,Int.reduceGE,Int.reduceGT,endO,bfC,bfO] | rw [dr_cons])
    repeat (with_reducible refine And.intro (by first | omega | (simp only [maxLen];omega) | exact Or.inl trivial | exact Or.inr trivial | exact ⟨Or.inl trivial,Or.inr trivial⟩ | exact trivial) ?_)
    refine loopI (ι:={ i:Nat // i≤(s.bufs.getD 0 []).length }) (fun i=>⟨54,[(0,.c (.ptr (14,0,0) 0)),(34,.c (.sl (10,0,0) 2 0 (s.bufs.getD 0 []).length none)),(35,.c (.v (.int .i64 (s.bufs.getD 0 []).length))),(36,.c (.v (.int .i64 (i.1:Nat))))],stP (⟨s.words,s.regs.set 0 ((s.regs.getD 0 r40).put reg (seeL (s.words.getD ad.toNat 0) ad ((s.bufs.getD 0 []).take i.1))),s.places,s.bufs⟩:LS)++[(12,.one (.bk [.v (.int .i64 0),.v (.bool false),.v (.int .i64 addr)] 44)),(14,.one (.bk [.ptr (5,0,0) 0,.v (.int .i64 1),.v (.int .i64 reg),.v (.int .i64 ad),.v (.int .i64 val),.v (.int .i64 frm),.v (.int .i64 old),.v (.int .i64 cnt),.v (.int .i64 0),.bo (o != 1)] 127))],ltA 0 L,[AgF 16 E0,AgF 11 E],16⟩)
     (fun i=>(s.bufs.getD 0 []).length - i.1) ⟨0,by omega⟩ ?_ ?_
    ·exact le_renF id rfl ⟨factA List.mem_cons_self (Nat.le_refl _) (fun _ _=>rfl),factA (List.mem_cons_of_mem _ List.mem_cons_self) (show 11≤16 by decide) (fun _ _=>rfl),trivial⟩ (by simp [TmpsLe,look,SV.ren,SC.ren,idσ,SV.okN,SC.okN]) (ownLe_app (stP_le (fun i h=>Nat.lt_of_lt_of_le h (show 11≤16 by decide)) (fun _ _=>rfl) (by simp [look,stC]) rfl (by simp [look,seeL]) rfl rfl rfl) (by simp [OwnLe,BlkLeO,BlkLe,atN,look,Fm.get,idσ,SC.renL,SC.ren,SC.okL,SC.okN])) (by simp +contextual [ltA,ArrsLe,ArrLeO,atN,look,Fm.get,idσ,arrLe_of,arrLe_0,arrLe_nest]) (of_decide_eq_true rfl)
    rintro ⟨i,hi⟩
    simp (maxSteps:=2000000) only [go_sem,↓reduceIte,Nat.reduceLT,Nat.reduceLeDiff,Nat.reduceAdd,Nat.reduceSub,Nat.reduceMul,Nat.reduceEqDiff,reduceCtorEq,Int.reduceToNat,Int.reduceEq,Int.reduceBEq,Int.reduceBNe,Int.reduceLT,Int.reduceLE,Int.reduceNeg,Int.reduceAdd,Int.reduceSub,Int.reduceMul,Int.reduceGE,Int.reduceGT,endO,mkI_rs,stP,stO,stC,ltA,bfC,bfO,Pd.enc,ats_pd]
    refine both (fun hlt=>?_) (fun hge=>?_)
    ·rw [decide_eq_true_eq] at hlt
     have hlt:i<(s.bufs.getD 0 []).length:=by omega
     have hstk:=take_pd hlt
     have hkr2:0<(s.regs.set 0 ((s.regs.getD 0 r40).put reg (seeL (s.words.getD ad.toNat 0) ad ((s.bufs.getD 0 []).take i)))).length:=by simpa using hkr
     repeat (with_reducible refine And.intro (by first | omega | (simp only [maxLen];omega) | exact Or.inl trivial | exact Or.inr trivial | exact ⟨Or.inl trivial,Or.inr trivial⟩ | exact trivial) ?_)
     refine draw_vc (by kernel_rfl) (mkTab_ok _ _) (of_decide_eq_true rfl) (of_decide_eq_true rfl) ?_
     repeat (first | simp (maxSteps:=2000000) only [go_sem,↓reduceIte,Nat.reduceLT,Nat.reduceLeDiff,Nat.reduceAdd,Nat.reduceSub,Nat.reduceMul,Nat.reduceEqDiff,reduceCtorEq,Int.reduceToNat,Int.reduceEq,Int.reduceBEq,Int.reduceBNe,Int.reduceLT,Int.reduceLE,Int.reduceNeg,Int.reduceAdd,Int.reduceSub,Int.reduceMul,Int.reduceGE,Int.reduceGT,endO] | rw [dr_cons])
     refine both (fun hq=>?_) (fun hq=>?_)
     ·have hq:((s.bufs.getD 0 []).getD i pd0).addr=ad:=by simpa using hq
      have hse:seeL (s.words.getD ad.toNat 0) ad ((s.bufs.getD 0 []).take (i+1))=((s.bufs.getD 0 []).getD i pd0).val:=by rw [hstk,seeL_app];simp only [seeL,if_pos hq]
      refine draw_vc (by kernel_rfl) (mkTab_ok _ _) (of_decide_eq_true rfl) (of_decide_eq_true rfl) ?_
      repeat (first | simp (maxSteps:=2000000) only [go_sem,↓reduceIte,Nat.reduceLT,Nat.reduceLeDiff,Nat.reduceAdd,Nat.reduceSub,Nat.reduceMul,Nat.reduceEqDiff,reduceCtorEq,Int.reduceToNat,Int.reduceEq,Int.reduceBEq,Int.reduceBNe,Int.reduceLT,Int.reduceLE,Int.reduceNeg,Int.reduceAdd,Int.reduceSub,Int.reduceMul,Int.reduceGE,Int.reduceGT,endO] | rw [dr_cons])
      refine dcall_intro (reg_cr (regs:=(s.regs.set 0 ((s.regs.getD 0 r40).put reg (seeL (s.words.getD ad.toNat 0) ad ((s.bufs.getD 0 []).take i))))) rfl rfl hkr2 hg rfl rfl rfl (fun _ _=>rfl) ⟨rfl,rfl,rfl,rfl,rfl,rfl,fun _=>rfl⟩ fun _=>⟨rfl,rfl,rfl⟩) rfl trivial trivial (fun _ hk=>by cases hk) ?_
      repeat (first | simp (maxSteps:=2000000) only [go_sem,↓reduceIte,Nat.reduceLT,Nat.reduceLeDiff,Nat.reduceAdd,Nat.reduceSub,Nat.reduceMul,Nat.reduceEqDiff,reduceCtorEq,Int.reduceToNat,Int.reduceEq,Int.reduceBEq,Int.reduceBNe,Int.reduceLT,Int.reduceLE,Int.reduceNeg,Int.reduceAdd,Int.reduceSub,Int.reduceMul,Int.reduceGE,Int.reduceGT,endO] | rw [dr_cons])
      repeat (with_reducible refine And.intro (by first | omega | (simp only [maxLen];omega) | exact Or.inl trivial | exact Or.inr trivial | exact ⟨Or.inl trivial,Or.inr trivial⟩ | exact trivial) ?_)
      rw [put_r4 hkr2 hg,put_twice hkr hg,wr_succ (by omega)]
      exact backI ⟨i+1,hlt⟩ (by simp only;omega) (le_renF id rfl ⟨factA List.mem_cons_self (Nat.le_refl _) (fun _ _=>rfl),factA (List.mem_cons_of_mem _ List.mem_cons_self) (show 11≤16 by decide) (fun _ _=>rfl),trivial⟩ (by simp [TmpsLe,look,SV.ren,SC.ren,idσ,SV.okN,SC.okN]) (show OwnLe (· < 16) (idσ id) _ (stP (⟨s.words,s.regs.set 0 ((s.regs.getD 0 r40).put reg (seeL (s.words.getD ad.toNat 0) ad ((s.bufs.getD 0 []).take (i+1)))),s.places,s.bufs⟩:LS)++[(12,.one (.bk [.v (.int .i64 0),.v (.bool false),.v (.int .i64 addr)] 44)),(14,.one (.bk [.ptr (5,0,0) 0,.v (.int .i64 1),.v (.int .i64 reg),.v (.int .i64 ad),.v (.int .i64 val),.v (.int .i64 frm),.v (.int .i64 old),.v (.int .i64 cnt),.v (.int .i64 0),.bo (o != 1)] 127))]) from ownLe_app (stP_le (fun i h=>Nat.lt_of_lt_of_le h (show 11≤16 by decide)) (fun _ _=>rfl) (by simp [look,stC]) rfl (by simp only [look,List.length_set,hse,Nat.reduceEqDiff,reduceIte];try rfl) rfl rfl rfl) (by simp [OwnLe,BlkLeO,BlkLe,atN,look,Fm.get,idσ,SC.renL,SC.ren,SC.okL,SC.okN])) (by simp +contextual [ltA,ArrsLe,ArrLeO,atN,look,Fm.get,idσ,arrLe_of,arrLe_0,arrLe_nest]) (of_decide_eq_true rfl))
     ·have hq:¬ ((s.bufs.getD 0 []).getD i pd0).addr=ad:=by simpa using hq
      have hse:seeL (s.words.getD ad.toNat 0) ad ((s.bufs.getD 0 []).take (i+1))=seeL (s.words.getD ad.toNat 0) ad ((s.bufs.getD 0 []).take i):=by rw [hstk,seeL_app];simp only [seeL,if_neg hq]
      rw [wr_succ (by omega)]
      exact backI ⟨i+1,hlt⟩ (by simp only;omega) (le_renF id rfl ⟨factA List.mem_cons_self (Nat.le_refl _) (fun _ _=>rfl),factA (List.mem_cons_of_mem _ List.mem_cons_self) (show 11≤16 by decide) (fun _ _=>rfl),trivial⟩ (by simp [TmpsLe,look,SV.ren,SC.ren,idσ,SV.okN,SC.okN]) (show OwnLe (· < 16) (idσ id) _ (stP (⟨s.words,s.regs.set 0 ((s.regs.getD 0 r40).put reg (seeL (s.words.getD ad.toNat 0) ad ((s.bufs.getD 0 []).take (i+1)))),s.places,s.bufs⟩:LS)++[(12,.one (.bk [.v (.int .i64 0),.v (.bool false),.v (.int .i64 addr)] 44)),(14,.one (.bk [.ptr (5,0,0) 0,.v (.int .i64 1),.v (.int .i64 reg),.v (.int .i64 ad),.v (.int .i64 val),.v (.int .i64 frm),.v (.int .i64 old),.v (.int .i64 cnt),.v (.int .i64 0),.bo (o != 1)] 127))]) from ownLe_app (stP_le (fun i h=>Nat.lt_of_lt_of_le h (show 11≤16 by decide)) (fun _ _=>rfl) (by simp [look,stC]) rfl (by simp only [look,List.length_set,hse,Nat.reduceEqDiff,reduceIte];try rfl) rfl rfl rfl) (by simp [OwnLe,BlkLeO,BlkLe,atN,look,Fm.get,idσ,SC.renL,SC.ren,SC.okL,SC.okN])) (by simp +contextual [ltA,ArrsLe,ArrLeO,atN,look,Fm.get,idσ,arrLe_of,arrLe_0,arrLe_nest]) (of_decide_eq_true rfl))
    ·rw [decide_eq_false_iff_not] at hge
     have hin:i=(s.bufs.getD 0 []).length:=by omega
     subst hin
     rw [List.take_length]
     simp only [List.length_set]
     refine retI ht0 _ rfl (of_decide_eq_true rfl) (by simp [SV.okN,SC.okL,SC.okN,ok1L]) ?_
     simp (maxSteps:=2000000) only [go_sem,↓reduceIte,Nat.reduceLT,Nat.reduceLeDiff,Nat.reduceAdd,Nat.reduceSub,Nat.reduceMul,Nat.reduceEqDiff,reduceCtorEq,Int.reduceToNat,Int.reduceEq,Int.reduceBEq,Int.reduceBNe,Int.reduceLT,Int.reduceLE,Int.reduceNeg,Int.reduceAdd,Int.reduceSub,Int.reduceMul,Int.reduceGE,Int.reduceGT,endO]
     refine draw_vc (by kernel_rfl) (mkTab_ok _ _) (of_decide_eq_true rfl) (of_decide_eq_true rfl) ?_
     repeat (first | simp (maxSteps:=2000000) only [go_sem,↓reduceIte,Nat.reduceLT,Nat.reduceLeDiff,Nat.reduceAdd,Nat.reduceSub,Nat.reduceMul,Nat.reduceEqDiff,reduceCtorEq,Int.reduceToNat,Int.reduceEq,Int.reduceBEq,Int.reduceBNe,Int.reduceLT,Int.reduceLE,Int.reduceNeg,Int.reduceAdd,Int.reduceSub,Int.reduceMul,Int.reduceGE,Int.reduceGT,endO,hwp] | rw [dr_cons])
     repeat (with_reducible refine And.intro (by first | omega | (simp only [maxLen];omega) | exact Or.inl trivial | exact Or.inr trivial | exact ⟨Or.inl trivial,Or.inr trivial⟩ | exact trivial) ?_)
     have hsx:stepS o s 0 ⟨1,reg,ad,val,frm,old,cnt⟩=some (⟨s.words,s.regs.set 0 ((s.regs.getD 0 r40).put reg (seeS s 0 ad)),s.places,s.bufs⟩,1):=by simp [stepS]
     rw [← hR,← hW,hst,hsx]
     exact retTurnP (s:=⟨s.words,s.regs.set 0 ((s.regs.getD 0 r40).put reg (seeS s 0 ad)),_,s.bufs⟩) (s0:=s) List.mem_cons_self (fun E E'=>by simp [SV.den,SC.den]) rfl (by simp) (by simp) rfl rfl rfl rfl rfl rfl rfl (set_atsT (enc:=eI) hk1) rfl rfl
   by_cases k2:kind=2
   ·subst k2
    have had:0≤ad∧ad<s.words.length:=by rw [lw];exact f4 (by decide)
    have hadn:ad.toNat<s.words.length:=by omega
    have hfm:=f5 rfl
    by_cases hfr:frm≥0
    ·have dfr:decide (frm≥0)=true:=decide_eq_true hfr
     have hnf:=nth_r4 (xs:=s.regs) (k:=0) (r:=frm) ⟨hfr,hfm.2⟩
     by_cases ho:o=1
     ·have do1:(o != 1)=false:=by simp [ho]
      simp (maxSteps:=2000000) only [go_sem,↓reduceIte,Nat.reduceLT,Nat.reduceLeDiff,Nat.reduceAdd,Nat.reduceSub,Nat.reduceMul,Nat.reduceEqDiff,reduceCtorEq,Int.reduceToNat,Int.reduceEq,Int.reduceBEq,Int.reduceBNe,Int.reduceLT,Int.reduceLE,Int.reduceNeg,Int.reduceAdd,Int.reduceSub,Int.reduceMul,Int.reduceGE,Int.reduceGT,endO,ir40_44,dhe,Ins.enc,hci,do1]
      refine And.intro (by omega) (And.intro (by omega) (And.intro ⟨_,Try.func75,by kernel_rfl,by kernel_rfl⟩ ?_))
      refine call_inline (c:=ir75) (rs:=rs75) (nt:=nt75) 1000 (mkTab_ok _ _) Try.func75 rfl (by kernel_rfl) (by kernel_rfl) rfl (by simp [okVs,SV.okN,SC.okL,SC.okN]) (of_decide_eq_true rfl) (fun E0 a0 ht0=>?_)
      simp (maxSteps:=2000000) only [ir75,nt75,rs75,go_sem,↓reduceIte,Nat.reduceLT,Nat.reduceLeDiff,Nat.reduceAdd,Nat.reduceSub,Nat.reduceMul,Nat.reduceEqDiff,reduceCtorEq,Int.reduceToNat,Int.reduceEq,Int.reduceBEq,Int.reduceBNe,Int.reduceLT,Int.reduceLE,Int.reduceNeg,Int.reduceAdd,Int.reduceSub,Int.reduceMul,Int.reduceGE,Int.reduceGT,endO,mkI_rs,dfr,do1]
      refine draw_vc (by kernel_rfl) (mkTab_ok _ _) (of_decide_eq_true rfl) (of_decide_eq_true rfl) ?_
      repeat (first | simp (maxSteps:=2000000) only [go_sem,↓reduceIte,Nat.reduceLT,Nat.reduceLeDiff,Nat.reduceAdd,Nat.reduceSub,Nat.reduceMul,Nat.reduceEqDiff,reduceCtorEq,Int.reduceToNat,Int.reduceEq,Int.reduceBEq,Int.reduceBNe,Int.reduceLT,Int.reduceLE,Int.reduceNeg,Int.reduceAdd,Int.reduceSub,Int.reduceMul,Int.reduceGE,Int.reduceGT,endO,hnf,Nat.mul_one,dfr,do1] | rw [dr_cons])
      repeat (with_reducible refine And.intro (by first | omega | (simp only [maxLen];omega) | exact Or.inl trivial | exact Or.inr trivial | exact ⟨Or.inl trivial,Or.inr trivial⟩ | exact trivial) ?_)
      refine draw_vc (by kernel_rfl) (mkTab_ok _ _) (of_decide_eq_true rfl) (of_decide_eq_true rfl) ?_
      repeat (first | simp (maxSteps:=2000000) only [go_sem,↓reduceIte,Nat.reduceLT,Nat.reduceLeDiff,Nat.reduceAdd,Nat.reduceSub,Nat.reduceMul,Nat.reduceEqDiff,reduceCtorEq,Int.reduceToNat,Int.reduceEq,Int.reduceBEq,Int.reduceBNe,Int.reduceLT,Int.reduceLE,Int.reduceNeg,Int.reduceAdd,Int.reduceSub,Int.reduceMul,Int.reduceGE,Int.reduceGT,endO,dfr,do1,bfC,bfO,Pd.enc] | rw [dr_cons])
      repeat (with_reducible refine And.intro (by first | omega | (simp only [maxLen];omega) | exact Or.inl trivial | exact Or.inr trivial | exact ⟨Or.inl trivial,Or.inr trivial⟩ | exact trivial) ?_)
      refine retI ht0 _ rfl (of_decide_eq_true rfl) (by simp [SV.okN,SC.okL,SC.okN,ok1L]) ?_
      simp (maxSteps:=2000000) only [go_sem,↓reduceIte,Nat.reduceLT,Nat.reduceLeDiff,Nat.reduceAdd,Nat.reduceSub,Nat.reduceMul,Nat.reduceEqDiff,reduceCtorEq,Int.reduceToNat,Int.reduceEq,Int.reduceBEq,Int.reduceBNe,Int.reduceLT,Int.reduceLE,Int.reduceNeg,Int.reduceAdd,Int.reduceSub,Int.reduceMul,Int.reduceGE,Int.reduceGT,endO]
      refine draw_vc (by kernel_rfl) (mkTab_ok _ _) (of_decide_eq_true rfl) (of_decide_eq_true rfl) ?_
      repeat (first | simp (maxSteps:=2000000) only [go_sem,↓reduceIte,Nat.reduceLT,Nat.reduceLeDiff,Nat.reduceAdd,Nat.reduceSub,Nat.reduceMul,Nat.reduceEqDiff,reduceCtorEq,Int.reduceToNat,Int.reduceEq,Int.reduceBEq,Int.reduceBNe,Int.reduceLT,Int.reduceLE,Int.reduceNeg,Int.reduceAdd,Int.reduceSub,Int.reduceMul,Int.reduceGE,Int.reduceGT,endO,hwp] | rw [dr_cons])
      repeat (with_reducible refine And.intro (by first | omega | (simp only [maxLen];omega) | exact Or.inl trivial | exact Or.inr trivial | exact ⟨Or.inl trivial,Or.inr trivial⟩ | exact trivial) ?_)
      have hsx:stepS o s 0 ⟨2,reg,ad,val,frm,old,cnt⟩=some (⟨s.words.set ad.toNat ((s.regs.getD 0 r40).get frm),s.regs,s.places,s.bufs⟩,1):=by rw [st2,if_pos ho,if_pos hfr]
      rw [← hR,← hW,hst,hsx]
      exact retTurnP (s:=⟨s.words.set ad.toNat ((s.regs.getD 0 r40).get frm),s.regs,_,s.bufs⟩) (s0:=s) List.mem_cons_self (fun E E'=>by simp [SV.den,SC.den]) (by simp) rfl (by simp) rfl rfl rfl (set_atsT (enc:=eI) hadn) rfl rfl rfl (set_atsT (enc:=eI) hk1) rfl rfl
     ·have do1:(o != 1)=true:=by simp [ho]
      simp (maxSteps:=2000000) only [go_sem,↓reduceIte,Nat.reduceLT,Nat.reduceLeDiff,Nat.reduceAdd,Nat.reduceSub,Nat.reduceMul,Nat.reduceEqDiff,reduceCtorEq,Int.reduceToNat,Int.reduceEq,Int.reduceBEq,Int.reduceBNe,Int.reduceLT,Int.reduceLE,Int.reduceNeg,Int.reduceAdd,Int.reduceSub,Int.reduceMul,Int.reduceGE,Int.reduceGT,endO,ir40_44,dhe,Ins.enc,hci,do1]
      refine And.intro (by omega) (And.intro (by omega) (And.intro ⟨_,Try.func75,by kernel_rfl,by kernel_rfl⟩ ?_))
      refine call_inline (c:=ir75) (rs:=rs75) (nt:=nt75) 1000 (mkTab_ok _ _) Try.func75 rfl (by kernel_rfl) (by kernel_rfl) rfl (by simp [okVs,SV.okN,SC.okL,SC.okN]) (of_decide_eq_true rfl) (fun E0 a0 ht0=>?_)
      simp (maxSteps:=2000000) only [ir75,nt75,rs75,go_sem,↓reduceIte,Nat.reduceLT,Nat.reduceLeDiff,Nat.reduceAdd,Nat.reduceSub,Nat.reduceMul,Nat.reduceEqDiff,reduceCtorEq,Int.reduceToNat,Int.reduceEq,Int.reduceBEq,Int.reduceBNe,Int.reduceLT,Int.reduceLE,Int.reduceNeg,Int.reduceAdd,Int.reduceSub,Int.reduceMul,Int.reduceGE,Int.reduceGT,endO,mkI_rs,dfr,do1]
      refine draw_vc (by kernel_rfl) (mkTab_ok _ _) (of_decide_eq_true rfl) (of_decide_eq_true rfl) ?_
      repeat (first | simp (maxSteps:=2000000) only [go_sem,↓reduceIte,Nat.reduceLT,Nat.reduceLeDiff,Nat.reduceAdd,Nat.reduceSub,Nat.reduceMul,Nat.reduceEqDiff,reduceCtorEq,Int.reduceToNat,Int.reduceEq,Int.reduceBEq,Int.reduceBNe,Int.reduceLT,Int.reduceLE,Int.reduceNeg,Int.reduceAdd,Int.reduceSub,Int.reduceMul,Int.reduceGE,Int.reduceGT,endO,hnf,Nat.mul_one,dfr,do1] | rw [dr_cons])
      repeat (with_reducible refine And.intro (by first | omega | (simp only [maxLen];omega) | exact Or.inl trivial | exact Or.inr trivial | exact ⟨Or.inl trivial,Or.inr trivial⟩ | exact trivial) ?_)
      refine draw_vc (by kernel_rfl) (mkTab_ok _ _) (of_decide_eq_true rfl) (of_decide_eq_true rfl) ?_
      repeat (first | simp (maxSteps:=2000000) only [go_sem,↓reduceIte,Nat.reduceLT,Nat.reduceLeDiff,Nat.reduceAdd,Nat.reduceSub,Nat.reduceMul,Nat.reduceEqDiff,reduceCtorEq,Int.reduceToNat,Int.reduceEq,Int.reduceBEq,Int.reduceBNe,Int.reduceLT,Int.reduceLE,Int.reduceNeg,Int.reduceAdd,Int.reduceSub,Int.reduceMul,Int.reduceGE,Int.reduceGT,endO,dfr,do1,bfC,bfO,Pd.enc] | rw [dr_cons])
      repeat (with_reducible refine And.intro (by first | omega | (simp only [maxLen];omega) | exact Or.inl trivial | exact Or.inr trivial | exact ⟨Or.inl trivial,Or.inr trivial⟩ | exact trivial) ?_)
      refine retI ht0 _ rfl (of_decide_eq_true rfl) (by simp [SV.okN,SC.okL,SC.okN,ok1L]) ?_
      simp (maxSteps:=2000000) only [go_sem,↓reduceIte,Nat.reduceLT,Nat.reduceLeDiff,Nat.reduceAdd,Nat.reduceSub,Nat.reduceMul,Nat.reduceEqDiff,reduceCtorEq,Int.reduceToNat,Int.reduceEq,Int.reduceBEq,Int.reduceBNe,Int.reduceLT,Int.reduceLE,Int.reduceNeg,Int.reduceAdd,Int.reduceSub,Int.reduceMul,Int.reduceGE,Int.reduceGT,endO]
      refine draw_vc (by kernel_rfl) (mkTab_ok _ _) (of_decide_eq_true rfl) (of_decide_eq_true rfl) ?_
      repeat (first | simp (maxSteps:=2000000) only [go_sem,↓reduceIte,Nat.reduceLT,Nat.reduceLeDiff,Nat.reduceAdd,Nat.reduceSub,Nat.reduceMul,Nat.reduceEqDiff,reduceCtorEq,Int.reduceToNat,Int.reduceEq,Int.reduceBEq,Int.reduceBNe,Int.reduceLT,Int.reduceLE,Int.reduceNeg,Int.reduceAdd,Int.reduceSub,Int.reduceMul,Int.reduceGE,Int.reduceGT,endO,hwp] | rw [dr_cons])
      repeat (with_reducible refine And.intro (by first | omega | (simp only [maxLen];omega) | exact Or.inl trivial | exact Or.inr trivial | exact ⟨Or.inl trivial,Or.inr trivial⟩ | exact trivial) ?_)
      have hsx:stepS o s 0 ⟨2,reg,ad,val,frm,old,cnt⟩=some (⟨s.words,s.regs,s.places,s.bufs.set 0 (s.bufs.getD 0 []++[⟨ad,((s.regs.getD 0 r40).get frm)⟩])⟩,1):=by rw [st2,if_neg ho,if_pos hfr]
      rw [← hR,← hW,hst,hsx]
      exact retTurnA hkb (by decide) List.mem_cons_self (fun E E'=>by simp [SV.den,SC.den]) (by simp) rfl rfl rfl rfl (set_atsT (enc:=eI) hk1) rfl rfl (fun e he=>if_neg he) rfl rfl
    ·have dfr:decide (frm≥0)=false:=decide_eq_false hfr
     by_cases ho:o=1
     ·have do1:(o != 1)=false:=by simp [ho]
      simp (maxSteps:=2000000) only [go_sem,↓reduceIte,Nat.reduceLT,Nat.reduceLeDiff,Nat.reduceAdd,Nat.reduceSub,Nat.reduceMul,Nat.reduceEqDiff,reduceCtorEq,Int.reduceToNat,Int.reduceEq,Int.reduceBEq,Int.reduceBNe,Int.reduceLT,Int.reduceLE,Int.reduceNeg,Int.reduceAdd,Int.reduceSub,Int.reduceMul,Int.reduceGE,Int.reduceGT,endO,ir40_44,dhe,Ins.enc,hci,do1]
      refine And.intro (by omega) (And.intro (by omega) (And.intro ⟨_,Try.func75,by kernel_rfl,by kernel_rfl⟩ ?_))
      refine call_inline (c:=ir75) (rs:=rs75) (nt:=nt75) 1000 (mkTab_ok _ _) Try.func75 rfl (by kernel_rfl) (by kernel_rfl) rfl (by simp [okVs,SV.okN,SC.okL,SC.okN]) (of_decide_eq_true rfl) (fun E0 a0 ht0=>?_)
      simp (maxSteps:=2000000) only [ir75,nt75,rs75,go_sem,↓reduceIte,Nat.reduceLT,Nat.reduceLeDiff,Nat.reduceAdd,Nat.reduceSub,Nat.reduceMul,Nat.reduceEqDiff,reduceCtorEq,Int.reduceToNat,Int.reduceEq,Int.reduceBEq,Int.reduceBNe,Int.reduceLT,Int.reduceLE,Int.reduceNeg,Int.reduceAdd,Int.reduceSub,Int.reduceMul,Int.reduceGE,Int.reduceGT,endO,mkI_rs,dfr,do1]
      refine draw_vc (by kernel_rfl) (mkTab_ok _ _) (of_decide_eq_true rfl) (of_decide_eq_true rfl) ?_
      repeat (first | simp (maxSteps:=2000000) only [go_sem,↓reduceIte,Nat.reduceLT,Nat.reduceLeDiff,Nat.reduceAdd,Nat.reduceSub,Nat.reduceMul,Nat.reduceEqDiff,reduceCtorEq,Int.reduceToNat,Int.reduceEq,Int.reduceBEq,Int.reduceBNe,Int.reduceLT,Int.reduceLE,Int.reduceNeg,Int.reduceAdd,Int.reduceSub,Int.reduceMul,Int.reduceGE,Int.reduceGT,endO,dfr,do1,bfC,bfO,Pd.enc] | rw [dr_cons])
      repeat (with_reducible refine And.intro (by first | omega | (simp only [maxLen];omega) | exact Or.inl trivial | exact Or.inr trivial | exact ⟨Or.inl trivial,Or.inr trivial⟩ | exact trivial) ?_)
      refine retI ht0 _ rfl (of_decide_eq_true rfl) (by simp [SV.okN,SC.okL,SC.okN,ok1L]) ?_
      simp (maxSteps:=2000000) only [go_sem,↓reduceIte,Nat.reduceLT,Nat.reduceLeDiff,Nat.reduceAdd,Nat.reduceSub,Nat.reduceMul,Nat.reduceEqDiff,reduceCtorEq,Int.reduceToNat,Int.reduceEq,Int.reduceBEq,Int.reduceBNe,Int.reduceLT,Int.reduceLE,Int.reduceNeg,Int.reduceAdd,Int.reduceSub,Int.reduceMul,Int.reduceGE,Int.reduceGT,endO]
      refine draw_vc (by kernel_rfl) (mkTab_ok _ _) (of_decide_eq_true rfl) (of_decide_eq_true rfl) ?_
      repeat (first | simp (maxSteps:=2000000) only [go_sem,↓reduceIte,Nat.reduceLT,Nat.reduceLeDiff,Nat.reduceAdd,Nat.reduceSub,Nat.reduceMul,Nat.reduceEqDiff,reduceCtorEq,Int.reduceToNat,Int.reduceEq,Int.reduceBEq,Int.reduceBNe,Int.reduceLT,Int.reduceLE,Int.reduceNeg,Int.reduceAdd,Int.reduceSub,Int.reduceMul,Int.reduceGE,Int.reduceGT,endO,hwp] | rw [dr_cons])
      repeat (with_reducible refine And.intro (by first | omega | (simp only [maxLen];omega) | exact Or.inl trivial | exact Or.inr trivial | exact ⟨Or.inl trivial,Or.inr trivial⟩ | exact trivial) ?_)
      have hsx:stepS o s 0 ⟨2,reg,ad,val,frm,old,cnt⟩=some (⟨s.words.set ad.toNat val,s.regs,s.places,s.bufs⟩,1):=by rw [st2,if_pos ho,if_neg hfr]
      rw [← hR,← hW,hst,hsx]
      exact retTurnP (s:=⟨s.words.set ad.toNat val,s.regs,_,s.bufs⟩) (s0:=s) List.mem_cons_self (fun E E'=>by simp [SV.den,SC.den]) (by simp) rfl (by simp) rfl rfl rfl (set_atsT (enc:=eI) hadn) rfl rfl rfl (set_atsT (enc:=eI) hk1) rfl rfl
     ·have do1:(o != 1)=true:=by simp [ho]
      simp (maxSteps:=2000000) only [go_sem,↓reduceIte,Nat.reduceLT,Nat.reduceLeDiff,Nat.reduceAdd,Nat.reduceSub,Nat.reduceMul,Nat.reduceEqDiff,reduceCtorEq,Int.reduceToNat,Int.reduceEq,Int.reduceBEq,Int.reduceBNe,Int.reduceLT,Int.reduceLE,Int.reduceNeg,Int.reduceAdd,Int.reduceSub,Int.reduceMul,Int.reduceGE,Int.reduceGT,endO,ir40_44,dhe,Ins.enc,hci,do1]
      refine And.intro (by omega) (And.intro (by omega) (And.intro ⟨_,Try.func75,by kernel_rfl,by kernel_rfl⟩ ?_))
      refine call_inline (c:=ir75) (rs:=rs75) (nt:=nt75) 1000 (mkTab_ok _ _) Try.func75 rfl (by kernel_rfl) (by kernel_rfl) rfl (by simp [okVs,SV.okN,SC.okL,SC.okN]) (of_decide_eq_true rfl) (fun E0 a0 ht0=>?_)
      simp (maxSteps:=2000000) only [ir75,nt75,rs75,go_sem,↓reduceIte,Nat.reduceLT,Nat.reduceLeDiff,Nat.reduceAdd,Nat.reduceSub,Nat.reduceMul,Nat.reduceEqDiff,reduceCtorEq,Int.reduceToNat,Int.reduceEq,Int.reduceBEq,Int.reduceBNe,Int.reduceLT,Int.reduceLE,Int.reduceNeg,Int.reduceAdd,Int.reduceSub,Int.reduceMul,Int.reduceGE,Int.reduceGT,endO,mkI_rs,dfr,do1]
      refine draw_vc (by kernel_rfl) (mkTab_ok _ _) (of_decide_eq_true rfl) (of_decide_eq_true rfl) ?_
      repeat (first | simp (maxSteps:=2000000) only [go_sem,↓reduceIte,Nat.reduceLT,Nat.reduceLeDiff,Nat.reduceAdd,Nat.reduceSub,Nat.reduceMul,Nat.reduceEqDiff,reduceCtorEq,Int.reduceToNat,Int.reduceEq,Int.reduceBEq,Int.reduceBNe,Int.reduceLT,Int.reduceLE,Int.reduceNeg,Int.reduceAdd,Int.reduceSub,Int.reduceMul,Int.reduceGE,Int.reduceGT,endO,dfr,do1,bfC,bfO,Pd.enc] | rw [dr_cons])
      repeat (with_reducible refine And.intro (by first | omega | (simp only [maxLen];omega) | exact Or.inl trivial | exact Or.inr trivial | exact ⟨Or.inl trivial,Or.inr trivial⟩ | exact trivial) ?_)
      refine retI ht0 _ rfl (of_decide_eq_true rfl) (by simp [SV.okN,SC.okL,SC.okN,ok1L]) ?_
      simp (maxSteps:=2000000) only [go_sem,↓reduceIte,Nat.reduceLT,Nat.reduceLeDiff,Nat.reduceAdd,Nat.reduceSub,Nat.reduceMul,Nat.reduceEqDiff,reduceCtorEq,Int.reduceToNat,Int.reduceEq,Int.reduceBEq,Int.reduceBNe,Int.reduceLT,Int.reduceLE,Int.reduceNeg,Int.reduceAdd,Int.reduceSub,Int.reduceMul,Int.reduceGE,Int.reduceGT,endO]
      refine draw_vc (by kernel_rfl) (mkTab_ok _ _) (of_decide_eq_true rfl) (of_decide_eq_true rfl) ?_
      repeat (first | simp (maxSteps:=2000000) only [go_sem,↓reduceIte,Nat.reduceLT,Nat.reduceLeDiff,Nat.reduceAdd,Nat.reduceSub,Nat.reduceMul,Nat.reduceEqDiff,reduceCtorEq,Int.reduceToNat,Int.reduceEq,Int.reduceBEq,Int.reduceBNe,Int.reduceLT,Int.reduceLE,Int.reduceNeg,Int.reduceAdd,Int.reduceSub,Int.reduceMul,Int.reduceGE,Int.reduceGT,endO,hwp] | rw [dr_cons])
      repeat (with_reducible refine And.intro (by first | omega | (simp only [maxLen];omega) | exact Or.inl trivial | exact Or.inr trivial | exact ⟨Or.inl trivial,Or.inr trivial⟩ | exact trivial) ?_)
      have hsx:stepS o s 0 ⟨2,reg,ad,val,frm,old,cnt⟩=some (⟨s.words,s.regs,s.places,s.bufs.set 0 (s.bufs.getD 0 []++[⟨ad,val⟩])⟩,1):=by rw [st2,if_neg ho,if_neg hfr]
      rw [← hR,← hW,hst,hsx]
      exact retTurnA hkb (by decide) List.mem_cons_self (fun E E'=>by simp [SV.den,SC.den]) (by simp) rfl rfl rfl rfl (set_atsT (enc:=eI) hk1) rfl rfl (fun e he=>if_neg he) rfl rfl
   by_cases k3:kind=3
   ·subst k3
    have hg:0≤reg∧reg<4:=f3 (by decide) (by decide)
    have hnr:=nth_r4 (xs:=s.regs) (k:=0) hg
    have had:0≤ad∧ad<s.words.length:=by rw [lw];exact f4 (by decide)
    have hadn:ad.toNat<s.words.length:=by omega
    by_cases hbf:(s.bufs.getD 0 []).length>0
    ·have dbf:(((s.bufs.getD 0 []).length:Int) == 0)=false:=by rw [beq_eq_false_iff_ne];omega
     simp (maxSteps:=2000000) only [go_sem,↓reduceIte,Nat.reduceLT,Nat.reduceLeDiff,Nat.reduceAdd,Nat.reduceSub,Nat.reduceMul,Nat.reduceEqDiff,reduceCtorEq,Int.reduceToNat,Int.reduceEq,Int.reduceBEq,Int.reduceBNe,Int.reduceLT,Int.reduceLE,Int.reduceNeg,Int.reduceAdd,Int.reduceSub,Int.reduceMul,Int.reduceGE,Int.reduceGT,endO,ir40_44,dhe,Ins.enc,hci]
     refine And.intro (by omega) (And.intro (by omega) (And.intro ⟨_,Try.func76,by kernel_rfl,by kernel_rfl⟩ ?_))
     refine call_inline (c:=ir76) (rs:=rs76) (nt:=nt76) 1000 (mkTab_ok _ _) Try.func76 rfl (by kernel_rfl) (by kernel_rfl) rfl (by simp [okVs,SV.okN,SC.okL,SC.okN]) (of_decide_eq_true rfl) (fun E0 a0 ht0=>?_)
     simp (maxSteps:=2000000) only [ir76,nt76,rs76,go_sem,↓reduceIte,Nat.reduceLT,Nat.reduceLeDiff,Nat.reduceAdd,Nat.reduceSub,Nat.reduceMul,Nat.reduceEqDiff,reduceCtorEq,Int.reduceToNat,Int.reduceEq,Int.reduceBEq,Int.reduceBNe,Int.reduceLT,Int.reduceLE,Int.reduceNeg,Int.reduceAdd,Int.reduceSub,Int.reduceMul,Int.reduceGE,Int.reduceGT,endO,mkI_rs]
     refine call_inline (c:=ir77) (rs:=rs77) (nt:=nt77) 1000 (mkTab_ok _ _) Try.func77 rfl (by kernel_rfl) (by kernel_rfl) rfl (by simp [okVs,SV.okN,SC.okL,SC.okN]) (of_decide_eq_true rfl) (fun E1 a1 ht1=>?_)
     simp (maxSteps:=2000000) only [ir77,nt77,rs77,go_sem,↓reduceIte,Nat.reduceLT,Nat.reduceLeDiff,Nat.reduceAdd,Nat.reduceSub,Nat.reduceMul,Nat.reduceEqDiff,reduceCtorEq,Int.reduceToNat,Int.reduceEq,Int.reduceBEq,Int.reduceBNe,Int.reduceLT,Int.reduceLE,Int.reduceNeg,Int.reduceAdd,Int.reduceSub,Int.reduceMul,Int.reduceGE,Int.reduceGT,endO,mkI_rs,bfC,bfO,dbf]
     refine draw_vc (by kernel_rfl) (mkTab_ok _ _) (of_decide_eq_true rfl) (of_decide_eq_true rfl) ?_
     repeat (first | simp (maxSteps:=2000000) only [go_sem,↓reduceIte,Nat.reduceLT,Nat.reduceLeDiff,Nat.reduceAdd,Nat.reduceSub,Nat.reduceMul,Nat.reduceEqDiff,reduceCtorEq,Int.reduceToNat,Int.reduceEq,Int.reduceBEq,Int.reduceBNe,Int.reduceLT,Int.reduceLE,Int.reduceNeg,Int.reduceAdd,Int.reduceSub,Int.reduceMul,Int.reduceGE,Int.reduceGT,endO,bfC,bfO,dbf] | rw [dr_cons])
     repeat (with_reducible refine And.intro (by first | omega | (simp only [maxLen];omega) | exact Or.inl trivial | exact Or.inr trivial | exact ⟨Or.inl trivial,Or.inr trivial⟩ | exact trivial) ?_)
     refine retI ht1 _ rfl (of_decide_eq_true rfl) (by simp [SV.okN,SC.okL,SC.okN,ok1L]) ?_
     simp (maxSteps:=2000000) only [go_sem,↓reduceIte,Nat.reduceLT,Nat.reduceLeDiff,Nat.reduceAdd,Nat.reduceSub,Nat.reduceMul,Nat.reduceEqDiff,reduceCtorEq,Int.reduceToNat,Int.reduceEq,Int.reduceBEq,Int.reduceBNe,Int.reduceLT,Int.reduceLE,Int.reduceNeg,Int.reduceAdd,Int.reduceSub,Int.reduceMul,Int.reduceGE,Int.reduceGT,endO,mkI_rs,mkO_rs]
     refine retI ht0 _ rfl (of_decide_eq_true rfl) (by simp [SV.okN,SC.okL,SC.okN,ok1L]) ?_
     simp (maxSteps:=2000000) only [go_sem,↓reduceIte,Nat.reduceLT,Nat.reduceLeDiff,Nat.reduceAdd,Nat.reduceSub,Nat.reduceMul,Nat.reduceEqDiff,reduceCtorEq,Int.reduceToNat,Int.reduceEq,Int.reduceBEq,Int.reduceBNe,Int.reduceLT,Int.reduceLE,Int.reduceNeg,Int.reduceAdd,Int.reduceSub,Int.reduceMul,Int.reduceGE,Int.reduceGT,endO]
     exact hno (by rw [hst,st3,if_pos hbf]) List.mem_cons_self rfl rfl rfl rfl rfl rfl
    ·have dbf:(((s.bufs.getD 0 []).length:Int) == 0)=true:=by rw [beq_iff_eq];omega
     simp (maxSteps:=2000000) only [go_sem,↓reduceIte,Nat.reduceLT,Nat.reduceLeDiff,Nat.reduceAdd,Nat.reduceSub,Nat.reduceMul,Nat.reduceEqDiff,reduceCtorEq,Int.reduceToNat,Int.reduceEq,Int.reduceBEq,Int.reduceBNe,Int.reduceLT,Int.reduceLE,Int.reduceNeg,Int.reduceAdd,Int.reduceSub,Int.reduceMul,Int.reduceGE,Int.reduceGT,endO,ir40_44,dhe,Ins.enc,hci]
     refine And.intro (by omega) (And.intro (by omega) (And.intro ⟨_,Try.func76,by kernel_rfl,by kernel_rfl⟩ ?_))
     refine call_inline (c:=ir76) (rs:=rs76) (nt:=nt76) 1000 (mkTab_ok _ _) Try.func76 rfl (by kernel_rfl) (by kernel_rfl) rfl (by simp [okVs,SV.okN,SC.okL,SC.okN]) (of_decide_eq_true rfl) (fun E0 a0 ht0=>?_)
     simp (maxSteps:=2000000) only [ir76,nt76,rs76,go_sem,↓reduceIte,Nat.reduceLT,Nat.reduceLeDiff,Nat.reduceAdd,Nat.reduceSub,Nat.reduceMul,Nat.reduceEqDiff,reduceCtorEq,Int.reduceToNat,Int.reduceEq,Int.reduceBEq,Int.reduceBNe,Int.reduceLT,Int.reduceLE,Int.reduceNeg,Int.reduceAdd,Int.reduceSub,Int.reduceMul,Int.reduceGE,Int.reduceGT,endO,mkI_rs]
     refine call_inline (c:=ir77) (rs:=rs77) (nt:=nt77) 1000 (mkTab_ok _ _) Try.func77 rfl (by kernel_rfl) (by kernel_rfl) rfl (by simp [okVs,SV.okN,SC.okL,SC.okN]) (of_decide_eq_true rfl) (fun E1 a1 ht1=>?_)
     simp (maxSteps:=2000000) only [ir77,nt77,rs77,go_sem,↓reduceIte,Nat.reduceLT,Nat.reduceLeDiff,Nat.reduceAdd,Nat.reduceSub,Nat.reduceMul,Nat.reduceEqDiff,reduceCtorEq,Int.reduceToNat,Int.reduceEq,Int.reduceBEq,Int.reduceBNe,Int.reduceLT,Int.reduceLE,Int.reduceNeg,Int.reduceAdd,Int.reduceSub,Int.reduceMul,Int.reduceGE,Int.reduceGT,endO,mkI_rs,bfC,bfO,dbf]
     refine draw_vc (by kernel_rfl) (mkTab_ok _ _) (of_decide_eq_true rfl) (of_decide_eq_true rfl) ?_
     repeat (first | simp (maxSteps:=2000000) only [go_sem,↓reduceIte,Nat.reduceLT,Nat.reduceLeDiff,Nat.reduceAdd,Nat.reduceSub,Nat.reduceMul,Nat.reduceEqDiff,reduceCtorEq,Int.reduceToNat,Int.reduceEq,Int.reduceBEq,Int.reduceBNe,Int.reduceLT,Int.reduceLE,Int.reduceNeg,Int.reduceAdd,Int.reduceSub,Int.reduceMul,Int.reduceGE,Int.reduceGT,endO,bfC,bfO,dbf] | rw [dr_cons])
     repeat (with_reducible refine And.intro (by first | omega | (simp only [maxLen];omega) | exact Or.inl trivial | exact Or.inr trivial | exact ⟨Or.inl trivial,Or.inr trivial⟩ | exact trivial) ?_)
     refine retI ht1 _ rfl (of_decide_eq_true rfl) (by simp [SV.okN,SC.okL,SC.okN,ok1L]) ?_
     simp (maxSteps:=2000000) only [go_sem,↓reduceIte,Nat.reduceLT,Nat.reduceLeDiff,Nat.reduceAdd,Nat.reduceSub,Nat.reduceMul,Nat.reduceEqDiff,reduceCtorEq,Int.reduceToNat,Int.reduceEq,Int.reduceBEq,Int.reduceBNe,Int.reduceLT,Int.reduceLE,Int.reduceNeg,Int.reduceAdd,Int.reduceSub,Int.reduceMul,Int.reduceGE,Int.reduceGT,endO,mkI_rs,mkO_rs]
     refine call_intro (reg_cr (regs:=s.regs) rfl rfl hkr hg rfl rfl rfl (fun _ _=>rfl) ⟨rfl,rfl,rfl,rfl,rfl,rfl,fun _=>rfl⟩ fun _=>⟨rfl,rfl,rfl⟩) (fun i hi=>by rw [List.mem_singleton] at hi;subst hi;exact (show 7<16 by decide)) ?_
     simp (maxSteps:=2000000) only [go_sem,↓reduceIte,Nat.reduceLT,Nat.reduceLeDiff,Nat.reduceAdd,Nat.reduceSub,Nat.reduceMul,Nat.reduceEqDiff,reduceCtorEq,Int.reduceToNat,Int.reduceEq,Int.reduceBEq,Int.reduceBNe,Int.reduceLT,Int.reduceLE,Int.reduceNeg,Int.reduceAdd,Int.reduceSub,Int.reduceMul,Int.reduceGE,Int.reduceGT,endO]
     repeat (with_reducible refine And.intro (by first | omega | (simp only [maxLen];omega) | exact Or.inl trivial | exact Or.inr trivial | exact ⟨Or.inl trivial,Or.inr trivial⟩ | exact trivial) ?_)
     rw [put_r4 hkr hg]
     refine draw_vc (by kernel_rfl) (mkTab_ok _ _) (of_decide_eq_true rfl) (of_decide_eq_true rfl) ?_
     repeat (first | simp (maxSteps:=2000000) only [go_sem,↓reduceIte,Nat.reduceLT,Nat.reduceLeDiff,Nat.reduceAdd,Nat.reduceSub,Nat.reduceMul,Nat.reduceEqDiff,reduceCtorEq,Int.reduceToNat,Int.reduceEq,Int.reduceBEq,Int.reduceBNe,Int.reduceLT,Int.reduceLE,Int.reduceNeg,Int.reduceAdd,Int.reduceSub,Int.reduceMul,Int.reduceGE,Int.reduceGT,endO] | rw [dr_cons])
     repeat (with_reducible refine And.intro (by first | omega | (simp only [maxLen];omega) | exact Or.inl trivial | exact Or.inr trivial | exact ⟨Or.inl trivial,Or.inr trivial⟩ | exact trivial) ?_)
     refine both (fun hq=>?_) (fun hq=>?_)
     ·have hq:s.words.getD ad.toNat 0=old:=by simpa using hq
      have hkr2:0<(s.regs.set 0 ((s.regs.getD 0 r40).put reg 0)).length:=by simpa using hkr
      refine draw_vc (by kernel_rfl) (mkTab_ok _ _) (of_decide_eq_true rfl) (of_decide_eq_true rfl) ?_
      repeat (first | simp (maxSteps:=2000000) only [go_sem,↓reduceIte,Nat.reduceLT,Nat.reduceLeDiff,Nat.reduceAdd,Nat.reduceSub,Nat.reduceMul,Nat.reduceEqDiff,reduceCtorEq,Int.reduceToNat,Int.reduceEq,Int.reduceBEq,Int.reduceBNe,Int.reduceLT,Int.reduceLE,Int.reduceNeg,Int.reduceAdd,Int.reduceSub,Int.reduceMul,Int.reduceGE,Int.reduceGT,endO] | rw [dr_cons])
      repeat (with_reducible refine And.intro (by first | omega | (simp only [maxLen];omega) | exact Or.inl trivial | exact Or.inr trivial | exact ⟨Or.inl trivial,Or.inr trivial⟩ | exact trivial) ?_)
      refine call_intro (reg_cr (regs:=s.regs.set 0 ((s.regs.getD 0 r40).put reg 0)) rfl (by simp) hkr2 hg rfl rfl rfl (fun _ _=>rfl) ⟨rfl,rfl,rfl,rfl,rfl,rfl,fun _=>rfl⟩ fun _=>⟨rfl,rfl,rfl⟩) (fun i hi=>by rw [List.mem_singleton] at hi;subst hi;exact (show 7<16 by decide)) ?_
      simp (maxSteps:=2000000) only [go_sem,↓reduceIte,Nat.reduceLT,Nat.reduceLeDiff,Nat.reduceAdd,Nat.reduceSub,Nat.reduceMul,Nat.reduceEqDiff,reduceCtorEq,Int.reduceToNat,Int.reduceEq,Int.reduceBEq,Int.reduceBNe,Int.reduceLT,Int.reduceLE,Int.reduceNeg,Int.reduceAdd,Int.reduceSub,Int.reduceMul,Int.reduceGE,Int.reduceGT,endO]
      repeat (with_reducible refine And.intro (by first | omega | (simp only [maxLen];omega) | exact Or.inl trivial | exact Or.inr trivial | exact ⟨Or.inl trivial,Or.inr trivial⟩ | exact trivial) ?_)
      refine retI ht0 _ rfl (of_decide_eq_true rfl) (by simp [SV.okN,SC.okL,SC.okN,ok1L]) ?_
      simp (maxSteps:=2000000) only [go_sem,↓reduceIte,Nat.reduceLT,Nat.reduceLeDiff,Nat.reduceAdd,Nat.reduceSub,Nat.reduceMul,Nat.reduceEqDiff,reduceCtorEq,Int.reduceToNat,Int.reduceEq,Int.reduceBEq,Int.reduceBNe,Int.reduceLT,Int.reduceLE,Int.reduceNeg,Int.reduceAdd,Int.reduceSub,Int.reduceMul,Int.reduceGE,Int.reduceGT,endO]
      refine draw_vc (by kernel_rfl) (mkTab_ok _ _) (of_decide_eq_true rfl) (of_decide_eq_true rfl) ?_
      repeat (first | simp (maxSteps:=2000000) only [go_sem,↓reduceIte,Nat.reduceLT,Nat.reduceLeDiff,Nat.reduceAdd,Nat.reduceSub,Nat.reduceMul,Nat.reduceEqDiff,reduceCtorEq,Int.reduceToNat,Int.reduceEq,Int.reduceBEq,Int.reduceBNe,Int.reduceLT,Int.reduceLE,Int.reduceNeg,Int.reduceAdd,Int.reduceSub,Int.reduceMul,Int.reduceGE,Int.reduceGT,endO,hwp] | rw [dr_cons])
      repeat (with_reducible refine And.intro (by first | omega | (simp only [maxLen];omega) | exact Or.inl trivial | exact Or.inr trivial | exact ⟨Or.inl trivial,Or.inr trivial⟩ | exact trivial) ?_)
      have hsx:stepS o s 0 ⟨3,reg,ad,val,frm,old,cnt⟩=some (⟨s.words.set ad.toNat val,s.regs.set 0 ((s.regs.getD 0 r40).put reg 1),s.places,s.bufs⟩,1):=by rw [st3,if_neg hbf,if_pos hq]
      rw [← hR,← hW,hst,hsx]
      exact retTurnP (s:=⟨s.words.set ad.toNat val,s.regs.set 0 ((s.regs.getD 0 r40).put reg 1),_,s.bufs⟩) (s0:=s) List.mem_cons_self (fun E E'=>by simp [SV.den,SC.den]) (by simp) (by simp) (by simp) rfl rfl rfl (set_atsT (enc:=eI) hadn) rfl ((put_r4 hkr2 hg).trans (by rw [put_twice hkr hg])) rfl (set_atsT (enc:=eI) hk1) rfl rfl
     ·have hq:¬ s.words.getD ad.toNat 0=old:=by simpa using hq
      refine retI ht0 _ rfl (of_decide_eq_true rfl) (by simp [SV.okN,SC.okL,SC.okN,ok1L]) ?_
      simp (maxSteps:=2000000) only [go_sem,↓reduceIte,Nat.reduceLT,Nat.reduceLeDiff,Nat.reduceAdd,Nat.reduceSub,Nat.reduceMul,Nat.reduceEqDiff,reduceCtorEq,Int.reduceToNat,Int.reduceEq,Int.reduceBEq,Int.reduceBNe,Int.reduceLT,Int.reduceLE,Int.reduceNeg,Int.reduceAdd,Int.reduceSub,Int.reduceMul,Int.reduceGE,Int.reduceGT,endO]
      refine draw_vc (by kernel_rfl) (mkTab_ok _ _) (of_decide_eq_true rfl) (of_decide_eq_true rfl) ?_
      repeat (first | simp (maxSteps:=2000000) only [go_sem,↓reduceIte,Nat.reduceLT,Nat.reduceLeDiff,Nat.reduceAdd,Nat.reduceSub,Nat.reduceMul,Nat.reduceEqDiff,reduceCtorEq,Int.reduceToNat,Int.reduceEq,Int.reduceBEq,Int.reduceBNe,Int.reduceLT,Int.reduceLE,Int.reduceNeg,Int.reduceAdd,Int.reduceSub,Int.reduceMul,Int.reduceGE,Int.reduceGT,endO,hwp] | rw [dr_cons])
      repeat (with_reducible refine And.intro (by first | omega | (simp only [maxLen];omega) | exact Or.inl trivial | exact Or.inr trivial | exact ⟨Or.inl trivial,Or.inr trivial⟩ | exact trivial) ?_)
      have hsx:stepS o s 0 ⟨3,reg,ad,val,frm,old,cnt⟩=some (⟨s.words,s.regs.set 0 ((s.regs.getD 0 r40).put reg 0),s.places,s.bufs⟩,1):=by rw [st3,if_neg hbf,if_neg hq]
      rw [← hR,← hW,hst,hsx]
      exact retTurnP (s:=⟨s.words,s.regs.set 0 ((s.regs.getD 0 r40).put reg 0),_,s.bufs⟩) (s0:=s) List.mem_cons_self (fun E E'=>by simp [SV.den,SC.den]) rfl (by simp) (by simp) rfl rfl rfl rfl rfl rfl rfl (set_atsT (enc:=eI) hk1) rfl rfl
   by_cases k4:kind=4
   ·subst k4
    by_cases hbf:(s.bufs.getD 0 []).length>0
    ·have dbf:(((s.bufs.getD 0 []).length:Int) == 0)=false:=by rw [beq_eq_false_iff_ne];omega
     simp (maxSteps:=2000000) only [go_sem,↓reduceIte,Nat.reduceLT,Nat.reduceLeDiff,Nat.reduceAdd,Nat.reduceSub,Nat.reduceMul,Nat.reduceEqDiff,reduceCtorEq,Int.reduceToNat,Int.reduceEq,Int.reduceBEq,Int.reduceBNe,Int.reduceLT,Int.reduceLE,Int.reduceNeg,Int.reduceAdd,Int.reduceSub,Int.reduceMul,Int.reduceGE,Int.reduceGT,endO,ir40_44,dhe,Ins.enc,hci]
     refine And.intro (by omega) (And.intro (by omega) (And.intro ⟨_,Try.func77,by kernel_rfl,by kernel_rfl⟩ ?_))
     refine call_inline (c:=ir77) (rs:=rs77) (nt:=nt77) 1000 (mkTab_ok _ _) Try.func77 rfl (by kernel_rfl) (by kernel_rfl) rfl (by simp [okVs,SV.okN,SC.okL,SC.okN]) (of_decide_eq_true rfl) (fun E0 a0 ht0=>?_)
     simp (maxSteps:=2000000) only [ir77,nt77,rs77,go_sem,↓reduceIte,Nat.reduceLT,Nat.reduceLeDiff,Nat.reduceAdd,Nat.reduceSub,Nat.reduceMul,Nat.reduceEqDiff,reduceCtorEq,Int.reduceToNat,Int.reduceEq,Int.reduceBEq,Int.reduceBNe,Int.reduceLT,Int.reduceLE,Int.reduceNeg,Int.reduceAdd,Int.reduceSub,Int.reduceMul,Int.reduceGE,Int.reduceGT,endO,mkI_rs,bfC,bfO,dbf]
     refine draw_vc (by kernel_rfl) (mkTab_ok _ _) (of_decide_eq_true rfl) (of_decide_eq_true rfl) ?_
     repeat (first | simp (maxSteps:=2000000) only [go_sem,↓reduceIte,Nat.reduceLT,Nat.reduceLeDiff,Nat.reduceAdd,Nat.reduceSub,Nat.reduceMul,Nat.reduceEqDiff,reduceCtorEq,Int.reduceToNat,Int.reduceEq,Int.reduceBEq,Int.reduceBNe,Int.reduceLT,Int.reduceLE,Int.reduceNeg,Int.reduceAdd,Int.reduceSub,Int.reduceMul,Int.reduceGE,Int.reduceGT,endO,bfC,bfO,dbf] | rw [dr_cons])
     repeat (with_reducible refine And.intro (by first | omega | (simp only [maxLen];omega) | exact Or.inl trivial | exact Or.inr trivial | exact ⟨Or.inl trivial,Or.inr trivial⟩ | exact trivial) ?_)
     refine retI ht0 _ rfl (of_decide_eq_true rfl) (by simp [SV.okN,SC.okL,SC.okN,ok1L]) ?_
     simp (maxSteps:=2000000) only [go_sem,↓reduceIte,Nat.reduceLT,Nat.reduceLeDiff,Nat.reduceAdd,Nat.reduceSub,Nat.reduceMul,Nat.reduceEqDiff,reduceCtorEq,Int.reduceToNat,Int.reduceEq,Int.reduceBEq,Int.reduceBNe,Int.reduceLT,Int.reduceLE,Int.reduceNeg,Int.reduceAdd,Int.reduceSub,Int.reduceMul,Int.reduceGE,Int.reduceGT,endO]
     exact hno (by rw [hst,st4,if_pos hbf]) List.mem_cons_self rfl rfl rfl rfl rfl rfl
    ·have dbf:(((s.bufs.getD 0 []).length:Int) == 0)=true:=by rw [beq_iff_eq];omega
     simp (maxSteps:=2000000) only [go_sem,↓reduceIte,Nat.reduceLT,Nat.reduceLeDiff,Nat.reduceAdd,Nat.reduceSub,Nat.reduceMul,Nat.reduceEqDiff,reduceCtorEq,Int.reduceToNat,Int.reduceEq,Int.reduceBEq,Int.reduceBNe,Int.reduceLT,Int.reduceLE,Int.reduceNeg,Int.reduceAdd,Int.reduceSub,Int.reduceMul,Int.reduceGE,Int.reduceGT,endO,ir40_44,dhe,Ins.enc,hci]
     refine And.intro (by omega) (And.intro (by omega) (And.intro ⟨_,Try.func77,by kernel_rfl,by kernel_rfl⟩ ?_))
     refine call_inline (c:=ir77) (rs:=rs77) (nt:=nt77) 1000 (mkTab_ok _ _) Try.func77 rfl (by kernel_rfl) (by kernel_rfl) rfl (by simp [okVs,SV.okN,SC.okL,SC.okN]) (of_decide_eq_true rfl) (fun E0 a0 ht0=>?_)
     simp (maxSteps:=2000000) only [ir77,nt77,rs77,go_sem,↓reduceIte,Nat.reduceLT,Nat.reduceLeDiff,Nat.reduceAdd,Nat.reduceSub,Nat.reduceMul,Nat.reduceEqDiff,reduceCtorEq,Int.reduceToNat,Int.reduceEq,Int.reduceBEq,Int.reduceBNe,Int.reduceLT,Int.reduceLE,Int.reduceNeg,Int.reduceAdd,Int.reduceSub,Int.reduceMul,Int.reduceGE,Int.reduceGT,endO,mkI_rs,bfC,bfO,dbf]
     refine draw_vc (by kernel_rfl) (mkTab_ok _ _) (of_decide_eq_true rfl) (of_decide_eq_true rfl) ?_
     repeat (first | simp (maxSteps:=2000000) only [go_sem,↓reduceIte,Nat.reduceLT,Nat.reduceLeDiff,Nat.reduceAdd,Nat.reduceSub,Nat.reduceMul,Nat.reduceEqDiff,reduceCtorEq,Int.reduceToNat,Int.reduceEq,Int.reduceBEq,Int.reduceBNe,Int.reduceLT,Int.reduceLE,Int.reduceNeg,Int.reduceAdd,Int.reduceSub,Int.reduceMul,Int.reduceGE,Int.reduceGT,endO,bfC,bfO,dbf] | rw [dr_cons])
     repeat (with_reducible refine And.intro (by first | omega | (simp only [maxLen];omega) | exact Or.inl trivial | exact Or.inr trivial | exact ⟨Or.inl trivial,Or.inr trivial⟩ | exact trivial) ?_)
     refine retI ht0 _ rfl (of_decide_eq_true rfl) (by simp [SV.okN,SC.okL,SC.okN,ok1L]) ?_
     simp (maxSteps:=2000000) only [go_sem,↓reduceIte,Nat.reduceLT,Nat.reduceLeDiff,Nat.reduceAdd,Nat.reduceSub,Nat.reduceMul,Nat.reduceEqDiff,reduceCtorEq,Int.reduceToNat,Int.reduceEq,Int.reduceBEq,Int.reduceBNe,Int.reduceLT,Int.reduceLE,Int.reduceNeg,Int.reduceAdd,Int.reduceSub,Int.reduceMul,Int.reduceGE,Int.reduceGT,endO]
     refine draw_vc (by kernel_rfl) (mkTab_ok _ _) (of_decide_eq_true rfl) (of_decide_eq_true rfl) ?_
     repeat (first | simp (maxSteps:=2000000) only [go_sem,↓reduceIte,Nat.reduceLT,Nat.reduceLeDiff,Nat.reduceAdd,Nat.reduceSub,Nat.reduceMul,Nat.reduceEqDiff,reduceCtorEq,Int.reduceToNat,Int.reduceEq,Int.reduceBEq,Int.reduceBNe,Int.reduceLT,Int.reduceLE,Int.reduceNeg,Int.reduceAdd,Int.reduceSub,Int.reduceMul,Int.reduceGE,Int.reduceGT,endO,hwp] | rw [dr_cons])
     repeat (with_reducible refine And.intro (by first | omega | (simp only [maxLen];omega) | exact Or.inl trivial | exact Or.inr trivial | exact ⟨Or.inl trivial,Or.inr trivial⟩ | exact trivial) ?_)
     have hsx:stepS o s 0 ⟨4,reg,ad,val,frm,old,cnt⟩=some (⟨s.words,s.regs,s.places,s.bufs⟩,1):=by rw [st4,if_neg hbf]
     rw [← hR,← hW,hst,hsx]
     exact retTurnP (s:=⟨s.words,s.regs,_,s.bufs⟩) (s0:=s) List.mem_cons_self (fun E E'=>by simp [SV.den,SC.den]) rfl rfl (by simp) rfl rfl rfl rfl rfl rfl rfl (set_atsT (enc:=eI) hk1) rfl rfl
   by_cases k5:kind=5
   ·subst k5
    have hg:0≤reg∧reg<4:=f3 (by decide) (by decide)
    have hnr:=nth_r4 (xs:=s.regs) (k:=0) hg
    simp (maxSteps:=2000000) only [go_sem,↓reduceIte,Nat.reduceLT,Nat.reduceLeDiff,Nat.reduceAdd,Nat.reduceSub,Nat.reduceMul,Nat.reduceEqDiff,reduceCtorEq,Int.reduceToNat,Int.reduceEq,Int.reduceBEq,Int.reduceBNe,Int.reduceLT,Int.reduceLE,Int.reduceNeg,Int.reduceAdd,Int.reduceSub,Int.reduceMul,Int.reduceGE,Int.reduceGT,endO,ir40_44,dhe,Ins.enc,hci]
    refine And.intro (by omega) (And.intro (by omega) (And.intro ⟨_,Try.func78,by kernel_rfl,by kernel_rfl⟩ ?_))
    refine call_inline (c:=ir78) (rs:=rs78) (nt:=nt78) 1000 (mkTab_ok _ _) Try.func78 rfl (by kernel_rfl) (by kernel_rfl) rfl (by simp [okVs,SV.okN,SC.okL,SC.okN]) (of_decide_eq_true rfl) (fun E0 a0 ht0=>?_)
    simp (maxSteps:=2000000) only [ir78,nt78,rs78,go_sem,↓reduceIte,Nat.reduceLT,Nat.reduceLeDiff,Nat.reduceAdd,Nat.reduceSub,Nat.reduceMul,Nat.reduceEqDiff,reduceCtorEq,Int.reduceToNat,Int.reduceEq,Int.reduceBEq,Int.reduceBNe,Int.reduceLT,Int.reduceLE,Int.reduceNeg,Int.reduceAdd,Int.reduceSub,Int.reduceMul,Int.reduceGE,Int.reduceGT,endO,mkI_rs]
    refine draw_vc (by kernel_rfl) (mkTab_ok _ _) (of_decide_eq_true rfl) (of_decide_eq_true rfl) ?_
    repeat (first | simp (maxSteps:=2000000) only [go_sem,↓reduceIte,Nat.reduceLT,Nat.reduceLeDiff,Nat.reduceAdd,Nat.reduceSub,Nat.reduceMul,Nat.reduceEqDiff,reduceCtorEq,Int.reduceToNat,Int.reduceEq,Int.reduceBEq,Int.reduceBNe,Int.reduceLT,Int.reduceLE,Int.reduceNeg,Int.reduceAdd,Int.reduceSub,Int.reduceMul,Int.reduceGE,Int.reduceGT,endO] | rw [dr_cons])
    refine dcall_intro (reg_cr (regs:=s.regs) rfl rfl hkr hg rfl rfl rfl (fun _ _=>rfl) ⟨rfl,rfl,rfl,rfl,rfl,rfl,fun _=>rfl⟩ fun _=>⟨rfl,rfl,rfl⟩) rfl trivial trivial (fun _ hk=>by cases hk) ?_
    repeat (first | simp (maxSteps:=2000000) only [go_sem,↓reduceIte,Nat.reduceLT,Nat.reduceLeDiff,Nat.reduceAdd,Nat.reduceSub,Nat.reduceMul,Nat.reduceEqDiff,reduceCtorEq,Int.reduceToNat,Int.reduceEq,Int.reduceBEq,Int.reduceBNe,Int.reduceLT,Int.reduceLE,Int.reduceNeg,Int.reduceAdd,Int.reduceSub,Int.reduceMul,Int.reduceGE,Int.reduceGT,endO,hnr] | rw [dr_cons])
    repeat (with_reducible refine And.intro (by first | omega | (simp only [maxLen];omega) | exact Or.inl trivial | exact Or.inr trivial | exact ⟨Or.inl trivial,Or.inr trivial⟩ | exact trivial) ?_)
    refine retI ht0 _ rfl (of_decide_eq_true rfl) (by simp [SV.okN,SC.okL,SC.okN,ok1L]) ?_
    simp (maxSteps:=2000000) only [go_sem,↓reduceIte,Nat.reduceLT,Nat.reduceLeDiff,Nat.reduceAdd,Nat.reduceSub,Nat.reduceMul,Nat.reduceEqDiff,reduceCtorEq,Int.reduceToNat,Int.reduceEq,Int.reduceBEq,Int.reduceBNe,Int.reduceLT,Int.reduceLE,Int.reduceNeg,Int.reduceAdd,Int.reduceSub,Int.reduceMul,Int.reduceGE,Int.reduceGT,endO]
    rw [put_r4 hkr hg]
    refine draw_vc (by kernel_rfl) (mkTab_ok _ _) (of_decide_eq_true rfl) (of_decide_eq_true rfl) ?_
    repeat (first | simp (maxSteps:=2000000) only [go_sem,↓reduceIte,Nat.reduceLT,Nat.reduceLeDiff,Nat.reduceAdd,Nat.reduceSub,Nat.reduceMul,Nat.reduceEqDiff,reduceCtorEq,Int.reduceToNat,Int.reduceEq,Int.reduceBEq,Int.reduceBNe,Int.reduceLT,Int.reduceLE,Int.reduceNeg,Int.reduceAdd,Int.reduceSub,Int.reduceMul,Int.reduceGE,Int.reduceGT,endO,hwp] | rw [dr_cons])
    repeat (with_reducible refine And.intro (by first | omega | (simp only [maxLen];omega) | exact Or.inl trivial | exact Or.inr trivial | exact ⟨Or.inl trivial,Or.inr trivial⟩ | exact trivial) ?_)
    have hsx:stepS o s 0 ⟨5,reg,ad,val,frm,old,cnt⟩=some (⟨s.words,s.regs.set 0 ((s.regs.getD 0 r40).put reg val),s.places,s.bufs⟩,1):=by simp [stepS]
    rw [← hR,← hW,hst,hsx]
    exact retTurnP (s:=⟨s.words,s.regs.set 0 ((s.regs.getD 0 r40).put reg val),_,s.bufs⟩) (s0:=s) List.mem_cons_self (fun E E'=>by simp [SV.den,SC.den]) rfl (by simp) (by simp) rfl rfl rfl rfl rfl rfl rfl (set_atsT (enc:=eI) hk1) rfl rfl
   by_cases k6:kind=6
   ·subst k6
    have hg:0≤reg∧reg<4:=f3 (by decide) (by decide)
    have hnr:=nth_r4 (xs:=s.regs) (k:=0) hg
    simp (maxSteps:=2000000) only [go_sem,↓reduceIte,Nat.reduceLT,Nat.reduceLeDiff,Nat.reduceAdd,Nat.reduceSub,Nat.reduceMul,Nat.reduceEqDiff,reduceCtorEq,Int.reduceToNat,Int.reduceEq,Int.reduceBEq,Int.reduceBNe,Int.reduceLT,Int.reduceLE,Int.reduceNeg,Int.reduceAdd,Int.reduceSub,Int.reduceMul,Int.reduceGE,Int.reduceGT,endO,ir40_44,dhe,Ins.enc,hci]
    refine And.intro (by omega) (And.intro (by omega) (And.intro ⟨_,Try.func79,by kernel_rfl,by kernel_rfl⟩ ?_))
    refine call_inline (c:=ir79) (rs:=rs79) (nt:=nt79) 1000 (mkTab_ok _ _) Try.func79 rfl (by kernel_rfl) (by kernel_rfl) rfl (by simp [okVs,SV.okN,SC.okL,SC.okN]) (of_decide_eq_true rfl) (fun E0 a0 ht0=>?_)
    simp (maxSteps:=2000000) only [ir79,nt79,rs79,go_sem,↓reduceIte,Nat.reduceLT,Nat.reduceLeDiff,Nat.reduceAdd,Nat.reduceSub,Nat.reduceMul,Nat.reduceEqDiff,reduceCtorEq,Int.reduceToNat,Int.reduceEq,Int.reduceBEq,Int.reduceBNe,Int.reduceLT,Int.reduceLE,Int.reduceNeg,Int.reduceAdd,Int.reduceSub,Int.reduceMul,Int.reduceGE,Int.reduceGT,endO,mkI_rs]
    refine draw_vc (by kernel_rfl) (mkTab_ok _ _) (of_decide_eq_true rfl) (of_decide_eq_true rfl) ?_
    repeat (first | simp (maxSteps:=2000000) only [go_sem,↓reduceIte,Nat.reduceLT,Nat.reduceLeDiff,Nat.reduceAdd,Nat.reduceSub,Nat.reduceMul,Nat.reduceEqDiff,reduceCtorEq,Int.reduceToNat,Int.reduceEq,Int.reduceBEq,Int.reduceBNe,Int.reduceLT,Int.reduceLE,Int.reduceNeg,Int.reduceAdd,Int.reduceSub,Int.reduceMul,Int.reduceGE,Int.reduceGT,endO] | rw [dr_cons])
    refine dcall_intro (reg_cr (regs:=s.regs) rfl rfl hkr hg rfl rfl rfl (fun _ _=>rfl) ⟨rfl,rfl,rfl,rfl,rfl,rfl,fun _=>rfl⟩ fun _=>⟨rfl,rfl,rfl⟩) rfl trivial trivial (fun _ hk=>by cases hk) ?_
    repeat (first | simp (maxSteps:=2000000) only [go_sem,↓reduceIte,Nat.reduceLT,Nat.reduceLeDiff,Nat.reduceAdd,Nat.reduceSub,Nat.reduceMul,Nat.reduceEqDiff,reduceCtorEq,Int.reduceToNat,Int.reduceEq,Int.reduceBEq,Int.reduceBNe,Int.reduceLT,Int.reduceLE,Int.reduceNeg,Int.reduceAdd,Int.reduceSub,Int.reduceMul,Int.reduceGE,Int.reduceGT,endO,hnr] | rw [dr_cons])
    repeat (with_reducible refine And.intro (by first | omega | (simp only [maxLen];omega) | exact Or.inl trivial | exact Or.inr trivial | exact ⟨Or.inl trivial,Or.inr trivial⟩ | exact trivial) ?_)
    refine retI ht0 _ rfl (of_decide_eq_true rfl) (by simp [SV.okN,SC.okL,SC.okN,ok1L]) ?_
    simp (maxSteps:=2000000) only [go_sem,↓reduceIte,Nat.reduceLT,Nat.reduceLeDiff,Nat.reduceAdd,Nat.reduceSub,Nat.reduceMul,Nat.reduceEqDiff,reduceCtorEq,Int.reduceToNat,Int.reduceEq,Int.reduceBEq,Int.reduceBNe,Int.reduceLT,Int.reduceLE,Int.reduceNeg,Int.reduceAdd,Int.reduceSub,Int.reduceMul,Int.reduceGE,Int.reduceGT,endO]
    rw [put_r4 hkr hg]
    refine draw_vc (by kernel_rfl) (mkTab_ok _ _) (of_decide_eq_true rfl) (of_decide_eq_true rfl) ?_
    repeat (first | simp (maxSteps:=2000000) only [go_sem,↓reduceIte,Nat.reduceLT,Nat.reduceLeDiff,Nat.reduceAdd,Nat.reduceSub,Nat.reduceMul,Nat.reduceEqDiff,reduceCtorEq,Int.reduceToNat,Int.reduceEq,Int.reduceBEq,Int.reduceBNe,Int.reduceLT,Int.reduceLE,Int.reduceNeg,Int.reduceAdd,Int.reduceSub,Int.reduceMul,Int.reduceGE,Int.reduceGT,endO,hwp] | rw [dr_cons])
    repeat (with_reducible refine And.intro (by first | omega | (simp only [maxLen];omega) | exact Or.inl trivial | exact Or.inr trivial | exact ⟨Or.inl trivial,Or.inr trivial⟩ | exact trivial) ?_)
    have hsx:stepS o s 0 ⟨6,reg,ad,val,frm,old,cnt⟩=some (⟨s.words,s.regs.set 0 ((s.regs.getD 0 r40).put reg (IntKind.i64.wrap ((s.regs.getD 0 r40).get reg+val))),s.places,s.bufs⟩,1):=by simp [stepS]
    rw [← hR,← hW,hst,hsx]
    exact retTurnP (s:=⟨s.words,s.regs.set 0 ((s.regs.getD 0 r40).put reg (IntKind.i64.wrap ((s.regs.getD 0 r40).get reg+val))),_,s.bufs⟩) (s0:=s) List.mem_cons_self (fun E E'=>by simp [SV.den,SC.den]) rfl (by simp) (by simp) rfl rfl rfl rfl rfl rfl rfl (set_atsT (enc:=eI) hk1) rfl rfl
   have k7:kind=7:=by omega
   subst k7
   have hg:0≤reg∧reg<4:=f3 (by decide) (by decide)
   have hnr:=nth_r4 (xs:=s.regs) (k:=0) hg
   have hcn:=f6 rfl
   have hwc:IntKind.i64.wrap (s.places.getD 0 0+cnt)=s.places.getD 0 0+cnt:=wrI (by omega)
   have hwd:IntKind.i64.wrap (s.places.getD 0 0+cnt+1)=s.places.getD 0 0+(1+cnt):=by rw [wrI (by omega)];omega
   have hgs:(s.places.set 0 (s.places.getD 0 0+cnt)).getD 0 0=s.places.getD 0 0+cnt:=by rw [getD_setE,if_pos ⟨rfl,hk1⟩]
   have hk2:0<(s.places.set 0 (s.places.getD 0 0+cnt)).length:=by simpa using hk1
   simp (maxSteps:=2000000) only [go_sem,↓reduceIte,Nat.reduceLT,Nat.reduceLeDiff,Nat.reduceAdd,Nat.reduceSub,Nat.reduceMul,Nat.reduceEqDiff,reduceCtorEq,Int.reduceToNat,Int.reduceEq,Int.reduceBEq,Int.reduceBNe,Int.reduceLT,Int.reduceLE,Int.reduceNeg,Int.reduceAdd,Int.reduceSub,Int.reduceMul,Int.reduceGE,Int.reduceGT,endO,ir40_44,dhe,Ins.enc,hci]
   refine And.intro (by omega) (And.intro (by omega) (And.intro ⟨_,Try.func80,by kernel_rfl,by kernel_rfl⟩ ?_))
   refine call_inline (c:=ir80) (rs:=rs80) (nt:=nt80) 1000 (mkTab_ok _ _) Try.func80 rfl (by kernel_rfl) (by kernel_rfl) rfl (by simp [okVs,SV.okN,SC.okL,SC.okN]) (of_decide_eq_true rfl) (fun E0 a0 ht0=>?_)
   simp (maxSteps:=2000000) only [ir80,nt80,rs80,go_sem,↓reduceIte,Nat.reduceLT,Nat.reduceLeDiff,Nat.reduceAdd,Nat.reduceSub,Nat.reduceMul,Nat.reduceEqDiff,reduceCtorEq,Int.reduceToNat,Int.reduceEq,Int.reduceBEq,Int.reduceBNe,Int.reduceLT,Int.reduceLE,Int.reduceNeg,Int.reduceAdd,Int.reduceSub,Int.reduceMul,Int.reduceGE,Int.reduceGT,endO,mkI_rs]
   refine draw_vc (by kernel_rfl) (mkTab_ok _ _) (of_decide_eq_true rfl) (of_decide_eq_true rfl) ?_
   repeat (first | simp (maxSteps:=2000000) only [go_sem,↓reduceIte,Nat.reduceLT,Nat.reduceLeDiff,Nat.reduceAdd,Nat.reduceSub,Nat.reduceMul,Nat.reduceEqDiff,reduceCtorEq,Int.reduceToNat,Int.reduceEq,Int.reduceBEq,Int.reduceBNe,Int.reduceLT,Int.reduceLE,Int.reduceNeg,Int.reduceAdd,Int.reduceSub,Int.reduceMul,Int.reduceGE,Int.reduceGT,endO] | rw [dr_cons])
   refine dcall_intro (reg_cr (regs:=s.regs) rfl rfl hkr hg rfl rfl rfl (fun _ _=>rfl) ⟨rfl,rfl,rfl,rfl,rfl,rfl,fun _=>rfl⟩ fun _=>⟨rfl,rfl,rfl⟩) rfl trivial trivial (fun _ hk=>by cases hk) ?_
   repeat (first | simp (maxSteps:=2000000) only [go_sem,↓reduceIte,Nat.reduceLT,Nat.reduceLeDiff,Nat.reduceAdd,Nat.reduceSub,Nat.reduceMul,Nat.reduceEqDiff,reduceCtorEq,Int.reduceToNat,Int.reduceEq,Int.reduceBEq,Int.reduceBNe,Int.reduceLT,Int.reduceLE,Int.reduceNeg,Int.reduceAdd,Int.reduceSub,Int.reduceMul,Int.reduceGE,Int.reduceGT,endO,hnr] | rw [dr_cons])
   repeat (with_reducible refine And.intro (by first | omega | (simp only [maxLen];omega) | exact Or.inl trivial | exact Or.inr trivial | exact ⟨Or.inl trivial,Or.inr trivial⟩ | exact trivial) ?_)
   refine both (fun hq=>?_) (fun hq=>?_)
   ·have hq:(s.regs.getD 0 r40).get reg=val:=by simpa using hq
    refine draw_vc (by kernel_rfl) (mkTab_ok _ _) (of_decide_eq_true rfl) (of_decide_eq_true rfl) ?_
    repeat (first | simp (maxSteps:=2000000) only [go_sem,↓reduceIte,Nat.reduceLT,Nat.reduceLeDiff,Nat.reduceAdd,Nat.reduceSub,Nat.reduceMul,Nat.reduceEqDiff,reduceCtorEq,Int.reduceToNat,Int.reduceEq,Int.reduceBEq,Int.reduceBNe,Int.reduceLT,Int.reduceLE,Int.reduceNeg,Int.reduceAdd,Int.reduceSub,Int.reduceMul,Int.reduceGE,Int.reduceGT,endO,hwc] | rw [dr_cons])
    repeat (with_reducible refine And.intro (by first | omega | (simp only [maxLen];omega) | exact Or.inl trivial | exact Or.inr trivial | exact ⟨Or.inl trivial,Or.inr trivial⟩ | exact trivial) ?_)
    refine retI ht0 _ rfl (of_decide_eq_true rfl) (by simp [SV.okN,SC.okL,SC.okN,ok1L]) ?_
    simp (maxSteps:=2000000) only [go_sem,↓reduceIte,Nat.reduceLT,Nat.reduceLeDiff,Nat.reduceAdd,Nat.reduceSub,Nat.reduceMul,Nat.reduceEqDiff,reduceCtorEq,Int.reduceToNat,Int.reduceEq,Int.reduceBEq,Int.reduceBNe,Int.reduceLT,Int.reduceLE,Int.reduceNeg,Int.reduceAdd,Int.reduceSub,Int.reduceMul,Int.reduceGE,Int.reduceGT,endO]
    rw [show setAt 0 (ats eI s.places 0) [.v (.int .i64 (s.places.getD 0 0+cnt))]=ats eI (s.places.set 0 (s.places.getD 0 0+cnt)) 0 from set_atsT (enc:=eI) hk1]
    refine draw_vc (by kernel_rfl) (mkTab_ok _ _) (of_decide_eq_true rfl) (of_decide_eq_true rfl) ?_
    repeat (first | simp (maxSteps:=2000000) only [go_sem,↓reduceIte,Nat.reduceLT,Nat.reduceLeDiff,Nat.reduceAdd,Nat.reduceSub,Nat.reduceMul,Nat.reduceEqDiff,reduceCtorEq,Int.reduceToNat,Int.reduceEq,Int.reduceBEq,Int.reduceBNe,Int.reduceLT,Int.reduceLE,Int.reduceNeg,Int.reduceAdd,Int.reduceSub,Int.reduceMul,Int.reduceGE,Int.reduceGT,endO,hgs,hwd] | rw [dr_cons])
    repeat (with_reducible refine And.intro (by first | omega | (simp only [maxLen];omega) | exact Or.inl trivial | exact Or.inr trivial | exact ⟨Or.inl trivial,Or.inr trivial⟩ | exact trivial) ?_)
    have hsx:stepS o s 0 ⟨7,reg,ad,val,frm,old,cnt⟩=some (⟨s.words,s.regs,s.places,s.bufs⟩,1+cnt):=by rw [st7,if_pos hq]
    rw [← hR,← hW,hst,hsx]
    exact retTurnP (s:=⟨s.words,s.regs,_,s.bufs⟩) (s0:=s) List.mem_cons_self (fun E E'=>by simp [SV.den,SC.den]) rfl rfl (by simp) rfl rfl rfl rfl rfl rfl rfl ((set_atsT (enc:=eI) hk2).trans (by rw [List.set_set])) rfl rfl
   ·have hq:¬ (s.regs.getD 0 r40).get reg=val:=by simpa using hq
    refine retI ht0 _ rfl (of_decide_eq_true rfl) (by simp [SV.okN,SC.okL,SC.okN,ok1L]) ?_
    simp (maxSteps:=2000000) only [go_sem,↓reduceIte,Nat.reduceLT,Nat.reduceLeDiff,Nat.reduceAdd,Nat.reduceSub,Nat.reduceMul,Nat.reduceEqDiff,reduceCtorEq,Int.reduceToNat,Int.reduceEq,Int.reduceBEq,Int.reduceBNe,Int.reduceLT,Int.reduceLE,Int.reduceNeg,Int.reduceAdd,Int.reduceSub,Int.reduceMul,Int.reduceGE,Int.reduceGT,endO]
    refine draw_vc (by kernel_rfl) (mkTab_ok _ _) (of_decide_eq_true rfl) (of_decide_eq_true rfl) ?_
    repeat (first | simp (maxSteps:=2000000) only [go_sem,↓reduceIte,Nat.reduceLT,Nat.reduceLeDiff,Nat.reduceAdd,Nat.reduceSub,Nat.reduceMul,Nat.reduceEqDiff,reduceCtorEq,Int.reduceToNat,Int.reduceEq,Int.reduceBEq,Int.reduceBNe,Int.reduceLT,Int.reduceLE,Int.reduceNeg,Int.reduceAdd,Int.reduceSub,Int.reduceMul,Int.reduceGE,Int.reduceGT,endO,hwp] | rw [dr_cons])
    repeat (with_reducible refine And.intro (by first | omega | (simp only [maxLen];omega) | exact Or.inl trivial | exact Or.inr trivial | exact ⟨Or.inl trivial,Or.inr trivial⟩ | exact trivial) ?_)
    have hsx:stepS o s 0 ⟨7,reg,ad,val,frm,old,cnt⟩=some (⟨s.words,s.regs,s.places,s.bufs⟩,1):=by rw [st7,if_neg hq]
    rw [← hR,← hW,hst,hsx]
    exact retTurnP (s:=⟨s.words,s.regs,_,s.bufs⟩) (s0:=s) List.mem_cons_self (fun E E'=>by simp [SV.den,SC.den]) rfl rfl (by simp) rfl rfl rfl rfl rfl rfl rfl (set_atsT (enc:=eI) hk1) rfl rfl
 ·have hwi:∀ w',Calls Try.prog 72 #[.int .i64 thr,.int .i64 (L.thr.length:Nat)] w' (RetV w' (.bool false)):=fun w'=>by
   have:=withinL w' thr L.thr.length
   rw [decide_eq_false hk] at this
   exact this
  have hno2:turnS L o s ⟨thr,out,addr⟩=(s,false):=by unfold turnS;rw [if_neg hk]
  simp (maxSteps:=2000000) only [ir40,nt40,rs40,go_sem,↓reduceIte,Nat.reduceLT,Nat.reduceLeDiff,Nat.reduceAdd,Nat.reduceSub,Nat.reduceMul,Nat.reduceEqDiff,reduceCtorEq,Int.reduceToNat,Int.reduceEq,Int.reduceBEq,Int.reduceBNe,Int.reduceLT,Int.reduceLE,Int.reduceNeg,Int.reduceAdd,Int.reduceSub,Int.reduceMul,Int.reduceGE,Int.reduceGT,endO,ltA,ltS,Tn.enc,stP,stO,stC,bfC]
  refine callV (.c (.v (.bool false))) _ (fun E=>rfl) (fun E a w' _=>hwi w') ?_
  simp (maxSteps:=2000000) only [go_sem,↓reduceIte,Nat.reduceLT,Nat.reduceLeDiff,Nat.reduceAdd,Nat.reduceSub,Nat.reduceMul,Nat.reduceEqDiff,reduceCtorEq,Int.reduceToNat,Int.reduceEq,Int.reduceBEq,Int.reduceBNe,Int.reduceLT,Int.reduceLE,Int.reduceNeg,Int.reduceAdd,Int.reduceSub,Int.reduceMul,Int.reduceGE,Int.reduceGT,endO]
  exact hno hno2 List.mem_cons_self rfl rfl rfl rfl rfl rfl
end Go.Proofs.Ytmcpdafmkkjlcaa.Z
namespace Go.Proofs.Ytmcpdafmkkjlcaa.Z
open Go Go.RowKit
theorem iturn_own (w:World) (E:Env) (L:Lt) (o:Int) (s:LS) (t:Tn) (N:Nat) (hL:checkB L=true) (hwf:WfS L o N s) (hN:N≤100000) (h:Handed w E 11 (stP s) (ltA 0 L)) :
  Calls Try.prog 40 (([.agg (ltS 0),.c (.v (.int .i64 o)),.c (.ptr (5,0,0) 0),.agg (t.enc.map .v)]:List SV).map (SV.den E)).toArray w (EffR w E 11 (takesO E (stP s)) (.c (.bo (turnS L o s t).2)) 1 fun b=>killO [10]++stE b (turnS L o s t).1):=by
 by_cases hz:t.thr=0
 ·exact iturn_zero w E L o s t N hL hwf hN hz h
 ·exact iturn_pos w E L o s t N hL hwf hN hz h
theorem runS_app (L:Lt) (o:Int) (t:Tn):∀ (l:List Tn) (s:LS) (n:Nat),runS L o s n (l++[t])=((turnS L o (runS L o s n l).1 t).1,if (turnS L o (runS L o s n l).1 t).2=true then (runS L o s n l).2+1 else (runS L o s n l).2)
 | [],s,n=>rfl
 | x :: l,s,n=>by simp only [List.cons_append,runS];exact runS_app L o t l _ _
def runT (L:Lt) (o:Int) (ts:List Tn) (i:Nat):LS×Nat:=runS L o (beginS L) 0 (ts.take i)
theorem runT_succ {L:Lt} {o:Int} {ts:List Tn} {i:Nat} (h:i<ts.length):runT L o ts (i+1)=((turnS L o (runT L o ts i).1 (ts.getD i tn0)).1,if (turnS L o (runT L o ts i).1 (ts.getD i tn0)).2=true then (runT L o ts i).2+1 else (runT L o ts i).2):=by
 unfold runT
 rw [List.take_succ_eq_append_getElem h,runS_app,List.getD_eq_getElem?_getD,List.getElem?_eq_getElem h];rfl
theorem runT_wf {L:Lt} {o:Int} {ts:List Tn} (hL:checkB L=true):∀ i,i≤ts.length→WfS L o i (runT L o ts i).1∧(runT L o ts i).2≤i
 | 0,_=>⟨begin_wf o,Nat.le_refl _⟩
 | i+1,h=>by
  obtain ⟨h1,h2⟩:=runT_wf (o:=o) (ts:=ts) hL i (by omega)
  rw [runT_succ (L:=L) (o:=o) (ts:=ts) (show i<ts.length by omega)]
  refine ⟨turn_wf hL h1 _,?_⟩
  simp only
  split <;> omega
theorem stP_leE {p:Nat→Prop} {τ:Nat→Nat} {own:Own} {s:LS} (n:Nat) (hp:∀ i,i<11→p i) (hτ:∀ i,i<10→τ i=i) (hn:τ 10=n) (h5:look own 5=some (.one (.bk (stC 6 s) 32))) (h6:look own 6=some (.one (.ar s.words.length 1 (ats eI s.words 0) 3))) (h7:look own 7=some (.one (.ar s.regs.length 4 (ats R4.enc s.regs r40) 68)))
  (h8:look own 8=some (.one (.ar s.places.length 1 (ats eI s.places 0) 3))) (h9:look own 9=some (.one (.ar s.bufs.length 1 (bfC n s) 86))) (h10:look own n=some (.fam s.bufs.length (bfO s))):OwnLe p (idσ τ) own (stP s):=by
 have t5:=hτ 5 (by decide);have t6:=hτ 6 (by decide);have t7:=hτ 7 (by decide);have t8:=hτ 8 (by decide);have t9:=hτ 9 (by decide)
 have p5:=hp 5 (by decide);have p6:=hp 6 (by decide);have p7:=hp 7 (by decide);have p8:=hp 8 (by decide);have p9:=hp 9 (by decide);have p10:=hp 10 (by decide)
 refine ⟨⟨p5,?_⟩,⟨p6,?_⟩,⟨p7,?_⟩,⟨p8,?_⟩,⟨p9,?_⟩,⟨p10,fun k hk=>?_⟩,trivial⟩
 ·simp only [idσ,t5,atN,h5,Fm.get,and_self,if_true]
  exact ⟨by simp [stC,SC.renL,SC.ren,idσ,t6,t7,t8,t9],rfl,by simp [stC,SC.okL,SC.okN,p6,p7,p8,p9]⟩
 ·simp only [idσ,Nat.reduceAdd,t6,atN,h6,Fm.get,and_self,if_true];exact arLe_same
 ·simp only [idσ,Nat.reduceAdd,t7,atN,h7,Fm.get,and_self,if_true];exact arLe_same
 ·simp only [idσ,Nat.reduceAdd,t8,atN,h8,Fm.get,and_self,if_true];exact arLe_same
 ·simp only [idσ,Nat.reduceAdd,t9,atN,h9,Fm.get,and_self,if_true]
  exact ⟨Nat.le_refl _,rfl,rfl,fun e he=>⟨by simp [bfC,SC.renL,SC.ren,idσ,hn],by simp [bfC,SC.okL,SC.okN,p10]⟩⟩
 ·simp only [idσ,Nat.reduceAdd,hn,atN,h10,Fm.get,hk,and_self,if_true];exact arLe_same
theorem st_ret {P:Program} {A:List Nat} {w:World} {rs:List RS} {s:LS} {S:St} {T:Nat→SV} {v:SV} (hv:∀ b,v=(T b).ren (fromσ b fun j=>j+6)∧(T b).okN (NewIds b 5))
  (h6:look S.own 6=some (.one (.ar s.words.length 1 (ats eI s.words 0) 3))) (h7:look S.own 7=some (.one (.ar s.regs.length 4 (ats R4.enc s.regs r40) 68))) (h8:look S.own 8=some (.one (.ar s.places.length 1 (ats eI s.places 0) 3)))
  (h9:look S.own 9=some (.one (.ar s.bufs.length 1 (bfC 10 s) 86))) (h10:look S.own 10=some (.fam s.bufs.length (bfO s))):RetVC (mkC P A w rs (RetN w 5 T (fun b=>stO b s))) v S:=by
 refine retN (fun j=>j+6) hv (fun b=>?_) (fun b=>?_)
 ·refine ⟨⟨⟨by omega,by omega⟩,?_⟩,⟨⟨by omega,by omega⟩,?_⟩,⟨⟨by omega,by omega⟩,?_⟩,⟨⟨by omega,by omega⟩,?_⟩,⟨⟨by omega,by omega⟩,fun k hk=>?_⟩,trivial⟩
  ·simp only [fromσ,Nat.sub_self,Nat.zero_add,atN,h6,Fm.get,and_self,if_true];exact arLe_same
  ·simp only [fromσ,Nat.add_sub_cancel_left,Nat.reduceAdd,atN,h7,Fm.get,and_self,if_true];exact arLe_same
  ·simp only [fromσ,Nat.add_sub_cancel_left,Nat.reduceAdd,atN,h8,Fm.get,and_self,if_true];exact arLe_same
  ·simp only [fromσ,Nat.add_sub_cancel_left,Nat.reduceAdd,atN,h9,Fm.get,and_self,if_true]
   exact ⟨Nat.le_refl _,rfl,rfl,fun e he=>⟨by simp [bfC,SC.renL,SC.ren,fromσ],by simp [bfC,SC.okL,SC.okN,NewIds]⟩⟩
  ·simp only [fromσ,Nat.add_sub_cancel_left,Nat.reduceAdd,atN,h10,Fm.get,hk,and_self,if_true];exact arLe_same
 ·exact injN_from fun x hx y hy e=>by
   simp [stO,keysL] at hx hy
   omega
def ir11:IR:=(.seq (.ops [⟨(some 3),(.box 25 (.t 0)),none⟩,⟨(some 6),(.new 32 [(.v (.slice none 0 0)),(.v (.slice none 0 0)),(.v (.slice none 0 0)),(.v (.slice none 0 0))]),none⟩,⟨(some 7),(.mv (.k (.c (.v (.int .i64 0))))),none⟩,⟨(some 8),(.mv (.k (.c (.v (.int .i64 0))))),none⟩]) (.kill [0,4,5,7,8,9,10,11] (.seq (.ops [⟨(some 16),(.ld true 2 (.t 3)),none⟩,⟨(some 17),(.call 19 [(.t 16)]),none⟩,⟨(some 15),(.mv (.t 17)),none⟩,⟨(some 18),(.ext 0 (.t 15)),none⟩,⟨(some 19),(.ext 1 (.t 15)),none⟩,⟨(some 9),(.new 32 [(.v (.slice none 0 0)),(.v (.slice none 0 0)),(.v (.slice none 0 0)),(.v (.slice none 0 0))]),none⟩,⟨none,(.st 4 (.t 9) (.t 18)),none⟩,⟨(some 10),(.mv (.t 19)),none⟩]) (.kill [15,16,17,18,19] (.seq (.seq (.ops [⟨(some 20),(.mv (.t 10)),none⟩,⟨(some 21),(.bin .neq (.t 20) (.k (.c (.v (.int .i64 0))))),none⟩]) (.kill [20] (.cond (.t 21) (.seq (.ops [⟨(some 22),(.build [(.v (.slice none 0 0)),(.v (.slice none 0 0)),(.v (.slice none 0 0)),(.v (.slice none 0 0))] []),none⟩,⟨(some 23),(.mv (.t 10)),none⟩,⟨none,(.st 4 (.t 6) (.t 22)),none⟩,⟨(some 7),(.mv (.k (.c (.v (.int .i64 0))))),none⟩,⟨(some 8),(.mv (.t 23)),none⟩]) (.kill [1,2,3,9,10,21,22,23] .ret)) .skip))) (.kill [7,8,10,21] (.seq (.seq (.ops [⟨(some 24),(.mv (.t 2)),none⟩,⟨(some 25),(.len (.t 24)),none⟩,⟨(some 26),(.bin .gtr (.t 25) (.k (.c (.v (.int .i64 4096))))),none⟩]) (.kill [24,25] (.cond (.t 26) (.seq (.ops [⟨(some 27),(.build [(.v (.slice none 0 0)),(.v (.slice none 0 0)),(.v (.slice none 0 0)),(.v (.slice none 0 0))] []),none⟩,⟨none,(.st 4 (.t 6) (.t 27)),none⟩,⟨(some 7),(.mv (.k (.c (.v (.int .i64 0))))),none⟩,⟨(some 8),(.mv (.k (.c (.v (.int .i64 3))))),none⟩]) (.kill [1,2,3,9,26,27] .ret)) .skip))) (.kill [7,8,26] (.seq (.seq (.ops [⟨(some 28),(.ld true 2 (.t 3)),none⟩,⟨(some 29),(.mv (.t 1)),none⟩,⟨(some 30),(.call 39 [(.t 28),(.t 29)]),none⟩,⟨(some 11),(.mv (.t 30)),none⟩]) (.kill [28,29,30] (.seq (.ops [⟨(some 31),(.mv (.t 11)),none⟩,⟨(some 32),(.bin .neq (.t 31) (.k (.c (.v (.int .i64 0))))),none⟩]) (.kill [31] (.cond (.t 32) (.seq (.ops [⟨(some 33),(.build [(.v (.slice none 0 0)),(.v (.slice none 0 0)),(.v (.slice none 0 0)),(.v (.slice none 0 0))] []),none⟩,⟨(some 34),(.mv (.t 11)),none⟩,⟨none,(.st 4 (.t 6) (.t 33)),none⟩,⟨(some 7),(.mv (.k (.c (.v (.int .i64 0))))),none⟩,⟨(some 8),(.mv (.t 34)),none⟩]) (.kill [1,2,3,9,11,32,33,34] .ret)) .skip))))) (.kill [7,8,11,32] (.seq (.ops [⟨(some 12),(.mv (.k (.c (.v (.int .i64 0))))),none⟩]) (.seq (.seq (.ops [⟨(some 35),(.mv (.t 2)),none⟩,⟨(some 36),(.len (.t 35)),none⟩,⟨(some 37),(.mv (.k (.c (.v (.int .i64 0))))),none⟩]) (.kill [2] (.blk 0 (.loop (.seq (.ops [⟨(some 38),(.bin .lss (.t 37) (.t 36)),none⟩]) (.kill [14,39,40,41,42,43,44,45,46,47] (.seq (.cond (.t 38) .skip (.exit 0)) (.kill [38] (.seq (.blk 1 (.seq (.ops [⟨(some 39),(.ia 3 (.t 35) (.t 37)),none⟩,⟨(some 40),(.ld true 3 (.t 39)),none⟩,⟨(some 14),(.new 44 [(.v (.int .i64 0)),(.v (.bool false)),(.v (.int .i64 0))]),none⟩,⟨none,(.st 3 (.t 14) (.t 40)),none⟩]) (.kill [39,40] (.seq (.ops [⟨(some 41),(.ld true 2 (.t 3)),none⟩,⟨(some 42),(.mv (.t 1)),none⟩,⟨(some 43),(.ld true 3 (.t 14)),none⟩,⟨(some 44),(.call 40 [(.t 41),(.t 42),(.t 9),(.t 43)]),none⟩]) (.kill [14,41,42,43] (.cond (.t 44) (.ops [⟨(some 45),(.mv (.t 12)),none⟩,⟨(some 46),(.bin .add (.t 45) (.k (.c (.v (.int .i64 1))))),none⟩,⟨(some 12),(.mv (.t 46)),none⟩]) .skip)))))) (.kill [14,39,40,41,42,43,44,45,46] (.ops [⟨(some 47),(.bin .add (.t 37) (.k (.c (.v (.int .i64 1))))),none⟩,⟨(some 37),(.mv (.t 47)),none⟩]))))))))))) (.kill [1,3,14,35,36,37,38,39,40,41,42,43,44,45,46,47] (.seq (.ops [⟨(some 48),(.ld true 4 (.t 9)),none⟩,⟨(some 49),(.mv (.t 12)),none⟩,⟨none,(.st 4 (.t 6) (.t 48)),none⟩,⟨(some 7),(.mv (.t 49)),none⟩,⟨(some 8),(.mv (.k (.c (.v (.int .i64 0))))),none⟩]) (.kill [9,12,48,49] .ret)))))))))))))))
def rs11:List RS:=[(.cell 6 true 4),(.t 7),(.t 8)]
def nt11:Nat:=50
def rnT (s:LS) (n:Nat) (b:Nat):SV:=.tup [(true,stC b s),(false,[.v (.int .i64 n)]),(false,[.v (.int .i64 0)])]
set_option maxRecDepth 100000 in
set_option maxHeartbeats 1000000 in
theorem run_calls (w:World) (v v' : Value) (L:Lt) (o:Int) (ts:List Tn) (hL:checkB L=true) (hok:LtOk L) (ho:1≤o∧o≤3) (hlen:ts.length≤4096) (h:LtR w v L) (h' : Arr w Tn.enc 3 v' ts):Calls Try.prog 11 #[v,.int .i64 o,v'] w (RetN w 5 (rnT (runT L o ts ts.length).1 (runT L o ts ts.length).2) (fun b=>stO b (runT L o ts ts.length).1)):=by
 refine enterLtT (A:=[]) (c:=ir11) (rs:=rs11) (nt:=nt11) h h' [.agg (ltS 0),.c (.v (.int .i64 o)),.c (.xv (3,0,0))] _ Try.func11 rfl (by kernel_rfl) (by kernel_rfl) rfl (fun E' h0 h1=>by simp only [List.map_cons,List.map_nil,h0];simp [SV.den,SC.den,h1]) (of_decide_eq_true rfl) ?_
 generalize hR:RetN w 5 (rnT (runT L o ts ts.length).1 (runT L o ts ts.length).2) (fun b=>stO b (runT L o ts ts.length).1)=R
 have dl:decide ((ts.length:Int)>4096)=false:=decide_eq_false (by omega)
 simp (maxSteps:=2000000) only [ir11,nt11,rs11,go_sem,↓reduceIte,Nat.reduceLT,Nat.reduceLeDiff,Nat.reduceAdd,Nat.reduceSub,Nat.reduceMul,Nat.reduceEqDiff,reduceCtorEq,Int.reduceToNat,Int.reduceEq,Int.reduceBEq,Int.reduceBNe,Int.reduceLT,Int.reduceLE,Int.reduceNeg,Int.reduceAdd,Int.reduceSub,Int.reduceMul,Int.reduceGE,Int.reduceGT,endO,ltA,ltS,dl]
 refine callN 5 (bgT L) (fun b=>stO b (beginS L)) (fun E a w' hs=>begin_calls w' _ L hL hok (ltL_at hs rfl rfl rfl)) ?_
 simp (maxSteps:=2000000) only [go_sem,↓reduceIte,Nat.reduceLT,Nat.reduceLeDiff,Nat.reduceAdd,Nat.reduceSub,Nat.reduceMul,Nat.reduceEqDiff,reduceCtorEq,Int.reduceToNat,Int.reduceEq,Int.reduceBEq,Int.reduceBNe,Int.reduceLT,Int.reduceLE,Int.reduceNeg,Int.reduceAdd,Int.reduceSub,Int.reduceMul,Int.reduceGE,Int.reduceGT,endO,bgT,stO,stC,dl]
 refine callV (.c (.v (.int .i64 0))) _ (fun E=>rfl) (fun E a w' hs=>by
  have:=look_calls w' _ L o hok (ltL_at hs rfl rfl rfl)
  rw [if_pos hL,if_pos ho] at this
  exact this) ?_
 simp (maxSteps:=2000000) only [go_sem,↓reduceIte,Nat.reduceLT,Nat.reduceLeDiff,Nat.reduceAdd,Nat.reduceSub,Nat.reduceMul,Nat.reduceEqDiff,reduceCtorEq,Int.reduceToNat,Int.reduceEq,Int.reduceBEq,Int.reduceBNe,Int.reduceLT,Int.reduceLE,Int.reduceNeg,Int.reduceAdd,Int.reduceSub,Int.reduceMul,Int.reduceGE,Int.reduceGT,endO]
 refine loopI (ι:={ i:Nat // i≤ts.length }) (fun i=>⟨50,[(1,.c (.v (.int .i64 o))),(3,.c (.ptr (4,0,0) 0)),(6,.c (.ptr (11,0,0) 0)),(9,.c (.ptr (5,0,0) 0)),(12,.c (.v (.int .i64 ((runT L o ts i.1).2:Nat)))),(35,.c (.xv (3,0,0))),(36,.c (.v (.int .i64 ts.length))),(37,.c (.v (.int .i64 (i.1:Nat))))],
  stP (runT L o ts i.1).1++[(4,.one (.bk [.xv (0,0,0),.xv (1,0,0)] 25)),(11,.one (.bk [.v (.slice none 0 0),.v (.slice none 0 0),.v (.slice none 0 0),.v (.slice none 0 0)] 32))],[(0,.one (arrOf eI 1 L.words 0)),(1,.one (nestF 2 L.thr.length)),(2,.fam L.thr.length fun k=>arrOf Ins.enc 7 (L.thr.getD k []) in0),(3,.one (arrOf Tn.enc 3 ts tn0))],[],12⟩)
  (fun i=>ts.length - i.1) ⟨0,by omega⟩ ?_ ?_
 ·refine le_ren (fun i=>if i=5 then 11 else if i=11 then 5 else i) rfl rfl (by simp [TmpsLe,look,SV.ren,SC.ren,idσ,SV.okN,SC.okN,runT,runS]) ?_ (by simp +contextual [ArrsLe,ArrLeO,atN,look,Fm.get,idσ,arrLe_of,arrLe_0,arrLe_nest]) rfl
  simp +contextual [stP,stO,stC,OwnLe,BlkLeO,BlkLe,atN,look,Fm.get,idσ,SC.renL,SC.ren,SC.okL,SC.okN,renL_v,okL_v,ren_ats,ok_ats,bfC,bfO,runT,runS]
 rintro ⟨i,hi⟩
 obtain ⟨hwf,hn⟩:=runT_wf (o:=o) hL i hi
 have hsu:=fun h=>runT_succ (L:=L) (o:=o) (ts:=ts) (i:=i) h
 simp (maxSteps:=2000000) only [go_sem,↓reduceIte,Nat.reduceLT,Nat.reduceLeDiff,Nat.reduceAdd,Nat.reduceSub,Nat.reduceMul,Nat.reduceEqDiff,reduceCtorEq,Int.reduceToNat,Int.reduceEq,Int.reduceBEq,Int.reduceBNe,Int.reduceLT,Int.reduceLE,Int.reduceNeg,Int.reduceAdd,Int.reduceSub,Int.reduceMul,Int.reduceGE,Int.reduceGT,endO,stP,stO,stC,Tn.enc]
 refine both (fun hlt=>?_) (fun hge=>?_)
 ·rw [decide_eq_true_eq] at hlt
  have hlt:i<ts.length:=by omega
  have hsu:=hsu hlt
  refine And.intro hlt (And.intro hlt ?_)
  have hs1:(runT L o ts (i+1)).1=(turnS L o (runT L o ts i).1 (ts.getD i tn0)).1:=by rw [hsu]
  have hs2:(runT L o ts (i+1)).2=if (turnS L o (runT L o ts i).1 (ts.getD i tn0)).2=true then (runT L o ts i).2+1 else (runT L o ts i).2:=by rw [hsu]
  refine call_intro (cr_own 11 (stP (runT L o ts i).1) (ltA 0 L) (show 11≤13 by decide) (stP_plain _) (stP_le (fun i h=>h) (fun _ _=>rfl) rfl rfl rfl rfl rfl rfl) (by simp +contextual [ltA,ArrsLe,ArrLeO,atN,look,Fm.get,idσ,arrLe_of,arrLe_0,arrLe_nest]) stE_key (fun E w h=>iturn_own w E L o _ (ts.getD i tn0) i hL hwf (by omega) h)) (lt11 (show 11≤13 by decide)) ?_
  generalize turnS L o (runT L o ts i).1 (ts.getD i tn0)=q at hs1 hs2 ⊢
  simp (maxSteps:=2000000) only [go_sem,↓reduceIte,Nat.reduceLT,Nat.reduceLeDiff,Nat.reduceAdd,Nat.reduceSub,Nat.reduceMul,Nat.reduceEqDiff,reduceCtorEq,Int.reduceToNat,Int.reduceEq,Int.reduceBEq,Int.reduceBNe,Int.reduceLT,Int.reduceLE,Int.reduceNeg,Int.reduceAdd,Int.reduceSub,Int.reduceMul,Int.reduceGE,Int.reduceGT,endO,killO,stE,stC]
  refine both (fun hd=>?_) (fun hd=>?_)
  ·rw [if_pos hd] at hs2
   rw [wr_succ (by omega),wr_succ (by omega)]
   refine backI ⟨i+1,by omega⟩ (by simp only;omega) (le_ren (fun i=>if i=10 then 13 else i) rfl rfl (by simp [TmpsLe,look,SV.ren,SC.ren,idσ,SV.okN,SC.okN,hs2]) ?_ (by simp +contextual [ArrsLe,ArrLeO,atN,look,Fm.get,idσ,arrLe_of,arrLe_0,arrLe_nest]) rfl)
   show OwnLe (· < 12) _ _ (stP (runT L o ts (i+1)).1++[(4,.one (.bk [.xv (0,0,0),.xv (1,0,0)] 25)),(11,.one (.bk [.v (.slice none 0 0),.v (.slice none 0 0),.v (.slice none 0 0),.v (.slice none 0 0)] 32))])
   rw [hs1]
   exact ownLe_app (stP_leE 13 (fun i h=>Nat.lt_succ_of_lt h) (fun i h=>by simp;omega) rfl rfl rfl rfl rfl rfl rfl) (by simp [OwnLe,BlkLeO,BlkLe,atN,look,Fm.get,idσ,SC.renL,SC.ren,SC.okL,SC.okN])
  ·rw [if_neg (by simp [hd])] at hs2
   rw [wr_succ (by omega)]
   refine backI ⟨i+1,by omega⟩ (by simp only;omega) (le_ren (fun i=>if i=10 then 13 else i) rfl rfl (by simp [TmpsLe,look,SV.ren,SC.ren,idσ,SV.okN,SC.okN,hs2]) ?_ (by simp +contextual [ArrsLe,ArrLeO,atN,look,Fm.get,idσ,arrLe_of,arrLe_0,arrLe_nest]) rfl)
   show OwnLe (· < 12) _ _ (stP (runT L o ts (i+1)).1++[(4,.one (.bk [.xv (0,0,0),.xv (1,0,0)] 25)),(11,.one (.bk [.v (.slice none 0 0),.v (.slice none 0 0),.v (.slice none 0 0),.v (.slice none 0 0)] 32))])
   rw [hs1]
   exact ownLe_app (stP_leE 13 (fun i h=>Nat.lt_succ_of_lt h) (fun i h=>by simp;omega) rfl rfl rfl rfl rfl rfl rfl) (by simp [OwnLe,BlkLeO,BlkLe,atN,look,Fm.get,idσ,SC.renL,SC.ren,SC.okL,SC.okN])
 ·rw [decide_eq_false_iff_not] at hge
  have hin:i=ts.length:=by omega
  subst hin
  rw [← hR]
  exact st_ret (fun b=>by simp [rnT,stC,SV.ren,SC.ren,SC.renL,ren1L,ren1,fromσ,SV.okN,SC.okN,SC.okL,ok1L,NewIds]) rfl rfl rfl rfl rfl
end Go.Proofs.Ytmcpdafmkkjlcaa.Z
namespace Go.Proofs.Ytmcpdafmkkjlcaa.Z
open Go Go.RowKit
theorem enterLtSt {P:Program} {A:List Nat} {f nt:Nat} {fn:Func} {x:Code} {c:IR} {w:World} {rs:List RS} {R:Ending→World→Prop} {v v' : Value} {L:Lt} {s:LS} (h:LtR w v L) (h' : StR w v' s) (sc:List SV) (args:Array Value)
  (hf:P.funcs[f]? = some fn) (hb:fn.body=some x) (hc:compC (mkTab P A) x=some c.strip) (hrs:compR (mkTab P A).T fn.results.toList=some rs) (hn:fn.ntmps=nt)
  (hargs:∀ E',(SV.agg (ltS 0)).den E' = v→(SV.agg (stS 3)).den E' = v'→(sc.map (SV.den E')).toArray=args) (hnt:sc.length≤nt)
  (hex:exec (mkC P A w rs R) 1000 [.code c] ⟨nt,enumT 0 sc,[],ltA 0 L++stA 3 s,[],8⟩):Calls P f args w R:=by
 obtain ⟨vw,vt,rfl,h1,us,h4,h5,h6⟩:=h
 obtain ⟨vw',vr',vp',vb',rfl,h1',h2',h3',us',h4',h5',h6'⟩:=h'
 refine enterL [fun _=>vw,fun _=>vt,fun k=>us.getD k nest0,fun _=>vw',fun _=>vr',fun _=>vp',fun _=>vb',fun k=>us'.getD k nest0] ⟨fun _=>arr_one h1,fun _=>arr_one h4,nest_one h5 h6,fun _=>arr_one h1',fun _=>arr_one h2',fun _=>arr_one h3',fun _=>arr_one h4',nest_one h5' h6',trivial⟩
  (rd_one 0 0 eI_ok h1 (by simp) rfl (rd_nest 1 2 in0 in_ok h4 h5 h6 (by simp) (by simp) rfl (fun _=>rfl) (rd_one 3 0 eI_ok h1' (by simp) rfl (rd_one 4 r40 r4_ok h2' (by simp) rfl (rd_one 5 0 eI_ok h3' (by simp) rfl (rd_nest 6 7 pd0 pd_ok h4' h5' h6' (by simp) (by simp) rfl (fun _=>rfl) rd_nil))))))
  sc args hf hb hc hrs hn (fun E' hE'=>hargs E' ?_ ?_) hnt hex
 ·have e:=fun i hi=>hE' i 0 0 hi
  simp only [SV.den,ltS,List.map_cons,List.map_nil,SC.den,Nat.reduceAdd,e 0 (by simp),e 1 (by simp)]
  rfl
 ·have e:=fun i hi=>hE' i 0 0 hi
  simp only [SV.den,stS,List.map_cons,List.map_nil,SC.den,Nat.reduceAdd,e 3 (by simp),e 4 (by simp),e 5 (by simp),e 6 (by simp)]
  rfl
end Go.Proofs.Ytmcpdafmkkjlcaa.Z
namespace Go.Proofs.Ytmcpdafmkkjlcaa.Z
open Go Go.RowKit
def InT (tmps:List (Nat×SV)):List Nat→List SV→Prop
 | [],[]=>True
 | t :: ts,v :: vs=>look tmps t=some v∧InT tmps ts vs
 | _,_=>False
theorem inT_den {B:Nat} {W:Nat→Prop} {w0:World} {E:Env} {S:St} {a:Act} {w:World} (hs:Sat B W w0 E S a w):∀ {ts:List Nat} {vs:List SV},InT S.tmps ts vs→vs.map (SV.den E)=ts.map fun t=>a.tmps.getD t undef
 | [],[],_=>rfl
 | t :: ts,v :: vs,h=>by rw [List.map_cons,List.map_cons,inT_den hs h.2,(hs.tmps t v h.1).2]
 | [],_ :: _,h=>h.elim
 | _ :: _,[],h=>h.elim
theorem call_leT {C:Ctx} {S S' : St} {f:Nat} {vs vs' : List SV} {dst:Option Nat} {K:St→Prop} (ts:List Nat) (hle:Le C S S') (hv:InT S.tmps ts vs) (hv' : InT S'.tmps ts vs') (h:CallVC C f vs' dst S' K):CallVC C f vs dst S K:=by
 intro E a w hs
 obtain ⟨E',hs'⟩:=hle E a w hs
 have e:vs.map (SV.den E)=vs'.map (SV.den E'):=by rw [inT_den hs.sat hv,inT_den hs'.sat hv']
 rw [e]
 exact h E' a w hs'
theorem arr_ltA {p:Nat→Prop} {τ:Nat→Nat} {L:Lt} {arrs:List (Nat×Fm ArrF)} (hp:∀ i,i<3→p i) (hτ:∀ i,i<3→τ i=i) (h0:look arrs 0=some (.one (arrOf eI 1 L.words 0))) (h1:look arrs 1=some (.one (nestF 2 L.thr.length))) (h2:look arrs 2=some (.fam L.thr.length fun k=>arrOf Ins.enc 7 (L.thr.getD k []) in0)):ArrsLe p (idσ τ) arrs (ltA 0 L):=by
 have t0:=hτ 0 (by decide);have t1:=hτ 1 (by decide);have t2:=hτ 2 (by decide)
 have p0:=hp 0 (by decide);have p1:=hp 1 (by decide);have p2:=hp 2 (by decide)
 simp +contextual [ltA,ArrsLe,ArrLeO,atN,look,Fm.get,idσ,arrLe_of,arrLe_0,arrLe_nest,t0,t1,t2,p0,p1,p2,h0,h1,h2]
end Go.Proofs.Ytmcpdafmkkjlcaa.Z
