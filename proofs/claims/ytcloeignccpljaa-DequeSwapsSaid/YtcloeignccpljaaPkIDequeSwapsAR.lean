/- DequeSwapsSaid: what its proof is made of. No condition. -/
import Derived.Test.YtcloeignccpljaaPkIDequeSwapsAQ
set_option linter.unusedSimpArgs false
set_option linter.unusedVariables false
namespace Go.Proofs.Ytcloeignccpljaa.Z
open Go Go.RowKit
def ITt (l:Nat):List (Nat×SV):=[(0,yvS l),(1,.c (.ptr (16,0,0) 0)),(2,.c (.ptr (17,0,0) 0))]
def itO (m:D.Pm) (l dd:Nat) (rc:Loop):Own:=runO m++[(11,.one (.bk [nilS,nilS,nilS,nilS] 41)),(12,.one (.ar m.C.length 9 (ats D.Ca.enc m.C D.ca0) 77)),(13,.one (.ar 0 5 (ats D.Sh.enc [] D.sh0) 85)),(14,.one (.ar m.W.length 1 (ats eU m.W 0) 44)),(15,.one (.bk [.sl (12,0,0) 9 0 m.C.length none,nilS,.sl (13,0,0) 5 0 0 none,.sl (14,0,0) 1 0 m.W.length none] 41)),(16,.one (.bk [.ptr (1,0,0) 0] 106)),(17,.one (.bk [iI 0] 3)),
 (18,.one (.pr (ObjP (18,0,0) dd (.deferred (some []))))),(19,.one (.pr (ObjP (19,0,0) l (.loop rc))))]
def ITs (m:D.Pm) (E E3:Env) (l dd:Nat) (rc:Loop):St:=⟨29,ITt l,itO m l dd rc,[],[AgF 20 E3,AgF 11 E],20⟩
def L18 (m:D.Pm) (E E3:Env) (l dd:Nat) (rc:Loop) (k:Nat) (b:Bool):St:=⟨29,lgT m l k++[(18,.c (.bo b))],lgO m l dd rc k,[],[AgF 20 E3,AgF 11 E],22⟩
set_option maxRecDepth 100000 in
set_option maxHeartbeats 1000000 in
theorem it_exec (w:World) (E E3:Env) (m:D.Pm) (W:Nat→Prop) (l dd:Nat) (rc:Loop) (hL:m.L.length≤65536) :
  exec (mkO Try.prog w W rs53 fun _ _=>False) 1000 [.code logA,.code logB,.code logC,fin1 (LS m E E3 l dd rc 0)] (ITs m E E3 l dd rc):=by
 simp (maxSteps:=2000000) only [logA,ITs,ITt,itO,runO,bkM,bkY,nz0,nilP,nilS,iI,go_sem,↓condS,↓runOp,↓reduceIte,Nat.reduceLT,Nat.reduceEqDiff,reduceCtorEq,List.cons_append,List.nil_append]
 simp (maxSteps:=2000000) only [logB,go_sem,↓runOp,↓reduceIte,Nat.reduceLT,Nat.reduceEqDiff,reduceCtorEq]
 refine callN 1 (lsT 7 m.L.length) (lsO 47 7 D.Ac.enc m.L D.ac0) (fun E a w' hs=>(clone_A (own_at (d:=D.ac0) hs 3 _ rfl rfl) (by omega)).mono fun e w2 he=>retN_of (d:=D.ac0) D.Ac.ok he) ?_
 simp (maxSteps:=2000000) only [go_sem,↓runOp,↓reduceIte,Nat.reduceLT,Nat.reduceAdd,Nat.reduceEqDiff,reduceCtorEq,lsT,lsO]
 simp (maxSteps:=2000000) only [logC,go_sem,↓runOp,↓reduceIte,Nat.reduceLT,Nat.reduceEqDiff,reduceCtorEq,Int.reduceGT]
 refine fin1_vc (le_tr (le_nilcell 15 7 47 41 _ [.sl (12,0,0) 9 0 m.C.length none,.sl (21,0,0) 7 0 0 none,.sl (13,0,0) 5 0 0 none,.sl (14,0,0) 1 0 m.W.length none] (ats D.Ac.enc m.L D.ac0) rfl rfl (fun E h1 h2=>by simp [SC.den,h1,h2])) ?_)
 exact le_renF id rfl ⟨factA (by simp) (show 20≤22 by decide) (fun _ _=>rfl),factA (by simp) (show 11≤22 by decide) (fun _ _=>rfl),trivial⟩ (show TmpsLe (· < 22) (idσ id) _ (lgT m l 0) from by simp [lgT,yvS,TmpsLe,look,SV.ren,SC.ren,idσ,SV.okN,SC.okN,iI]) (own_bk (show 11<22 by decide) rfl (by simp [nilS,SC.renL,SC.ren]) (by simp [nilS,SC.okL,SC.okN]) (own_av (show 12<22 by decide) rfl (Nat.le_refl _) (fun _ _=>rfl) (own_av (show 13<22 by decide) rfl (Nat.le_refl _) (fun _ _=>rfl) (own_av (show 14<22 by decide) rfl (Nat.le_refl _) (fun _ _=>rfl) (own_bk (show 15<22 by decide) rfl (by simp [SC.renL,SC.ren,idσ]) (show SC.okL (· < 22) [.sl (12,0,0) 9 0 m.C.length none,.sl (21,0,0) 7 0 0 none,.sl (13,0,0) 5 0 0 none,.sl (14,0,0) 1 0 m.W.length none] from by simp [SC.okL,SC.okN]) (own_obj (show 18<22 by decide) rfl rfl (own_obj (show 19<22 by decide) rfl rfl (own_av (show 20<22 by decide) rfl (Nat.le_refl _) (fun _ _=>rfl) (own_av (show 21<22 by decide) rfl (Nat.le_refl _) (fun _ _=>rfl) trivial))))))))) trivial rfl
set_option maxRecDepth 100000 in
theorem d0_exec (w:World) (E E3:Env) (m:D.Pm) (W:Nat→Prop) (l dd:Nat) (rc:Loop) (k:Nat) (b:Bool) (hb:decide ((k:Int)<m.L.length)=b) :
  exec (mkO Try.prog w W rs53 fun _ _=>False) 1000 [.code logD0,fin1 (L18 m E E3 l dd rc k b)] (LS m E E3 l dd rc k):=by
 simp (maxSteps:=2000000) only [logD0,LS,lgT,iI,go_sem,↓runOp,↓reduceIte,Nat.reduceLT,Nat.reduceEqDiff,reduceCtorEq]
 have hb' : decide (k<m.L.length)=b:=by rw [← hb];simp
 rw [hb']
 exact fin1_vc (le_tmps (by simp [lgT,TmpsSub,look,iI]))
set_option maxRecDepth 100000 in
theorem f_exec (w:World) (E E3:Env) (m:D.Pm) (W:Nat→Prop) (l dd:Nat) (rc:Loop) (k:Nat) (hk:k<m.L.length) (hL:m.L.length≤65536) :
  exec (mkO Try.prog w W rs53 fun _ _=>False) 1000 [.code logF,fin1 (LS m E E3 l dd rc (k+1))] (LA m E E3 l dd rc k):=by
 simp (maxSteps:=2000000) only [logF,LA,lgT,iI,go_sem,↓runOp,↓reduceIte,Nat.reduceLT,Nat.reduceEqDiff,reduceCtorEq]
 rw [wrI (show -9223372036854775808≤(k:Int)+1∧(k:Int)+1≤9223372036854775807 by omega)]
 exact fin1_vc (le_tmps (by simp [lgT,TmpsSub,look,iI]))
theorem log_loop (w:World) (E E3:Env) (m:D.Pm) (W:Nat→Prop) {fn:Nat} {b0:Act} {i5:Nat} {o5:Array Oper} {i6:Nat} {o6:Array Oper} {ig:Nat} {og:Array Oper} {x3 x4:Code} (l dd:Nat) (hL:m.L.length≤65536)
  (h5:compC (mkTab Try.prog []) (.region i5 o5 false)=some (.ops rn5)) (h6:compC (mkTab Try.prog []) (.region i6 o6 false)=some (.ops rn6)) (hg:compC (mkTab Try.prog []) (.region ig og false)=some (.ops (lg5a++[lg5y,lg5z]))) (h3:compC (mkTab Try.prog []) x3=some logD0.strip) (h4:compC (mkTab Try.prog []) x4=some logF.strip)
  (hb:TmpAt 20 E3 b0 50 [(2,.c (.ptr (11,0,0) 0)),(3,.c (.ptr (15,0,0) 0))]) {Q:Exit→Act→World→Prop}
  (hQ:∀ E' a' w',SatA (mkO Try.prog w W rs53 fun _ _=>False).B (mkO Try.prog w W rs53 fun _ _=>False).W (mkO Try.prog w W rs53 fun _ _=>False).w0 E' (LS m E E3 l dd (rcOf fn b0 i5 o5 i6 o6 dd .ready) m.L.length) a' w'→Q (.exit 0) a' w'):∀ (r k:Nat) (E1:Env) (a:Act) (w1:World),k+r=m.L.length →
  SatA (mkO Try.prog w W rs53 fun _ _=>False).B (mkO Try.prog w W rs53 fun _ _=>False).W (mkO Try.prog w W rs53 fun _ _=>False).w0 E1 (LS m E E3 l dd (rcOf fn b0 i5 o5 i6 o6 dd .ready) k) a w1 →
  Code.rounds Try.prog (.seq (.seq x3 (.cond (.tmp 18) .skip (.exit 0))) (.seq (.block 1 (.seq (.region ig og false) (.cond (.tmp 28) .ret .skip))) x4)) Q (r+1) a w1:=by
 intro r
 induction r with
 | zero =>
  intro k E1 a w1 hk hs
  have hk:k=m.L.length:=by omega
  subst hk
  refine wp_seq ?_
  have h1:=exec_ok (fn:=Try.f53) (mkTab_ok _ _) (by kernel_rfl) 1000 _ _ (d0_exec w E E3 m W l dd _ m.L.length false (decide_eq_false (by omega))) _ (relK1 h3) E1 a w1 hs
  refine cut_back h1 fun a2 w2 hJ=>?_
  obtain ⟨E2,hs2⟩:=finJ_sat hJ
  refine wp_cond_false (by rw [opd_den (i:=.t 18) hs2.sat rfl (show look (L18 m E E3 l dd (rcOf fn b0 i5 o5 i6 o6 dd .ready) m.L.length false).tmps 18=some (.c (.bo false)) from rfl)];rfl) (wp_exit ?_)
  obtain ⟨E4,hs4⟩:=(le_tmps (C:=mkO Try.prog w W rs53 fun _ _=>False) (by simp [lgT,TmpsSub,look]):Le _ (L18 m E E3 l dd (rcOf fn b0 i5 o5 i6 o6 dd .ready) m.L.length false) (LS m E E3 l dd (rcOf fn b0 i5 o5 i6 o6 dd .ready) m.L.length)) E2 a2 w2 hs2
  exact hQ E4 a2 w2 hs4
 | succ r ih =>
  intro k E1 a w1 hk hs
  refine wp_seq ?_
  have h1:=exec_ok (fn:=Try.f53) (mkTab_ok _ _) (by kernel_rfl) 1000 _ _ (d0_exec w E E3 m W l dd _ k true (decide_eq_true (by omega))) _ (relK1 h3) E1 a w1 hs
  refine cut_back h1 fun a2 w2 hJ=>?_
  obtain ⟨E2,hs2⟩:=finJ_sat hJ
  refine wp_cond_true (by rw [opd_den (i:=.t 18) hs2.sat rfl (show look (L18 m E E3 l dd (rcOf fn b0 i5 o5 i6 o6 dd .ready) k true).tmps 18=some (.c (.bo true)) from rfl)];rfl) (wp_skip ?_)
  refine wp_seq (wp_block (wp_seq ?_))
  obtain ⟨E4,hs4⟩:=(le_tmps (C:=mkO Try.prog w W rs53 fun _ _=>False) (by simp [lgT,TmpsSub,look]):Le _ (L18 m E E3 l dd (rcOf fn b0 i5 o5 i6 o6 dd .ready) k true) (LS m E E3 l dd (rcOf fn b0 i5 o5 i6 o6 dd .ready) k)) E2 a2 w2 hs2
  refine wpIn_wide.1 (log_round w E E3 m W rs53 (fun _ _=>False) l dd k (by omega) hL h5 h6 hg hb hs4 fun E5 a5 w5 hs5=>?_)
  refine wp_cond_false (by rw [opd_den (i:=.t 28) hs5.sat rfl (show look (LA m E E3 l dd (rcOf fn b0 i5 o5 i6 o6 dd .ready) k).tmps 28=some (.c (.v (.bool false))) from rfl)];rfl) (wp_skip ?_)
  have h2:=exec_ok (fn:=Try.f53) (mkTab_ok _ _) (by kernel_rfl) 1000 _ _ (f_exec w E E3 m W l dd _ k (by omega) hL) _ (relK1 h4) E5 a5 w5 hs5
  refine cut_last h2 fun a6 w6 hJ=>?_
  obtain ⟨E6,hs6⟩:=finJ_sat hJ
  exact ih (k+1) E6 a6 w6 (by omega) hs6
end Go.Proofs.Ytcloeignccpljaa.Z
namespace Go.Proofs.Ytcloeignccpljaa.Z
open Go Go.RowKit
theorem retEffK {P:Program} {w:World} {E:Env} {n0:Nat} {W:Nat→Prop} {rs:List RS} {T:Nat→SV} {v:SV} {nx:Nat} {S2:St} (σ:Nat→Nm→Nm) (ks:List Nat) (eff1:Nat→Own)
  (hf:AgF n0 E∈S2.facts) (hv:∀ b,n0≤b→v=(T b).ren (σ b)∧(T b).okN (fun i=>i<n0∨NewIds b nx i)) (hσ0:∀ b,n0≤b→∀ x:Nm,x.1<n0→σ b x=x)
  (ho:∀ b,n0≤b→OwnLe (fun i=>i<n0∨NewIds b nx i) (σ b) S2.own (eff1 b)) (hi:∀ b,n0≤b→InjN (σ b) (eff1 b)):RetVC (mkO P w W rs (EffU w E (· < n0) n0 W T nx fun b=>killO ks++eff1 b)) v S2:=by
 intro E1 a w' hs
 have hs:=hs.sat
 obtain ⟨H,hH,hF⟩:=hs.mem
 have hag:AgreeD (· < n0) E E1:=(hF w' fun _ _ _=>rfl).2 (AgF n0 E) hf
 refine ⟨_,rfl,hs.frame,fun b hb=>⟨E1.via (σ b),fun x=>hs.one _,fun E2 hE2 hN2=>?_⟩⟩
 have hR:∀ x:Nm,(x.1<n0∨NewIds b nx x.1)→SameR (σ b) E1 E2 x:=fun x hx=>by
  rcases hx with hx | hx
  ·have h1:=hag x hx
   have h2:=hE2 x hx
   unfold SameR
   rw [hσ0 b hb x hx]
   exact ⟨h2.1.trans h1.1.symm,h2.2.1.trans h1.2.1.symm,h2.2.2.1.trans h1.2.2.1.symm,h2.2.2.2.trans h1.2.2.2.symm⟩
  ·exact hN2 x hx
 have hat:∀ x c,atN (eff1 b) x=some c→(x.1<n0∨NewIds b nx x.1)∧∃ d,atN S2.own (σ b x)=some d∧BlkLe (fun i=>i<n0∨NewIds b nx i) (σ b) d c:=fun x c hx=>ownLe_at (ho b hb) hx
 refine ⟨by rw [sv_ren hR (T b) (hv b hb).2,← (hv b hb).1],fun x=>if x.1∈ks then emp else H (σ b x),fun x c hx=>?_,fun x y c d hx hy hne n=>?_,fun x c hx n o hn=>?_⟩
 ·rcases atN_kill hx with ⟨h1,rfl⟩ | ⟨h1,hx⟩
  ·simp only [h1,if_true];rfl
  ·simp only [h1,if_false]
   obtain ⟨h1,d,h2,h3⟩:=hat x c hx
   exact blk_le hR h1 h3 (hH.den _ _ h2)
 ·rcases atN_kill hx with ⟨h1,rfl⟩ | ⟨h1,hx⟩
  ·simp [h1,emp]
  ·rcases atN_kill hy with ⟨h2,rfl⟩ | ⟨h2,hy⟩
   ·simp [h2,emp]
   ·simp only [h1,h2,if_false]
    obtain ⟨_,d1,g2,_⟩:=hat x c hx
    obtain ⟨_,d2,k2,_⟩:=hat y d hy
    exact hH.disj _ _ d1 d2 g2 k2 (fun e=>hne (hi b hb x y c d hx hy e)) n
 ·rcases atN_kill hx with ⟨h1,rfl⟩ | ⟨h1,hx⟩
  ·simp [h1,emp] at hn
  ·simp only [h1,if_false] at hn
   obtain ⟨_,d1,g2,_⟩:=hat x c hx
   exact hH.sub _ d1 g2 n o hn
def LE (m:D.Pm) (E E3:Env) (l dd:Nat) (rc:Loop):St:=⟨50,[(2,.c (.ptr (11,0,0) 0)),(3,.c (.ptr (15,0,0) 0))],lgO m l dd rc m.L.length,[],[AgF 20 E3,AgF 11 E],22⟩
theorem log_calls (w:World) (E E3:Env) (m:D.Pm) {fn:Nat} {b0:Act} {i5:Nat} {o5:Array Oper} {i6:Nat} {o6:Array Oper} (l dd:Nat) (hL:m.L.length≤65536)
  (h5:compC (mkTab Try.prog []) (.region i5 o5 false)=some (.ops rn5)) (h6:compC (mkTab Try.prog []) (.region i6 o6 false)=some (.ops rn6))
  (hb:TmpAt 20 E3 b0 50 [(2,.c (.ptr (11,0,0) 0)),(3,.c (.ptr (15,0,0) 0))]) {args:Array Value} {w3:World}
  (hs:SatA (mkO Try.prog w (takesO E (runO m)) rs53 fun _ _=>False).B (mkO Try.prog w (takesO E (runO m)) rs53 fun _ _=>False).W (mkO Try.prog w (takesO E (runO m)) rs53 fun _ _=>False).w0 E3 (ITs m E E3 l dd (rcOf fn b0 i5 o5 i6 o6 dd .ready)) { tmps:=args++Array.replicate (Try.f53.ntmps - args.size) undef,defers:=[] } w3) :
  Calls Try.prog 53 args w3 fun e w'=>(∃ v,e = .returned v)∧∃ E',SatA (mkO Try.prog w (takesO E (runO m)) rs53 fun _ _=>False).B (mkO Try.prog w (takesO E (runO m)) rs53 fun _ _=>False).W (mkO Try.prog w (takesO E (runO m)) rs53 fun _ _=>False).w0 E' (LE m E E3 l dd (rcOf fn b0 i5 o5 i6 o6 dd .ready)) b0 w':=by
 obtain ⟨x0,x1,x2,x3,ig,og,x4,hbody,c0,c1,c2,c3,cg,c4⟩:=log_code
 refine calls_of_wp Try.func53 hbody ?_
 have h1:=exec_ok (fn:=Try.f53) (mkTab_ok _ _) (by kernel_rfl) 1000 _ _ (it_exec w E E3 m (takesO E (runO m)) l dd (rcOf fn b0 i5 o5 i6 o6 dd .ready) hL) _ (relK3 c0 c1 c2) E3 _ w3 hs
 refine cut_code rfl h1 fun b1 u1 g1=>cut_code rfl g1 fun b2 u2 g2=>cut_back g2 fun b3 u3 hJ=>?_
 obtain ⟨E2,hs2⟩:=finJ_sat hJ
 refine wp_block (wp_loop_rounds (m.L.length+1) (log_loop _ E E3 m _ l dd hL h5 h6 cg c3 c4 hb (fun E' a' w' hs'=>?_) m.L.length 0 E2 b3 u3 (by omega) hs2))
 simp only [Exit.inBlock,if_true]
 exact ⟨hs'.sat.defers,_,results_none rfl _ _ _,⟨_,rfl⟩,E',satA_act hs' (n:=20) (E0:=E3) (by simp [LS]) hb⟩
def runT (m:D.Pm) (b:Nat):SV:=.agg [.sl (b,0,0) 9 0 m.C.length none,.sl (b+1,0,0) 7 0 m.L.length none,.sl (b+3,0,0) 5 0 0 none,.sl (b+2,0,0) 1 0 m.W.length none]
def rnO (m:D.Pm) (b:Nat):Own:=[(b,.one (.ar m.C.length 9 (ats D.Ca.enc m.C D.ca0) 77)),(b+1,.one (.ar m.L.length 7 (ats D.Ac.enc m.L D.ac0) 47)),(b+2,.one (.ar m.W.length 1 (ats eU m.W 0) 44)),(b+3,.one (.ar 0 5 (ats D.Sh.enc [] D.sh0) 85))]
def fsO (m:D.Pm) (l dd:Nat) (rc:Loop) (dv:Obj):Own:=[(11,.one (.bk [.sl (12,0,0) 9 0 m.C.length none,.sl (21,0,0) 7 0 m.L.length none,.sl (13,0,0) 5 0 0 none,.sl (14,0,0) 1 0 m.W.length none] 41)),(12,.one (.ar m.C.length 9 (ats D.Ca.enc m.C D.ca0) 77)),(13,.one (.ar 0 5 (ats D.Sh.enc [] D.sh0) 85)),(14,.one (.ar m.W.length 1 (ats eU m.W 0) 44)),(15,.one (.bk [.sl (12,0,0) 9 0 m.C.length none,.sl (21,0,0) 7 0 m.L.length none,.sl (13,0,0) 5 0 0 none,.sl (14,0,0) 1 0 m.W.length none] 41)),
 (18,.one (.pr (ObjP (18,0,0) dd dv))),(19,.one (.pr (ObjP (19,0,0) l (.loop rc)))),(20,.one (.ar m.L.length 7 (ats D.Ac.enc m.L D.ac0) 47)),(21,.one (.ar m.L.length 7 (ats D.Ac.enc m.L D.ac0) 47))]
def FS (m:D.Pm) (E E3:Env) (l dd:Nat) (rc:Loop) (dv:Obj):St:=⟨50,[(2,.c (.ptr (11,0,0) 0))],fsO m l dd rc dv,[],[AgF 20 E3,AgF 11 E],22⟩
theorem rn7_run {C:Ctx} (m:D.Pm) (E E3:Env) (l dd:Nat) (rc:Loop):seqX rn7 (fun S=>Le C S (FS m E E3 l dd rc (.deferred (some [])))) (LE m E E3 l dd rc):=by
 simp (maxSteps:=2000000) only [seqX,rn7,LE,lgO,nilS,go_sem,↓reduceIte,Nat.reduceLT,Nat.reduceLeDiff,Nat.reduceAdd,Nat.reduceEqDiff,List.cons_append,List.nil_append]
 exact le_tmps (by simp [TmpsSub,look])
def rnσ (b i:Nat):Nat:=if i=b then 12 else if i=b+1 then 21 else if i=b+2 then 14 else if i=b+3 then 13 else i
theorem fs_fin (w:World) (E E3:Env) (m:D.Pm) (l dd:Nat) (rc:Loop) (dv:Obj):finS (mkO Try.prog w (takesO E (runO m)) rs26 (EffU w E (· < 11) 11 (takesO E (runO m)) (runT m) 4 fun b=>killO [0,1,2,3,6]++rnO m b)) (FS m E E3 l dd rc dv):=by
 generalize hR:EffU w E (· < 11) 11 (takesO E (runO m)) (runT m) 4 _=R
 generalize hW:takesO E (runO m)=W
 simp (maxSteps:=2000000) only [FS,fsO,rs26,mkO_rs,go_sem,↓reduceIte,Nat.reduceLeDiff,Nat.reduceAdd]
 rw [← hR,← hW]
 refine retEffK (fun b=>idσ (rnσ b)) [0,1,2,3,6] _ ?_ ?_ ?_ ?_ ?_
 ·simp
 ·intro b hb
  have e1:rnσ b (b+1)=21:=by simp [rnσ]
  have e2:rnσ b (b+2)=14:=by simp [rnσ]
  have e3:rnσ b (b+3)=13:=by simp [rnσ]
  have e0:rnσ b b=12:=by simp [rnσ]
  exact ⟨by simp [runT,SV.ren,SC.renL,SC.ren,idσ,e0,e1,e2,e3],by simp [runT,SV.okN,SC.okL,SC.okN,NewIds]⟩
 ·intro b hb x hx
  unfold idσ rnσ
  rw [if_neg (by omega),if_neg (by omega),if_neg (by omega),if_neg (by omega)]
 ·intro b hb
  have e1:rnσ b (b+1)=21:=by simp [rnσ]
  have e2:rnσ b (b+2)=14:=by simp [rnσ]
  have e3:rnσ b (b+3)=13:=by simp [rnσ]
  have e0:rnσ b b=12:=by simp [rnσ]
  exact own_av (Or.inr ⟨by omega,by omega⟩) (by rw [e0];rfl) (Nat.le_refl _) (fun _ _=>rfl) (own_av (Or.inr ⟨by omega,by omega⟩) (by rw [e1];rfl) (Nat.le_refl _) (fun _ _=>rfl) (own_av (Or.inr ⟨by omega,by omega⟩) (by rw [e2];rfl) (Nat.le_refl _) (fun _ _=>rfl) (own_av (Or.inr ⟨by omega,by omega⟩) (by rw [e3];rfl) (Nat.le_refl _) (fun _ _=>rfl) trivial)))
 ·intro b hb
  refine injN_idσ fun i hi j hj e=>?_
  simp only [rnO,keysL,List.mem_cons,List.not_mem_nil,or_false] at hi hj
  unfold rnσ at e
  split at e <;> (try split at e) <;> (try split at e) <;> (try split at e) <;> (try split at e) <;> (try split at e) <;> (try split at e) <;> (try split at e) <;> omega
set_option maxHeartbeats 1000000 in
theorem run_own (w:World) (E:Env) (m:D.Pm) (hS:m.S.length≠0) (hl:m.W.length≤8192) (hC:m.C.length≤65536) (hL:m.L.length≤65536) (h:Handed w E 11 (runO m) []) :
  Calls Try.prog 26 (([.c (.ptr (0,0,0) 0)]:List SV).map (SV.den E)).toArray w (EffU w E (· < 11) 11 (takesO E (runO m)) (runT m) 4 fun b=>killO [0,1,2,3,6]++rnO m b):=by
 obtain ⟨x0,x1,x3,x4,i5,o5,i6,o6,i7,o7,hbody,c0,c1,c3,c4,c5,c6,c7⟩:=run_code
 refine callsIn_wide.1 (callsIn_of_wp_marks (F:=Fence.wide) (n:=7) Try.func26 hbody trivial (wpIn_wide.2 ?_))
 have hs0:=satA_handed (P:=Try.prog) (nt:=50) rs26 (fun _ _=>False) h [.c (.ptr (0,0,0) 0)] (by simp [okVs,SV.okN,SC.okN]) (of_decide_eq_true rfl)
 have h1:=exec_ok (fn:=Try.f26) (mkTab_ok _ _) (by kernel_rfl) 1000 _ _ (run_exec w E m (takesO E (runO m)) hS hl hC) _ (relK4 c0 c1 c3 c4) E _ w hs0
 refine cut_code rfl h1 fun b1 u1 g1=>cut_code rfl g1 fun b2 u2 g2=>cut_code rfl g2 fun b3 u3 g3=>wp_seq (cut_back g3 fun a1 w1 hJ=>?_)
 obtain ⟨E1,hs1⟩:=finJ_sat hJ
 have hs1:SatA (mkO Try.prog w (takesO E (runO m)) rs53 fun _ _=>False).B (mkO Try.prog w (takesO E (runO m)) rs53 fun _ _=>False).W (mkO Try.prog w (takesO E (runO m)) rs53 fun _ _=>False).w0 E1 (rnS m E) a1 w1:=hs1
 refine wp_block ((wpIn_wide (n:=6)).1 (wpIn_rangeFunc fun fn _=>?_))
 obtain ⟨E2,hs2⟩:=obj_lay (C:=mkO Try.prog w (takesO E (runO m)) rs53 fun _ _=>False) (.deferred (some [])) hs1
 obtain ⟨E3,hs3⟩:=obj_lay (C:=mkO Try.prog w (takesO E (runO m)) rs53 fun _ _=>False) (.loop (rcOf fn a1 i5 o5 i6 o6 w1.heap.size .ready)) hs2
 rw [World.size_alloc] at hs3
 have hs3:SatA (mkO Try.prog w (takesO E (runO m)) rs53 fun _ _=>False).B (mkO Try.prog w (takesO E (runO m)) rs53 fun _ _=>False).W (mkO Try.prog w (takesO E (runO m)) rs53 fun _ _=>False).w0 E3 (⟨50,[(2,.c (.ptr (11,0,0) 0)),(3,.c (.ptr (15,0,0) 0)),(40,.c (.fn (.func 53) [] [.ptr (16,0,0) 0,.ptr (17,0,0) 0]))],itO m (w1.heap.size+1) w1.heap.size (rcOf fn a1 i5 o5 i6 o6 w1.heap.size .ready),[],[AgF 11 E],20⟩) a1 _:=hs3
 have hev:a1.eval (.tmp 40) = .func (.func 53) #[] #[(SC.ptr (16,0,0) 0).den E3,(SC.ptr (17,0,0) 0).den E3]:=by
  rw [opd_den (i:=.t 40) hs3.sat rfl (show look [(2,SV.c (.ptr (11,0,0) 0)),(3,.c (.ptr (15,0,0) 0)),(40,.c (.fn (.func 53) [] [.ptr (16,0,0) 0,.ptr (17,0,0) 0]))] 40=some _ from rfl)]
  simp [SV.den,SC.den,SC.denL]
 have hfn:FnOk Try.prog 53:=⟨_,Try.func53,rfl,rfl⟩
 have htm:TmpAt 20 E3 a1 50 [(2,.c (.ptr (11,0,0) 0)),(3,.c (.ptr (15,0,0) 0))]:=by
  have h:=hs3.sat
  refine ⟨h.size,h.defers,fun t v ht=>?_⟩
  simp only [look] at ht
  split at ht
  ·next e =>
   subst e;cases ht
   obtain ⟨g1,g2⟩:=h.tmps 2 _ rfl
   exact ⟨g1,g2,by simp [SV.okN,SC.okN]⟩
  split at ht
  ·next e =>
   subst e;cases ht
   obtain ⟨g1,g2⟩:=h.tmps 3 _ rfl
   exact ⟨g1,g2,by simp [SV.okN,SC.okN]⟩
  ·cases ht
 have hit:SatA (mkO Try.prog w (takesO E (runO m)) rs53 fun _ _=>False).B (mkO Try.prog w (takesO E (runO m)) rs53 fun _ _=>False).W (mkO Try.prog w (takesO E (runO m)) rs53 fun _ _=>False).w0 E3 (ITs m E E3 (w1.heap.size+1) w1.heap.size (rcOf fn a1 i5 o5 i6 o6 w1.heap.size .ready)) { tmps:=#[.func (.yield (w1.heap.size+1)) #[] #[],(SC.ptr (16,0,0) 0).den E3,(SC.ptr (17,0,0) 0).den E3]++Array.replicate (Try.f53.ntmps - 3) undef,defers:=[] } _ :=
  satA_act (satA_fact 20 (Nat.le_refl _) hs3) (n:=20) (E0:=E3) (by simp) ⟨by simp,rfl,fun t v ht=>by
   simp only [ITt,look] at ht
   split at ht
   ·next e =>
    subst e;cases ht
    exact ⟨by decide,by simp [Array.getD_eq_getD_getElem?,yvS,SV.den,SC.den],by simp [yvS,SV.okN,SC.okN]⟩
   split at ht
   ·next e =>
    subst e;cases ht
    exact ⟨by decide,by simp [Array.getD_eq_getD_getElem?,SV.den],by simp [SV.okN,SC.okN]⟩
   split at ht
   ·next e =>
    subst e;cases ht
    exact ⟨by decide,by simp [Array.getD_eq_getD_getElem?,SV.den],by simp [SV.okN,SC.okN]⟩
   ·cases ht⟩
 refine ⟨w1.heap.size+1,[{ target:=.collected w1.heap.size,args:=#[] }],((w1.alloc (.deferred (some []))).alloc (.loop (rcOf fn a1 i5 o5 i6 o6 w1.heap.size .ready))),{ target:=.fn (.func 53) #[(SC.ptr (16,0,0) 0).den E3,(SC.ptr (17,0,0) 0).den E3],args:=#[.func (.yield (w1.heap.size+1)) #[] #[]] },((w1.alloc (.deferred (some []))).alloc (.loop (rcOf fn a1 i5 o5 i6 o6 w1.heap.size .ready))),53,#[.func (.yield (w1.heap.size+1)) #[] #[],(SC.ptr (16,0,0) 0).den E3,(SC.ptr (17,0,0) 0).den E3],((w1.alloc (.deferred (some []))).alloc (.loop (rcOf fn a1 i5 o5 i6 o6 w1.heap.size .ready))),run_enterLoop_outer _ _ _ _ _,?_,fun _ _=>trivial,?_,(fun h=>by cases h),callsIn_wide.2 ((log_calls w E E3 m _ _ hL c5 c6 htm hit).mono ?_)⟩
 ·simp only [resolve,hev]
  simp [go_sem]
 ·simp [invoke,go_sem,run_callFunc hfn]
 rintro e w4 ⟨⟨v,rfl⟩,E4,hs4⟩
 have q4:=(sat_obj (C:=mkO Try.prog w (takesO E (runO m)) rs53 fun _ _=>False) hs4 (x:=(19,0,0)) (l:=w1.heap.size+1) (o:=.loop (rcOf fn a1 i5 o5 i6 o6 w1.heap.size .ready)) rfl).1
 refine ⟨_,_,run_endLoop q4 (by simp [rcOf]),?_⟩
 obtain ⟨E5,hs5⟩:=obj_put (C:=mkO Try.prog w (takesO E (runO m)) rs53 fun _ _=>False) (x:=(19,0,0)) (l:=w1.heap.size+1) (o:=.loop (rcOf fn a1 i5 o5 i6 o6 w1.heap.size .ready)) (.loop (rcOf fn a1 i5 o5 i6 o6 w1.heap.size .exhausted)) rfl ⟨rfl,rfl⟩ hs4
 have hs5:SatA (mkO Try.prog w (takesO E (runO m)) rs53 fun _ _=>False).B (mkO Try.prog w (takesO E (runO m)) rs53 fun _ _=>False).W (mkO Try.prog w (takesO E (runO m)) rs53 fun _ _=>False).w0 E5 (LE m E E3 (w1.heap.size+1) w1.heap.size (rcOf fn a1 i5 o5 i6 o6 w1.heap.size .exhausted)) a1 (w4.putObj (w1.heap.size+1) (.loop (rcOf fn a1 i5 o5 i6 o6 w1.heap.size .exhausted))):=hs5
 have hd1:a1.defers=[]:=hs4.sat.defers
 have hT:TOk (mkO Try.prog w (takesO E (runO m)) rs53 fun _ _=>False).P (mkO Try.prog w (takesO E (runO m)) rs53 fun _ _=>False).tab.T:=(mkTab_ok _ _).1
 show Code.wp _ (Code.seq _ _) _ _ _
 refine wp_seq ((wpIn_wide (n:=5)).1 (region_ok (C:=mkO Try.prog w (takesO E (runO m)) rs53 fun _ _=>False) (F:=Fence.wide) (fun _=>trivial) hT c7 rfl (fun S=>Le (mkO Try.prog w (takesO E (runO m)) rs53 fun _ _=>False) S (FS m E E3 (w1.heap.size+1) w1.heap.size (rcOf fn a1 i5 o5 i6 o6 w1.heap.size .exhausted) (.deferred (some [])))) (by rw [act_eta hd1];exact hs5) (rn7_run m E E3 _ _ _) fun E6 S6 a6 w6 hd6 hs6 hle=>wp_ret ?_))
 obtain ⟨E7,hs7⟩:=hle E6 _ w6 hs6
 have q7:=(sat_obj (C:=mkO Try.prog w (takesO E (runO m)) rs53 fun _ _=>False) hs7 (x:=(18,0,0)) (l:=w1.heap.size) (o:=.deferred (some [])) rfl).1
 obtain ⟨E8,hs8⟩:=obj_put (C:=mkO Try.prog w (takesO E (runO m)) rs53 fun _ _=>False) (x:=(18,0,0)) (l:=w1.heap.size) (o:=.deferred (some [])) (.deferred none) rfl ⟨rfl,rfl⟩ hs7
 have hs8:SatA (mkO Try.prog w (takesO E (runO m)) rs53 fun _ _=>False).B (mkO Try.prog w (takesO E (runO m)) rs53 fun _ _=>False).W (mkO Try.prog w (takesO E (runO m)) rs53 fun _ _=>False).w0 E8 (FS m E E3 (w1.heap.size+1) w1.heap.size (rcOf fn a1 i5 o5 i6 o6 w1.heap.size .exhausted) (.deferred none)) ⟨a6.tmps,[]⟩ (w6.putObj w1.heap.size (.deferred none)):=hs8
 show LeavesInM _ _ _ _ a6.tmps _ a6.defers _ _
 rw [hd6]
 simp only [hd1,List.append_nil]
 refine ⟨by simp,.inl ⟨w1.heap.size,_,rfl,run_takeDeferred q7,?_⟩⟩
 exact (fin_ok (C:=mkO Try.prog w (takesO E (runO m)) rs26 (EffU w E (· < 11) 11 (takesO E (runO m)) (runT m) 4 fun b=>killO [0,1,2,3,6]++rnO m b)) (fn:=Try.f26) (a:=⟨a6.tmps,[]⟩) (mkTab_ok _ _).1 (by kernel_rfl) hs8 (fs_fin w E E3 m _ _ _ _)).2
end Go.Proofs.Ytcloeignccpljaa.Z
namespace Go.Proofs.Ytcloeignccpljaa.Z
open Go Go.RowKit
theorem own_fam {p:Nat→Prop} {τ:Nat→Nat} {own r:Own} {i n k:Nat} {f g:Nat→Blk} (hp:p i) (h:look own (τ i)=some (.fam k g)) (hm:n≤k) (hf:∀ e,e<n→BlkLe p (idσ τ) (g e) (f e)) (hr' : OwnLe p (idσ τ) own r):OwnLe p (idσ τ) own ((i,.fam n f) :: r):=by
 refine ⟨⟨hp,fun e he=>?_⟩,hr'⟩
 show BlkLeO _ _ (atN own (τ i,e,0)) _
 rw [show atN own (τ i,e,0)=some (g e) by simp only [atN,h,Fm.get];rw [if_pos ⟨by omega,trivial⟩]]
 exact hf e he
structure MvZ (own:Own) (z:Nz) (m:D.Pm):Prop where
 h0:look own 0=some (.one (.bk (bkM z nilP nilP m) 113))
 h1:look own 1=some (.one (.bk (bkY z m) 140))
 h2:look own 2=some (.one (.ar m.W.length 1 (ats eU m.W 0) 44))
 hl:look own z.l=some (.one (.ar m.L.length 7 (ats D.Ac.enc m.L D.ac0) 47))
 ha:look own z.a=some (.one (.ar m.A.length 1 (ats eU m.A 0) 44))
 h5:look own 5=some (.one (.ar m.S.length 5 (seC z.t m.S) 116))
 hc:look own z.c=some (.one (.ar m.C.length 9 (ats D.Ca.enc m.C D.ca0) 77))
 ht:look own z.t=some (.fam m.S.length (tkF z.t m.S))
 h9:look own 9=some (.one (.bk (hubC m) 88))
 h10:look own 10=some (.one (.bk [.ptr (9,0,0) 0] 86))
def zσ (z:Nz) (ρ:Nat→Nat) (i:Nat):Nat:=if i=3 then z.l else if i=4 then z.a else if i=6 then z.c else if i=7 then z.t else if i<11 then i else ρ i
theorem mv_from {p:Nat→Prop} {ρ:Nat→Nat} {own r:Own} {m:D.Pm} {z:Nz} (hp:∀ i,i<11→p i) (h:MvZ own z m) (hr' : OwnLe p (idσ (zσ z ρ)) own r):OwnLe p (idσ (zσ z ρ)) own (mvO nz0 m++r):=by
 have e0:zσ z ρ 0=0:=rfl
 have e1:zσ z ρ 1=1:=rfl
 have e2:zσ z ρ 2=2:=rfl
 have e3:zσ z ρ 3=z.l:=rfl
 have e4:zσ z ρ 4=z.a:=rfl
 have e5:zσ z ρ 5=5:=rfl
 have e6:zσ z ρ 6=z.c:=rfl
 have e7:zσ z ρ 7=z.t:=rfl
 have e8:zσ z ρ 8=8:=rfl
 have e9:zσ z ρ 9=9:=rfl
 have e10:zσ z ρ 10=10:=rfl
 have q:∀ i,i<11→p i:=hp
 have q0:=hp 0 (by decide);have q1:=hp 1 (by decide);have q2:=hp 2 (by decide);have q3:=hp 3 (by decide);have q4:=hp 4 (by decide)
 have q5:=hp 5 (by decide);have q6:=hp 6 (by decide);have q7:=hp 7 (by decide);have q8:=hp 8 (by decide);have q9:=hp 9 (by decide);have q10:=hp 10 (by decide)
 unfold mvO rO mO
 exact own_bk q0 (by rw [e0];exact h.h0) (by simp [bkM,nz0,nilP,SC.renL,SC.ren,idσ,iI,e1,e5,e6,e8]) (by simp [bkM,nz0,nilP,SC.okL,SC.okN,iI,q1,q5,q6,q8])
  (own_bk q1 (by rw [e1];exact h.h1) (by simp [bkY,nz0,SC.renL,SC.ren,idσ,iI,e2,e3,e4]) (by simp [bkY,nz0,SC.okL,SC.okN,iI,q2,q3,q4])
  (own_av q2 (by rw [e2];exact h.h2) (Nat.le_refl _) (fun _ _=>rfl) (own_av q3 (by show look own (zσ z ρ 3)=_;rw [e3];exact h.hl) (Nat.le_refl _) (fun _ _=>rfl) (own_av q4 (by show look own (zσ z ρ 4)=_;rw [e4];exact h.ha) (Nat.le_refl _) (fun _ _=>rfl)
  (own_ar q5 (by rw [e5];exact h.h5) (Nat.le_refl _) (fun e _=>⟨seC_ren (σ:=idσ (zσ z ρ)) (t:=7) (t':=z.t) (by simp [idσ,e7]),seC_ok (t:=7) q7 _ _⟩) (own_av q6 (by show look own (zσ z ρ 6)=_;rw [e6];exact h.hc) (Nat.le_refl _) (fun _ _=>rfl)
  (own_fam q7 (by show look own (zσ z ρ 7)=_;rw [e7];exact h.ht) (Nat.le_refl _) (fun e _=>tkF_le (σ:=idσ (zσ z ρ)) (t:=7) (t':=z.t) (by simp [idσ,e9]) q9 q7 (by simp [idσ,e7]))
  (own_bk q9 (by rw [e9];exact h.h9) (by simp [hubC,SC.renL,SC.ren,iI]) (by simp [hubC,SC.okL,SC.okN,iI]) (own_bk q10 (by rw [e10];exact h.h10) (by simp [SC.renL,SC.ren,idσ,e9]) (by simp [SC.okL,SC.okN,q9]) hr')))))))))
theorem mvO_plain (z:Nz) (m:D.Pm):PlainO (mvO z m) :=
 plain_of ⟨trivial,trivial,trivial,trivial,trivial,trivial,trivial,fun k=>plain_tk _ _ k,trivial,trivial,trivial⟩
theorem mvO_key {b:Nat} {m m' : D.Pm}:∀ x B,atN (mvO nz0 m) x=some B→(look (killO [3,4,6,7]++mvO ⟨b,b+1,b+2,b+3⟩ m') x.1).isSome=true:=by
 intro x B hx
 obtain ⟨F,hF,_⟩:=atN_some hx
 have hk:=look_keysL hF
 simp only [mvO,rO,mO,nz0,keysL,List.cons_append,List.nil_append,List.mem_cons,List.not_mem_nil,or_false] at hk
 rw [look_app,look_kill]
 rcases hk with e | e | e | e | e | e | e | e | e | e <;> rw [e]
 all_goals
  simp only [List.mem_cons,List.not_mem_nil,Nat.reduceEqDiff,or_self,or_true,or_false,if_false,if_true,mvO,rO,mO,look,List.cons_append,List.nil_append]
  repeat' split
  all_goals first | rfl | (exfalso;exact ‹¬True› trivial) | (exfalso;omega)
theorem kitW_of {C:Ctx} {S:St} {E:Env} {a:Act} {w:World} {m:D.Pm} (hs:Sat C.B C.W C.w0 E S a w) (hown:OwnLe (· < 11) (idσ id) S.own (mvO nz0 m)) (h8:look S.own 8=some (.one (.pr (MapV (8,0,0) .i64 kitG)))):KitW w E (takesO E (mvO nz0 m)):=by
 obtain ⟨H,hH,_⟩:=hs.mem
 have hat:atN S.own (8,0,0)=some (.pr (MapV (8,0,0) .i64 kitG)):=by simp [atN,h8,Fm.get]
 have h1:=hH.den _ _ hat
 simp only [Blk.den,MapV] at h1
 obtain ⟨L,clock,h2,h3⟩:=h1
 refine ⟨L,clock,(hH.sub _ _ hat (E.ρ (8,0,0)) _ (by rw [h2];simp [sing])).1,h3,?_⟩
 rintro ⟨x,c,hx,ht⟩
 obtain ⟨_,d,g1,g3⟩:=ownLe_at hown hx
 obtain ⟨k1,k2⟩:=blkLe_plain g3 (mvO_plain _ _ x c hx)
 have hne:x≠(8,0,0):=fun e=>by
  subst e
  obtain ⟨F,hF,_⟩:=atN_some hx
  have hk:=look_keysL hF
  simp [mvO,rO,mO,nz0,keysL] at hk
 have g4:=(takes_iff k1 (hH.den x d g1) (n:=E.ρ (8,0,0))).2 ((k2 E x _).2 ht)
 rcases hH.disj x (8,0,0) d _ g1 hat hne (E.ρ (8,0,0)) with h | h
 ·exact g4 h
 ·rw [h2] at h;simp [sing] at h
theorem crMv {C:Ctx} {S:St} {m:D.Pm} {x:D.Rm} {y:D.Mo} (hP:C.P=Try.prog) (hg:Good m x) (hn:11≤S.nid) (hown:OwnLe (· < 11) (idσ id) S.own (mvO nz0 m)) (h8:look S.own 8=some (.one (.pr (MapV (8,0,0) .i64 kitG)))) :
  CR C 23 [.c (.ptr (0,0,0) 0),.agg [iI y.th,iI y.op,iI y.arg,iI y.data]] S (List.range 11) (.c (.v (.bool (D.moveM m y).2))) 4 (killO [3,4,6,7]++mvO ⟨S.nid,S.nid+1,S.nid+2,S.nid+3⟩ (D.moveM m y).1) [] :=
 cr_ownS (eff:=fun b=>killO [3,4,6,7]++mvO ⟨b,b+1,b+2,b+3⟩ (D.moveM m y).1) 11 (mvO nz0 m) [] hn (mvO_plain _ _) hown trivial mvO_key fun E a w hs hh=>by rw [hP];exact mmove_own w E m x y hg (kitW_of hs hown h8) hh
end Go.Proofs.Ytcloeignccpljaa.Z
namespace Go.Proofs.Ytcloeignccpljaa.Z
open Go Go.RowKit
def τE (i:Nat):Nat:=if i=0 then 3 else if i=1 then 4 else if i=2 then 5 else if i=3 then 10 else if i=4 then 11 else if i=5 then 6 else if i=6 then 12 else if i=7 then 13 else if i=8 then 9 else if i=9 then 7 else if i=10 then 8 else if i=11 then 0 else if i=12 then 1 else if i=13 then 2 else i
theorem newM_S (th:Nat) (r:Int):(D.newM th r).S=List.replicate th D.se0:=by simp [D.newM]
theorem seat_new (t th:Nat) (r:Int) (e:Nat):seC t (D.newM th r).S e=seat0 e:=by
 have:(D.newM th r).S.getD e D.se0=D.se0:=by
  rw [newM_S,List.getD_eq_getElem?_getD,List.getElem?_replicate];split <;> rfl
 unfold seC
 rw [this];rfl
theorem task_new (t th:Nat) (r:Int) (e:Nat):tkF t (D.newM th r).S e = .no:=by
 have:(D.newM th r).S.getD e D.se0=D.se0:=by
  rw [newM_S,List.getD_eq_getElem?_getD,List.getElem?_replicate];split <;> rfl
 unfold tkF
 rw [this];rfl
theorem le_enter {C:Ctx} {nt:Nat} {tmps tmps' : List (Nat×SV)} {own rest:Own} {arrs arrs' : List (Nat×Fm ArrF)} (th:Nat) (r:Int)
  (k3:look own 3=some (.one (.bk (nmC 3 (.mp (9,0,0)) th 0) 113))) (k4:look own 4=some (.one (.bk (memC 5 (2+r).toNat) 140)))
  (k5:look own 5=some (.one (.ar (2+r).toNat 1 (ats eU (List.replicate (2+r).toNat 0) 0) 44))) (k6:look own 6=some (.one (.ar th 5 seat0 116)))
  (k7:look own 7=some (.one (.bk (hub0 r) 88))) (k8:look own 8=some (.one (.bk [.ptr (7,0,0) 0] 86))) (k9:look own 9=some (.one (.pr (MapV (9,0,0) .i64 (kitB 8)))))
  (hk:ltAll (keysL own) 10=true) (ht:TmpsLe (· < 20) (idσ τE) tmps tmps') (ha:ArrsLe (· < 20) (idσ τE) arrs arrs')
  (hrest:∀ own4:Own,(∀ k,k≠3→k≠4→k<10→look own4 k=look own k)→OwnLe (· < 20) (idσ τE) own4 rest) (hinj:injL τE ([0,1,2,3,4,5,6,7,9,10,8]++keysL rest)=true) :
  Le C ⟨nt,tmps,own,arrs,[],10⟩ ⟨nt,tmps',mvO nz0 (D.newM th r)++((8,.one (.pr (MapV (8,0,0) .i64 kitG))) :: rest),arrs',[],20⟩:=by
 have hn:∀ k,10≤k→look own k=none:=fun k hk'=>by
  cases e:look own k with
  | none=>rfl
  | some v=>exact absurd (ltAll_mem hk k (look_keysL e)) (by omega)
 refine le_tr (le_nilcell 4 7 47 140 _ [.sl (5,0,0) 1 0 (2+r).toNat none,.sl (10,0,0) 7 0 0 none,nilS,iI 0] (ats D.Ac.enc [] D.ac0) k4 (hn 10 (by decide)) (fun E h1 h2=>by simp [memC,SC.den,h1,h2,nilS])) ?_
 refine le_tr (le_nilcell 4 1 44 140 _ [.sl (5,0,0) 1 0 (2+r).toNat none,.sl (10,0,0) 7 0 0 none,.sl (11,0,0) 1 0 0 none,iI 0] (ats eU [] 0) (by simp only [look_cons,look_setL];rfl) (by simp only [look_cons,look_setL,hn 11 (by decide)];rfl) (fun E h1 h2=>by simp [SC.den,h1,h2,nilS])) ?_
 refine le_tr (le_nilcell 3 9 77 113 _ [.ptr (4,0,0) 0,iI 0,iI 0,nilP,nilP,.v (.bool false),nilS,.mp (9,0,0),.sl (6,0,0) 5 0 th none,iI 0,.sl (12,0,0) 9 0 0 none] (ats D.Ca.enc [] D.ca0) (by simp only [look_cons,look_setL,k3];rfl) (by simp only [look_cons,look_setL,hn 12 (by decide)];rfl) (fun E h1 h2=>by simp [nmC,SC.den,h1,h2,nilS,nilP])) ?_
 refine le_tr (le_fam0 th (by simp only [look_cons,look_setL,hn 13 (by decide)];rfl)) ?_
 refine le_ren τE rfl rfl ht ?_ ha ?_
 ·show OwnLe (· < 20) (idσ τE) _ _
  unfold mvO rO mO
  exact own_bk (show 0<20 by decide) (show look _ 3=_ by simp only [look_cons,look_setL];rfl) (by simp [bkM,nz0,nilP,nilS,SC.renL,SC.ren,idσ,iI,τE,D.newM]) (by simp [bkM,nz0,nilP,SC.okL,SC.okN,iI])
   (own_bk (show 1<20 by decide) (show look _ 4=_ by simp only [look_cons,look_setL];rfl) (by simp [bkY,nz0,SC.renL,SC.ren,idσ,iI,τE,D.newM]) (by simp [bkY,nz0,SC.okL,SC.okN,iI])
   (own_av (show 2<20 by decide) (show look _ 5=_ by simp only [look_cons,look_setL,k5];rfl) (by simp [D.newM]) (fun _ _=>by simp [D.newM])
   (own_av (show 3<20 by decide) (show look _ 10=_ by simp only [look_cons,look_setL];rfl) (by simp [D.newM]) (fun _ _=>by simp [D.newM])
   (own_av (show 4<20 by decide) (show look _ 11=_ by simp only [look_cons,look_setL];rfl) (by simp [D.newM]) (fun _ _=>by simp [D.newM])
   (own_ar (show 5<20 by decide) (show look _ 6=_ by simp only [look_cons,look_setL,k6];rfl) (by simp [newM_S]) (fun e _=>⟨by rw [seat_new];rfl,by rw [seat_new];simp [seat0,SC.okL,SC.okN,iI]⟩)
   (own_av (show 6<20 by decide) (show look _ 12=_ by simp only [look_cons,look_setL];rfl) (by simp [D.newM]) (fun _ _=>by simp [D.newM])
   (own_fam (show 7<20 by decide) (show look _ 13=_ by simp only [look_cons,look_setL];rfl) (by simp [newM_S]) (fun e _=>by rw [task_new];trivial)
   (own_bk (show 9<20 by decide) (show look _ 7=_ by simp only [look_cons,look_setL,k7];rfl) (by simp [hubC,hub0,SC.renL,SC.ren,iI,D.newM]) (by simp [hubC,SC.okL,SC.okN,iI])
   (own_bk (show 10<20 by decide) (show look _ 8=_ by simp only [look_cons,look_setL,k8];rfl) (by simp [SC.renL,SC.ren,idσ,τE]) (by simp [SC.okL,SC.okN])
   (own_mapV (j:=9) (show 8<20 by decide) (show look _ 9=_ by simp only [look_cons,look_setL,k9];rfl) rfl (by simp [kitB,kitG,SC.ren,SC.renL,idσ,τE]) (by simp [kitG,SC.okN,SC.okL])
   (hrest _ fun k h3 h4 h10=>by
    simp only [look_cons,look_setL]
    rw [if_neg (by omega),if_neg (by omega),if_neg (by omega),if_neg (by omega),if_neg (by omega),if_neg (by omega),if_neg (by omega)])))))))))))
 ·exact hinj
end Go.Proofs.Ytcloeignccpljaa.Z
namespace Go.Proofs.Ytcloeignccpljaa.Z
open Go Go.RowKit
def ir13:IR:=(.seq (.ops [⟨(some 2),(.box 23 (.t 0)),none⟩,⟨(some 4),(.mv (.k (.c (.v (.bool false))))),none⟩]) (.kill [0,3,4,5,6,7,8,9,10,11] (.seq (.ops [⟨(some 5),(.ld true 2 (.t 2)),none⟩,⟨(some 6),(.call 21 [(.t 5)]),none⟩,⟨(some 7),(.mv (.t 6)),none⟩,⟨(some 8),(.mv (.t 1)),(some (7,true))⟩,⟨(some 9),(.len (.t 8)),(some (7,true))⟩,⟨(some 10),(.bin .leq (.t 9) (.k (.c (.v (.int .i64 65536))))),(some (7,true))⟩,⟨(some 11),(.pick (.t 7) (.t 10) (.k (.c (.v (.bool false))))),none⟩,⟨(some 4),(.mv (.t 11)),none⟩]) (.kill [1,2,5,6,7,8,9,10,11] .ret))))
def rs13:List RS:=[(.t 4)]
def nt13:Nat:=12
def ir17:IR:=(.seq (.ops [⟨(some 2),(.box 23 (.t 0)),none⟩,⟨(some 4),(.new 41 [(.v (.slice none 0 0)),(.v (.slice none 0 0)),(.v (.slice none 0 0)),(.v (.slice none 0 0))]),none⟩,⟨(some 5),(.mv (.k (.c (.v (.int .i64 0))))),none⟩]) (.kill [0,3,5,6,7,8,9,10,11] (.seq (.ops [⟨(some 11),(.ld true 2 (.t 2)),none⟩,⟨(some 12),(.call 20 [(.t 11)]),none⟩,⟨(some 10),(.mv (.t 12)),none⟩,⟨(some 13),(.ext 0 (.t 10)),none⟩,⟨(some 14),(.ext 1 (.t 10)),none⟩,⟨(some 6),(.mv (.t 13)),none⟩,⟨(some 7),(.mv (.t 14)),none⟩]) (.kill [2,10,11,12,13,14] (.seq (.seq (.ops [⟨(some 15),(.mv (.t 7)),none⟩,⟨(some 16),(.bin .neq (.t 15) (.k (.c (.v (.int .i64 0))))),none⟩]) (.kill [15] (.cond (.t 16) (.seq (.ops [⟨(some 17),(.build [(.v (.slice none 0 0)),(.v (.slice none 0 0)),(.v (.slice none 0 0)),(.v (.slice none 0 0))] []),none⟩,⟨(some 18),(.mv (.t 7)),none⟩,⟨none,(.st 4 (.t 4) (.t 17)),none⟩,⟨(some 5),(.mv (.t 18)),none⟩]) (.kill [1,6,7,16,17,18] .ret)) .skip))) (.kill [5,7,16] (.seq (.seq (.ops [⟨(some 19),(.mv (.t 1)),none⟩,⟨(some 20),(.len (.t 19)),none⟩,⟨(some 21),(.bin .gtr (.t 20) (.k (.c (.v (.int .i64 65536))))),none⟩]) (.kill [19,20] (.cond (.t 21) (.seq (.ops [⟨(some 22),(.build [(.v (.slice none 0 0)),(.v (.slice none 0 0)),(.v (.slice none 0 0)),(.v (.slice none 0 0))] []),none⟩,⟨none,(.st 4 (.t 4) (.t 22)),none⟩,⟨(some 5),(.mv (.k (.c (.v (.int .i64 3))))),none⟩]) (.kill [1,6,21,22] .ret)) .skip))) (.kill [5,21] (.seq (.seq (.ops [⟨(some 23),(.mv (.t 1)),none⟩,⟨(some 24),(.len (.t 23)),none⟩,⟨(some 25),(.mv (.k (.c (.v (.int .i64 0))))),none⟩]) (.kill [1] (.blk 0 (.loop (.seq (.ops [⟨(some 26),(.bin .lss (.t 25) (.t 24)),none⟩]) (.kill [9,27,28,29,30,31,32] (.seq (.cond (.t 26) .skip (.exit 0)) (.kill [26] (.seq (.blk 1 (.seq (.ops [⟨(some 27),(.ia 4 (.t 23) (.t 25)),none⟩,⟨(some 28),(.ld true 4 (.t 27)),none⟩,⟨(some 9),(.new 51 [(.v (.int .i64 0)),(.v (.int .i64 0)),(.v (.int .i64 0)),(.v (.int .i64 0))]),none⟩,⟨none,(.st 4 (.t 9) (.t 28)),none⟩]) (.kill [27,28] (.ops [⟨(some 29),(.mv (.t 6)),none⟩,⟨(some 30),(.ld true 4 (.t 9)),none⟩,⟨(some 31),(.call 23 [(.t 29),(.t 30)]),none⟩])))) (.kill [9,27,28,29,30,31] (.ops [⟨(some 32),(.bin .add (.t 25) (.k (.c (.v (.int .i64 1))))),none⟩,⟨(some 25),(.mv (.t 32)),none⟩]))))))))))) (.kill [9,23,24,25,26,27,28,29,30,31,32] (.seq (.ops [⟨(some 33),(.mv (.t 6)),none⟩,⟨(some 34),(.call 26 [(.t 33)]),none⟩,⟨none,(.st 4 (.t 4) (.t 34)),none⟩,⟨(some 5),(.mv (.k (.c (.v (.int .i64 0))))),none⟩]) (.kill [6,33,34] .ret))))))))))))
def rs17:List RS:=[(.cell 4 true 4),(.t 5)]
def nt17:Nat:=35
end Go.Proofs.Ytcloeignccpljaa.Z
namespace Go.Proofs.Ytcloeignccpljaa.D
def Mo.enc (y:Mo):List Value:=[.int .i64 y.th,.int .i64 y.op,.int .i64 y.arg,.int .i64 y.data]
def mo0:Mo:=⟨0,0,0,0⟩
theorem Mo.ok:EncT Mo.enc 4:=⟨fun _=>rfl,fun x u hu=>by simp [Mo.enc] at hu;rcases hu with rfl | rfl | rfl | rfl <;> rfl⟩
theorem runM_app:∀ (l l' : List Mo) (m:Pm),runM m (l++l')=runM (runM m l) l'
 | [],_,_=>rfl
 | y :: l,l',m=>runM_app l l' _
theorem take_one {l:List Mo} {k:Nat} (h:k<l.length):l.take (k+1)=l.take k++[l.getD k mo0]:=by
 rw [List.take_add_one,List.getElem?_eq_getElem h,List.getD_eq_getElem?_getD,List.getElem?_eq_getElem h];rfl
theorem runM_take {l:List Mo} {k:Nat} {m:Pm} (h:k<l.length):runM m (l.take (k+1))=(moveM (runM m (l.take k)) (l.getD k mo0)).1:=by
 rw [take_one h,runM_app];rfl
theorem run_W:∀ (l:List Mo) {m:Pm},Inv m→(runM m l).W.length=m.W.length
 | [],_,_=>rfl
 | y :: l,m,h=>(run_W l (move_inv (x:=y) h).1).trans (move_inv (x:=y) h).2.2
end Go.Proofs.Ytcloeignccpljaa.D
namespace Go.Proofs.Ytcloeignccpljaa.Z
open Go Go.RowKit
theorem zσ_id:zσ nz0 id=id:=by
 funext i
 unfold zσ nz0
 simp only [id]
 split
 ·omega
 split
 ·omega
 split
 ·omega
 split
 ·omega
 split <;> rfl
theorem mv_id {own:Own} {m:D.Pm} (h:MvZ own nz0 m):OwnLe (· < 11) (idσ id) own (mvO nz0 m):=by
 have:=mv_from (p:=(· < 11)) (ρ:=id) (r:=[]) (fun i hi=>hi) h trivial
 rw [zσ_id,List.append_nil] at this
 exact this
theorem run_key {b:Nat} {m:D.Pm}:∀ x B,atN (runO m) x=some B→(look (killO [0,1,2,3,6]++rnO m b) x.1).isSome=true:=by
 intro x B hx
 obtain ⟨F,hF,_⟩:=atN_some hx
 have hk:=look_keysL hF
 simp only [runO,keysL,List.mem_cons,List.not_mem_nil,or_false] at hk
 rw [look_app,look_kill]
 rcases hk with e | e | e | e | e <;> rw [e] <;> rfl
theorem crRun {C:Ctx} {S:St} {m:D.Pm} {x:D.Rm} (hP:C.P=Try.prog) (hg:Good m x) (hM:m.mv≤65536) (hW:m.W.length≤8192) (hn:11≤S.nid) (h:MvZ S.own nz0 m) :
  CR C 26 [.c (.ptr (0,0,0) 0)] S (List.range 11) (runT m S.nid) 4 (killO [0,1,2,3,6]++rnO m S.nid) []:=by
 have hc:=hg.c
 have hl:=hg.f.l
 refine cr_ownU (T:=runT m) (eff:=fun b=>killO [0,1,2,3,6]++rnO m b) 11 (runO m) [] hn (plain_of ⟨trivial,trivial,trivial,trivial,trivial,trivial⟩) ?_ trivial run_key fun E a w hs hh=>by rw [hP];exact run_own w E m (good_S hg) hW (by omega) (by omega) hh
 exact own_bk (by decide) h.h0 (by simp [bkM,nz0,nilP,SC.renL,SC.ren,idσ,iI]) (by simp [bkM,nz0,nilP,SC.okL,SC.okN,iI]) (own_bk (by decide) h.h1 (by simp [bkY,nz0,SC.renL,SC.ren,idσ,iI]) (by simp [bkY,nz0,SC.okL,SC.okN,iI]) (own_av (by decide) h.h2 (Nat.le_refl _) (fun _ _=>rfl) (own_av (by decide) h.hl (Nat.le_refl _) (fun _ _=>rfl) (own_av (by decide) h.hc (Nat.le_refl _) (fun _ _=>rfl) trivial))))
set_option maxRecDepth 100000 in
set_option maxHeartbeats 400000 in
theorem fits_calls (w:World) (v:Value) (t r:Int) (l:List D.Mo) (h:Arr w D.Mo.enc 4 v l):Calls Try.prog 13 #[.agg #[.int .i64 t,.int .i64 r],v] w (RetV w (.bool (mayD t r && decide (l.length≤65536)))):=by
 refine enter1 (A:=[]) (c:=ir13) (rs:=rs13) (nt:=nt13) D.mo0 D.Mo.ok h [dA t r,.c (.xv (0,0,0))] _ Try.func13 rfl (by kernel_rfl) (by kernel_rfl) rfl (fun E' h0=>by simp [dA,SV.den,SC.den,h0]) (of_decide_eq_true rfl) ?_
 simp (maxSteps:=2000000) only [ir13,nt13,rs13,go_sem,↓runOp,↓reduceIte,Nat.reduceLT,Nat.reduceLeDiff,Nat.reduceAdd,Nat.reduceEqDiff,reduceCtorEq,dA]
 refine callV (.c (.bo (mayD t r))) _ (fun E=>rfl) (fun E a w' hs=>check_calls w' _ _) ?_
 simp (maxSteps:=2000000) only [go_sem,↓gateS,↓runOp,↓reduceIte,Nat.reduceLT,Nat.reduceEqDiff]
 refine retV fun E=>?_
 simp only [den_c,den_b,Value.bool.injEq]
 cases mayD t r <;> simp <;> omega
def playT (m:D.Pm) (b:Nat):SV:=.tup [(true,[.sl (b,0,0) 9 0 m.C.length none,.sl (b+1,0,0) 7 0 m.L.length none,.sl (b+3,0,0) 5 0 0 none,.sl (b+2,0,0) 1 0 m.W.length none]),(false,[iI 0])]
set_option maxRecDepth 100000 in
set_option maxHeartbeats 2000000 in
theorem play_calls (w:World) (v:Value) (th:Nat) (r:Int) (l:List D.Mo) (hm:mayD th r=true) (hl:l.length≤65536) (ha:∀ y∈l,D.i64 y.arg=y.arg) (h:Arr w D.Mo.enc 4 v l) :
  Calls Try.prog 17 #[.agg #[.int .i64 th,.int .i64 r],v] w (RetN w 4 (playT (D.runM (D.newM th r) l)) (rnO (D.runM (D.newM th r) l))):=by
 refine enter1 (A:=[]) (c:=ir17) (rs:=rs17) (nt:=nt17) D.mo0 D.Mo.ok h [dA th r,.c (.xv (0,0,0))] _ Try.func17 rfl (by kernel_rfl) (by kernel_rfl) rfl (fun E' h0=>by simp [dA,SV.den,SC.den,h0]) (of_decide_eq_true rfl) ?_
 have hmm:1≤(th:Int)∧(th:Int)≤16∧1≤r∧r≤256:=of_decide_eq_true hm
 have d1:decide ((l.length:Int)>65536)=false:=decide_eq_false (by omega)
 have hz:((0:Int) != 0)=false:=rfl
 generalize hR:RetN w 4 _ _=R
 simp (maxSteps:=2000000) only [ir17,nt17,rs17,go_sem,↓runOp,↓reduceIte,Nat.reduceLT,Nat.reduceLeDiff,Nat.reduceAdd,Nat.reduceEqDiff,reduceCtorEq,dA]
 refine callN 7 ptT (newO th r) (fun E a w' hs=>new_calls w' th r hm) ?_
 simp (maxSteps:=2000000) only [go_sem,↓condS,↓runOp,↓imp_ft,↓imp_ff,↓reduceIte,Nat.reduceLT,Nat.reduceAdd,Nat.reduceEqDiff,ptT,iI,hz,d1]
 have hG:∀ k,Good (D.runM (D.newM th r) (l.take k)) (D.runR (D.newR th r) (l.take k)):=fun k=>good_run _ (good_new (by omega) (by omega) (by omega)) fun y hy=>ha y (List.mem_of_mem_take hy)
 refine loopI (ι:={ k:Nat // k≤l.length }) (fun k=>⟨35,[(4,.c (.ptr (13,0,0) 0)),(6,.c (.ptr (0,0,0) 0)),(23,.c (.xv (11,0,0))),(24,.c (iI l.length)),(25,.c (iI k.1))],mvO nz0 (D.runM (D.newM th r) (l.take k.1))++((8,.one (.pr (MapV (8,0,0) .i64 kitG))) :: [(13,.one (.bk [nilS,nilS,nilS,nilS] 41))]),[(11,.one (arrOf D.Mo.enc 4 l D.mo0))],[],20⟩) (fun k=>l.length - k.1) ⟨0,Nat.zero_le _⟩ ?_ ?_
 ·exact le_enter th r rfl rfl rfl rfl rfl rfl rfl rfl (by simp [TmpsLe,look,SV.ren,SC.ren,idσ,SV.okN,SC.okN,iI,τE]) ⟨⟨show 11<20 by decide,arrLe_of⟩,trivial⟩ (fun own4 h4=>own_bk (show 13<20 by decide) ((h4 2 (by decide) (by decide) (by decide)).trans rfl) (by simp [nilS,SC.renL,SC.ren]) (by simp [nilS,SC.okL,SC.okN]) trivial) rfl
 rintro ⟨k,hk⟩
 have hGk:=hG k
 dsimp only
 generalize hMk:D.runM (D.newM th r) (l.take k)=m at hGk ⊢
 simp (maxSteps:=2000000) only [go_sem,↓condS,↓exitS,↓runOp,↓reduceIte,Nat.reduceLT,Nat.reduceLeDiff,Nat.reduceAdd,Nat.reduceEqDiff,reduceCtorEq,mvO,rO,mO,nz0,iI,D.Mo.enc,List.cons_append,List.nil_append]
 refine both (fun hlt=>?_) (fun hge=>?_)
 ·have hlt:k<l.length:=by simpa using hlt
  refine And.intro hlt (And.intro hlt ?_)
  refine call_intro (crMv (m:=m) (y:=l.getD k D.mo0) rfl hGk (show 11≤21 by decide) (mv_id ⟨rfl,rfl,rfl,rfl,rfl,rfl,rfl,rfl,rfl,rfl⟩) rfl) (fun i hi=>Nat.lt_of_lt_of_le (List.mem_range.1 hi) (show 11≤21 by decide)) ?_
  have hm' : (D.moveM m (l.getD k D.mo0)).1=D.runM (D.newM th r) (l.take (k+1)):=by rw [D.runM_take hlt,hMk]
  rw [hm']
  simp (maxSteps:=2000000) only [go_sem,↓runOp,↓reduceIte,Nat.reduceLT,Nat.reduceAdd,Nat.reduceEqDiff,reduceCtorEq,killO,mvO,rO,mO,List.cons_append,List.nil_append,wrI (show -9223372036854775808≤(k:Int)+1∧(k:Int)+1≤9223372036854775807 by omega)]
  refine backI ⟨k+1,hlt⟩ (by simp only;omega) ?_
  exact le_ren (zσ ⟨21,22,23,24⟩ id) rfl rfl (by simp [TmpsLe,look,SV.ren,SC.ren,idσ,SV.okN,SC.okN,zσ]) (mv_from (z:=⟨21,22,23,24⟩) (ρ:=id) (r:=[(8,.one (.pr (MapV (8,0,0) .i64 kitG))),(13,.one (.bk [nilS,nilS,nilS,nilS] 41))]) (fun i hi=>(show i<20 by omega)) ⟨rfl,rfl,rfl,rfl,rfl,rfl,rfl,rfl,rfl,rfl⟩ (own_mapV (j:=8) (show 8<20 by decide) rfl rfl (by simp [kitG,SC.ren,SC.renL,idσ,zσ]) (by simp [kitG,SC.okN,SC.okL]) (own_bk (show 13<20 by decide) rfl (by simp [nilS,SC.renL,SC.ren]) (by simp [nilS,SC.okL,SC.okN]) trivial))) ⟨⟨show 11<20 by decide,arrLe_of⟩,trivial⟩ rfl
 have hge:k=l.length:=by
  have:¬ k<l.length:=by simpa using hge
  omega
 subst hge
 rw [List.take_length] at hMk
 have hmv:m.mv≤65536:=by
  have:=(D.run_inv l (D.new_inv th r (by omega))).2.2
  rw [hMk] at this
  simp only [D.newM] at this
  omega
 have hmw:m.W.length≤8192:=by
  have:=D.run_W l (D.new_inv th r (by omega))
  rw [hMk] at this
  rw [this]
  simp only [D.newM,List.length_replicate]
  omega
 refine call_intro (crRun (m:=m) rfl hGk hmv hmw (show 11≤20 by decide) ⟨rfl,rfl,rfl,rfl,rfl,rfl,rfl,rfl,rfl,rfl⟩) (fun i hi=>Nat.lt_of_lt_of_le (List.mem_range.1 hi) (show 11≤20 by decide)) ?_
 simp (maxSteps:=2000000) only [go_sem,↓runOp,↓reduceIte,Nat.reduceLT,Nat.reduceLeDiff,Nat.reduceAdd,Nat.reduceEqDiff,reduceCtorEq,killO,runT,rnO,List.cons_append,List.nil_append]
 rw [← hR,hMk]
 refine retN (fun k=>20+k) (fun b=>⟨by simp [playT,SV.ren,SC.ren,SC.renL,ren1L,ren1,fromσ,iI],by simp [playT,SV.okN,SC.okN,SC.okL,ok1L,NewIds,iI]⟩) (fun b=>?_) (fun b=>?_)
 ·show OwnLe _ (idσ fun i=>20+(i - b)) _ _
  exact own_av ⟨by omega,by omega⟩ (by simp only [Nat.sub_self];rfl) (Nat.le_refl _) (fun _ _=>rfl) (own_av ⟨by omega,by omega⟩ (by rw [Nat.add_sub_cancel_left];rfl) (Nat.le_refl _) (fun _ _=>rfl) (own_av ⟨by omega,by omega⟩ (by rw [Nat.add_sub_cancel_left];rfl) (Nat.le_refl _) (fun _ _=>rfl) (own_av ⟨by omega,by omega⟩ (by rw [Nat.add_sub_cancel_left];rfl) (Nat.le_refl _) (fun _ _=>rfl) trivial)))
 ·exact injN_from fun x hx y hy e=>by
   simp [rnO,keysL] at hx hy
   omega
end Go.Proofs.Ytcloeignccpljaa.Z
namespace Go.Proofs.Ytcloeignccpljaa.D
def awM:List Mo:=[⟨0,90,5,0⟩,⟨0,0,0,0⟩,⟨0,0,0,0⟩,⟨0,0,0,0⟩,⟨0,0,0,0⟩,⟨0,90,6,0⟩,⟨0,0,0,0⟩,⟨0,0,0,0⟩,⟨0,0,0,0⟩,⟨0,0,0,0⟩,⟨1,92,0,0⟩,⟨1,0,0,0⟩,⟨1,0,0,0⟩,⟨1,0,0,0⟩,⟨1,0,0,0⟩,⟨0,91,0,0⟩,⟨0,0,0,0⟩,⟨0,0,0,0⟩,⟨0,0,0,0⟩,⟨0,0,0,0⟩,⟨0,0,0,0⟩,⟨0,0,0,0⟩]
theorem aw_all:(runM (newM 2 2) awM).C.length=4∧((runM (newM 2 2) awM).C.getD 2 ca0).ak=2∧((runM (newM 2 2) awM).C.getD 2 ca0).av=5∧((runM (newM 2 2) awM).C.getD 3 ca0).ak=2∧((runM (newM 2 2) awM).C.getD 3 ca0).av=6∧((runM (newM 2 2) awM).C.getD 3 ca0).pt=17:=by decide +kernel
theorem aw_rg:∀ y∈awM,i64 y.arg=y.arg:=by decide +kernel
end Go.Proofs.Ytcloeignccpljaa.D
namespace Go.Proofs.Ytcloeignccpljaa.Z
open Go Go.RowKit
def ir14:IR:=(.seq (.ops [⟨(some 0),(.mv (.k (.c (.v (.bool false))))),none⟩]) (.kill [0,1,2,3,4,5,6,7,8,9,10,11] (.seq (.ops [⟨(some 4),(.build [(.v (.int .i64 0)),(.v (.int .i64 0)),(.v (.int .i64 0)),(.v (.int .i64 0))] [(1,(1,(.k (.c (.v (.int .i64 90)))))),(2,(1,(.k (.c (.v (.int .i64 5))))))]),none⟩,⟨(some 5),(.build [(.v (.int .i64 0)),(.v (.int .i64 0)),(.v (.int .i64 0)),(.v (.int .i64 0))] []),none⟩,⟨(some 6),(.build [(.v (.int .i64 0)),(.v (.int .i64 0)),(.v (.int .i64 0)),(.v (.int .i64 0))] []),none⟩,⟨(some 7),(.build [(.v (.int .i64 0)),(.v (.int .i64 0)),(.v (.int .i64 0)),(.v (.int .i64 0))] []),none⟩,⟨(some 8),(.build [(.v (.int .i64 0)),(.v (.int .i64 0)),(.v (.int .i64 0)),(.v (.int .i64 0))] []),none⟩,⟨(some 9),(.build [(.v (.int .i64 0)),(.v (.int .i64 0)),(.v (.int .i64 0)),(.v (.int .i64 0))] [(1,(1,(.k (.c (.v (.int .i64 90)))))),(2,(1,(.k (.c (.v (.int .i64 6))))))]),none⟩,⟨(some 10),(.build [(.v (.int .i64 0)),(.v (.int .i64 0)),(.v (.int .i64 0)),(.v (.int .i64 0))] []),none⟩,⟨(some 11),(.build [(.v (.int .i64 0)),(.v (.int .i64 0)),(.v (.int .i64 0)),(.v (.int .i64 0))] []),none⟩,⟨(some 12),(.build [(.v (.int .i64 0)),(.v (.int .i64 0)),(.v (.int .i64 0)),(.v (.int .i64 0))] []),none⟩,⟨(some 13),(.build [(.v (.int .i64 0)),(.v (.int .i64 0)),(.v (.int .i64 0)),(.v (.int .i64 0))] []),none⟩,⟨(some 14),(.build [(.v (.int .i64 0)),(.v (.int .i64 0)),(.v (.int .i64 0)),(.v (.int .i64 0))] [(0,(1,(.k (.c (.v (.int .i64 1)))))),(1,(1,(.k (.c (.v (.int .i64 92))))))]),none⟩,⟨(some 15),(.build [(.v (.int .i64 0)),(.v (.int .i64 0)),(.v (.int .i64 0)),(.v (.int .i64 0))] [(0,(1,(.k (.c (.v (.int .i64 1))))))]),none⟩,⟨(some 16),(.build [(.v (.int .i64 0)),(.v (.int .i64 0)),(.v (.int .i64 0)),(.v (.int .i64 0))] [(0,(1,(.k (.c (.v (.int .i64 1))))))]),none⟩,⟨(some 17),(.build [(.v (.int .i64 0)),(.v (.int .i64 0)),(.v (.int .i64 0)),(.v (.int .i64 0))] [(0,(1,(.k (.c (.v (.int .i64 1))))))]),none⟩,⟨(some 18),(.build [(.v (.int .i64 0)),(.v (.int .i64 0)),(.v (.int .i64 0)),(.v (.int .i64 0))] [(0,(1,(.k (.c (.v (.int .i64 1))))))]),none⟩,⟨(some 19),(.build [(.v (.int .i64 0)),(.v (.int .i64 0)),(.v (.int .i64 0)),(.v (.int .i64 0))] [(1,(1,(.k (.c (.v (.int .i64 91))))))]),none⟩,⟨(some 20),(.build [(.v (.int .i64 0)),(.v (.int .i64 0)),(.v (.int .i64 0)),(.v (.int .i64 0))] []),none⟩,⟨(some 21),(.build [(.v (.int .i64 0)),(.v (.int .i64 0)),(.v (.int .i64 0)),(.v (.int .i64 0))] []),none⟩,⟨(some 22),(.build [(.v (.int .i64 0)),(.v (.int .i64 0)),(.v (.int .i64 0)),(.v (.int .i64 0))] []),none⟩,⟨(some 23),(.build [(.v (.int .i64 0)),(.v (.int .i64 0)),(.v (.int .i64 0)),(.v (.int .i64 0))] []),none⟩,⟨(some 24),(.build [(.v (.int .i64 0)),(.v (.int .i64 0)),(.v (.int .i64 0)),(.v (.int .i64 0))] []),none⟩,⟨(some 25),(.build [(.v (.int .i64 0)),(.v (.int .i64 0)),(.v (.int .i64 0)),(.v (.int .i64 0))] []),none⟩,⟨(some 26),(.mkSl 51 22 4 [(.v (.int .i64 0)),(.v (.int .i64 0)),(.v (.int .i64 0)),(.v (.int .i64 0)),(.v (.int .i64 0)),(.v (.int .i64 0)),(.v (.int .i64 0)),(.v (.int .i64 0)),(.v (.int .i64 0)),(.v (.int .i64 0)),(.v (.int .i64 0)),(.v (.int .i64 0)),(.v (.int .i64 0)),(.v (.int .i64 0)),(.v (.int .i64 0)),(.v (.int .i64 0)),(.v (.int .i64 0)),(.v (.int .i64 0)),(.v (.int .i64 0)),(.v (.int .i64 0)),(.v (.int .i64 0)),(.v (.int .i64 0)),(.v (.int .i64 0)),(.v (.int .i64 0)),(.v (.int .i64 0)),(.v (.int .i64 0)),(.v (.int .i64 0)),(.v (.int .i64 0)),(.v (.int .i64 0)),(.v (.int .i64 0)),(.v (.int .i64 0)),(.v (.int .i64 0)),(.v (.int .i64 0)),(.v (.int .i64 0)),(.v (.int .i64 0)),(.v (.int .i64 0)),(.v (.int .i64 0)),(.v (.int .i64 0)),(.v (.int .i64 0)),(.v (.int .i64 0)),(.v (.int .i64 0)),(.v (.int .i64 0)),(.v (.int .i64 0)),(.v (.int .i64 0)),(.v (.int .i64 0)),(.v (.int .i64 0)),(.v (.int .i64 0)),(.v (.int .i64 0)),(.v (.int .i64 0)),(.v (.int .i64 0)),(.v (.int .i64 0)),(.v (.int .i64 0)),(.v (.int .i64 0)),(.v (.int .i64 0)),(.v (.int .i64 0)),(.v (.int .i64 0)),(.v (.int .i64 0)),(.v (.int .i64 0)),(.v (.int .i64 0)),(.v (.int .i64 0)),(.v (.int .i64 0)),(.v (.int .i64 0)),(.v (.int .i64 0)),(.v (.int .i64 0)),(.v (.int .i64 0)),(.v (.int .i64 0)),(.v (.int .i64 0)),(.v (.int .i64 0)),(.v (.int .i64 0)),(.v (.int .i64 0)),(.v (.int .i64 0)),(.v (.int .i64 0)),(.v (.int .i64 0)),(.v (.int .i64 0)),(.v (.int .i64 0)),(.v (.int .i64 0)),(.v (.int .i64 0)),(.v (.int .i64 0)),(.v (.int .i64 0)),(.v (.int .i64 0)),(.v (.int .i64 0)),(.v (.int .i64 0)),(.v (.int .i64 0)),(.v (.int .i64 0)),(.v (.int .i64 0)),(.v (.int .i64 0)),(.v (.int .i64 0)),(.v (.int .i64 0))] [(0,(4,(.t 4))),(4,(4,(.t 5))),(8,(4,(.t 6))),(12,(4,(.t 7))),(16,(4,(.t 8))),(20,(4,(.t 9))),(24,(4,(.t 10))),(28,(4,(.t 11))),(32,(4,(.t 12))),(36,(4,(.t 13))),(40,(4,(.t 14))),(44,(4,(.t 15))),(48,(4,(.t 16))),(52,(4,(.t 17))),(56,(4,(.t 18))),(60,(4,(.t 19))),(64,(4,(.t 20))),(68,(4,(.t 21))),(72,(4,(.t 22))),(76,(4,(.t 23))),(80,(4,(.t 24))),(84,(4,(.t 25)))]),none⟩,⟨(some 1),(.mv (.t 26)),none⟩]) (.kill [4,5,6,7,8,9,10,11,12,13,14,15,16,17,18,19,20,21,22,23,24,25,26] (.seq (.ops [⟨(some 28),(.build [(.v (.int .i64 0)),(.v (.int .i64 0))] [(0,(1,(.k (.c (.v (.int .i64 2)))))),(1,(1,(.k (.c (.v (.int .i64 2))))))]),none⟩,⟨(some 29),(.mv (.t 1)),none⟩,⟨(some 30),(.call 17 [(.t 28),(.t 29)]),none⟩,⟨(some 27),(.mv (.t 30)),none⟩,⟨(some 31),(.ext 0 (.t 27)),none⟩,⟨(some 32),(.ext 1 (.t 27)),none⟩,⟨(some 2),(.new 41 [(.v (.slice none 0 0)),(.v (.slice none 0 0)),(.v (.slice none 0 0)),(.v (.slice none 0 0))]),none⟩,⟨none,(.st 4 (.t 2) (.t 31)),none⟩,⟨(some 3),(.mv (.t 32)),none⟩]) (.kill [1,27,28,29,30,31,32] (.seq (.ops [⟨(some 33),(.mv (.t 3)),none⟩,⟨(some 34),(.call 12 [(.t 33)]),none⟩,⟨(some 35),(.bin .eql (.t 34) (.k (.c (.v (.int .i64 0))))),none⟩,⟨(some 36),(.mv (.t 35)),none⟩,⟨(some 37),(.fa 0 (.t 2)),(some (36,true))⟩,⟨(some 38),(.ld false 1 (.t 37)),(some (36,true))⟩,⟨(some 39),(.len (.t 38)),(some (36,true))⟩,⟨(some 40),(.bin .eql (.t 39) (.k (.c (.v (.int .i64 4))))),(some (36,true))⟩,⟨(some 41),(.pick (.t 36) (.t 40) (.k (.c (.v (.bool false))))),none⟩,⟨(some 42),(.mv (.t 41)),none⟩,⟨(some 43),(.fa 0 (.t 2)),(some (42,true))⟩,⟨(some 44),(.ld false 1 (.t 43)),(some (42,true))⟩,⟨(some 45),(.ia 9 (.t 44) (.k (.c (.v (.int .i64 2))))),(some (42,true))⟩,⟨(some 46),(.fa 7 (.t 45)),(some (42,true))⟩,⟨(some 47),(.ld true 2 (.t 46)),(some (42,true))⟩,⟨(some 48),(.build [(.v (.int .i64 0)),(.v (.int .i64 0))] [(0,(1,(.k (.c (.v (.int .i64 2)))))),(1,(1,(.k (.c (.v (.int .i64 5))))))]),(some (42,true))⟩,⟨(some 49),(.eqa false [true,true] (.t 47) (.t 48)),(some (42,true))⟩,⟨(some 50),(.pick (.t 42) (.t 49) (.k (.c (.v (.bool false))))),none⟩,⟨(some 51),(.mv (.t 50)),none⟩,⟨(some 52),(.fa 0 (.t 2)),(some (51,true))⟩,⟨(some 53),(.ld false 1 (.t 52)),(some (51,true))⟩,⟨(some 54),(.ia 9 (.t 53) (.k (.c (.v (.int .i64 3))))),(some (51,true))⟩,⟨(some 55),(.fa 7 (.t 54)),(some (51,true))⟩,⟨(some 56),(.ld true 2 (.t 55)),(some (51,true))⟩,⟨(some 57),(.build [(.v (.int .i64 0)),(.v (.int .i64 0))] [(0,(1,(.k (.c (.v (.int .i64 2)))))),(1,(1,(.k (.c (.v (.int .i64 6))))))]),(some (51,true))⟩,⟨(some 58),(.eqa false [true,true] (.t 56) (.t 57)),(some (51,true))⟩,⟨(some 59),(.pick (.t 51) (.t 58) (.k (.c (.v (.bool false))))),none⟩,⟨(some 60),(.mv (.t 59)),none⟩,⟨(some 61),(.fa 0 (.t 2)),(some (60,true))⟩,⟨(some 62),(.ld false 1 (.t 61)),(some (60,true))⟩,⟨(some 63),(.ia 9 (.t 62) (.k (.c (.v (.int .i64 3))))),(some (60,true))⟩,⟨(some 64),(.fa 6 (.t 63)),(some (60,true))⟩,⟨(some 65),(.ld false 1 (.t 64)),(some (60,true))⟩,⟨(some 66),(.bin .eql (.t 65) (.k (.c (.v (.int .i64 17))))),(some (60,true))⟩,⟨(some 67),(.pick (.t 60) (.t 66) (.k (.c (.v (.bool false))))),none⟩,⟨(some 0),(.mv (.t 67)),none⟩]) (.kill [2,3,33,34,35,36,37,38,39,40,41,42,43,44,45,46,47,48,49,50,51,52,53,54,55,56,57,58,59,60,61,62,63,64,65,66,67] .ret))))))))
def rs14:List RS:=[(.t 0)]
def nt14:Nat:=68
theorem aw_segs:∀ e,e<D.awM.length→segs 4 [.v (.int .i64 0),.v (.int .i64 90),.v (.int .i64 5),.v (.int .i64 0),.v (.int .i64 0),.v (.int .i64 0),.v (.int .i64 0),.v (.int .i64 0),.v (.int .i64 0),.v (.int .i64 0),.v (.int .i64 0),.v (.int .i64 0),.v (.int .i64 0),.v (.int .i64 0),.v (.int .i64 0),.v (.int .i64 0),.v (.int .i64 0),.v (.int .i64 0),.v (.int .i64 0),.v (.int .i64 0),.v (.int .i64 0),.v (.int .i64 90),.v (.int .i64 6),.v (.int .i64 0),.v (.int .i64 0),.v (.int .i64 0),.v (.int .i64 0),.v (.int .i64 0),.v (.int .i64 0),.v (.int .i64 0),.v (.int .i64 0),.v (.int .i64 0),.v (.int .i64 0),.v (.int .i64 0),.v (.int .i64 0),.v (.int .i64 0),.v (.int .i64 0),.v (.int .i64 0),.v (.int .i64 0),.v (.int .i64 0),.v (.int .i64 1),.v (.int .i64 92),.v (.int .i64 0),.v (.int .i64 0),.v (.int .i64 1),.v (.int .i64 0),.v (.int .i64 0),.v (.int .i64 0),.v (.int .i64 1),.v (.int .i64 0),.v (.int .i64 0),.v (.int .i64 0),.v (.int .i64 1),.v (.int .i64 0),.v (.int .i64 0),.v (.int .i64 0),.v (.int .i64 1),.v (.int .i64 0),.v (.int .i64 0),.v (.int .i64 0),.v (.int .i64 0),.v (.int .i64 91),.v (.int .i64 0),.v (.int .i64 0),.v (.int .i64 0),.v (.int .i64 0),.v (.int .i64 0),.v (.int .i64 0),.v (.int .i64 0),.v (.int .i64 0),.v (.int .i64 0),.v (.int .i64 0),.v (.int .i64 0),.v (.int .i64 0),.v (.int .i64 0),.v (.int .i64 0),.v (.int .i64 0),.v (.int .i64 0),.v (.int .i64 0),.v (.int .i64 0),.v (.int .i64 0),.v (.int .i64 0),.v (.int .i64 0),.v (.int .i64 0),.v (.int .i64 0),.v (.int .i64 0),.v (.int .i64 0),.v (.int .i64 0)] e=ats D.Mo.enc D.awM D.mo0 e
 | 0,_=>rfl
 | 1,_=>rfl
 | 2,_=>rfl
 | 3,_=>rfl
 | 4,_=>rfl
 | 5,_=>rfl
 | 6,_=>rfl
 | 7,_=>rfl
 | 8,_=>rfl
 | 9,_=>rfl
 | 10,_=>rfl
 | 11,_=>rfl
 | 12,_=>rfl
 | 13,_=>rfl
 | 14,_=>rfl
 | 15,_=>rfl
 | 16,_=>rfl
 | 17,_=>rfl
 | 18,_=>rfl
 | 19,_=>rfl
 | 20,_=>rfl
 | 21,_=>rfl
 | n+22,h=>absurd h (by simp [D.awM])
set_option maxRecDepth 100000 in
set_option maxHeartbeats 2000000 in
theorem awake_calls (w:World):Calls Try.prog 14 #[] w (RetV w (.bool true)):=by
 refine enter0 (A:=[]) (c:=ir14) (rs:=rs14) (nt:=nt14) [] _ Try.func14 rfl (by kernel_rfl) (by kernel_rfl) rfl (fun E'=>rfl) (of_decide_eq_true rfl) ?_
 simp (maxSteps:=2000000) only [ir14,nt14,rs14,go_sem,↓runOp,↓reduceIte,Nat.reduceLT,Nat.reduceLeDiff,Nat.reduceAdd,Nat.reduceMul,Nat.reduceEqDiff]
 refine And.intro (by decide) ?_
 refine callN 4 (playT (D.runM (D.newM 2 2) D.awM)) (rnO (D.runM (D.newM 2 2) D.awM)) (fun E a w' hs=>play_calls w' _ 2 2 D.awM (by decide) (by decide) D.aw_rg (arr_own (d:=D.mo0) hs 0 22 22 _ rfl rfl (by decide) aw_segs)) ?_
 obtain ⟨f1,f2,f3,f4,f5,f6⟩:=D.aw_all
 generalize D.runM (D.newM 2 2) D.awM=m at *
 have g1:(((m.C.length:Nat):Int) == 4)=true:=by rw [f1];rfl
 simp (maxSteps:=2000000) only [go_sem,↓runOp,↓reduceIte,Nat.reduceLT,Nat.reduceLeDiff,Nat.reduceAdd,Nat.reduceEqDiff,reduceCtorEq,playT,rnO,iI]
 refine callV (.c (.v (.int .i64 0))) _ (fun E=>rfl) (fun E a w' hs=>num_calls w' _) ?_
 simp (maxSteps:=2000000) only [go_sem,↓gateS,↓runOp,↓imp_tt,↓reduceIte,Nat.reduceLT,Nat.reduceLeDiff,Nat.reduceAdd,Nat.reduceEqDiff,reduceCtorEq,Int.reduceToNat,Int.reduceLT,Int.reduceLE,f1,f2,f3,ats,D.Ca.enc,List.map_cons,List.map_nil]
 refine (fork_in (Z:=False) rfl (by simp [resAP,resA1,gB]) ?_).resolve_left id
 simp (maxSteps:=2000000) only [go_sem,↓gateS,↓runOp,↓imp_tt,↓reduceIte,Nat.reduceLT,Nat.reduceLeDiff,Nat.reduceAdd,Nat.reduceEqDiff,reduceCtorEq,Int.reduceToNat,Int.reduceLT,Int.reduceLE,f4,f5,f6,ats,D.Ca.enc,List.map_cons,List.map_nil]
 refine (fork_in (Z:=False) rfl (by simp [resAP,resA1,gB]) ?_).resolve_left id
 simp (maxSteps:=2000000) only [go_sem,↓gateS,↓runOp,↓imp_tt,↓reduceIte,Nat.reduceLT,Nat.reduceLeDiff,Nat.reduceAdd,Nat.reduceEqDiff,reduceCtorEq,Int.reduceToNat,Int.reduceLT,Int.reduceLE,f4,f5,f6,ats,D.Ca.enc,List.map_cons,List.map_nil]
 exact retV fun E=>rfl
end Go.Proofs.Ytcloeignccpljaa.Z
namespace Go.Proofs.Ytcloeignccpljaa.Z
open Go Go.RowKit
def ir16:IR:=(.seq (.ops [⟨(some 2),(.box 41 (.t 0)),none⟩,⟨(some 4),(.mv (.k (.c (.v (.bool false))))),none⟩]) (.kill [0,3,4,5,6,7,8,9,10,11] (.seq (.seq (.ops [⟨(some 5),(.mv (.k (.c (.v (.int .i64 0))))),none⟩]) (.blk 0 (.loop (.seq (.seq (.ops [⟨(some 7),(.mv (.t 5)),none⟩,⟨(some 8),(.fa 0 (.t 2)),none⟩,⟨(some 9),(.ld false 1 (.t 8)),none⟩,⟨(some 10),(.len (.t 9)),none⟩,⟨(some 11),(.bin .lss (.t 7) (.t 10)),none⟩]) (.kill [4,6,7,8,9,10,12,13,14,15,16,17,18,19,20,21,22,23,24,25,26,27,28,29,30,31,32,33,34,35,36,37,38,39,40,41] (.cond (.t 11) .skip (.exit 0)))) (.kill [11] (.seq (.blk 1 (.seq (.ops [⟨(some 14),(.fa 0 (.t 2)),none⟩,⟨(some 15),(.ld false 1 (.t 14)),none⟩,⟨(some 16),(.mv (.t 5)),none⟩,⟨(some 17),(.ia 9 (.t 15) (.t 16)),none⟩,⟨(some 18),(.ld true 9 (.t 17)),none⟩,⟨(some 6),(.new 77 [(.v (.int .i64 0)),(.v (.int .i64 0)),(.v (.int .i64 0)),(.v (.int .i64 0)),(.v (.int .i64 0)),(.v (.int .i64 0)),(.v (.int .i64 0)),(.v (.int .i64 0)),(.v (.int .i64 0))]),none⟩,⟨none,(.st 9 (.t 6) (.t 18)),none⟩]) (.kill [14,15,16,17,18] (.seq (.ops [⟨(some 19),(.fa 0 (.t 6)),none⟩,⟨(some 20),(.ld false 1 (.t 19)),none⟩,⟨(some 21),(.bin .eql (.t 20) (.k (.c (.v (.int .i64 0))))),none⟩,⟨(some 22),(.mv (.t 21)),none⟩,⟨(some 23),(.fa 4 (.t 6)),(some (22,true))⟩,⟨(some 24),(.ld false 1 (.t 23)),(some (22,true))⟩,⟨(some 25),(.mv (.t 1)),(some (22,true))⟩,⟨(some 26),(.bin .lss (.t 24) (.t 25)),(some (22,true))⟩,⟨(some 27),(.pick (.t 22) (.t 26) (.k (.c (.v (.bool false))))),none⟩,⟨(some 28),(.mv (.t 27)),none⟩,⟨(some 29),(.fa 5 (.t 6)),(some (28,true))⟩,⟨(some 30),(.ld false 1 (.t 29)),(some (28,true))⟩,⟨(some 31),(.bin .lss (.t 30) (.k (.c (.v (.int .i64 0))))),(some (28,true))⟩,⟨(some 32),(.mv (.t 31)),(some (28,true))⟩,⟨(some 33),(.fa 5 (.t 6)),(some (32,false))⟩,⟨(some 34),(.ld false 1 (.t 33)),(some (32,false))⟩,⟨(some 35),(.mv (.t 1)),(some (32,false))⟩,⟨(some 36),(.bin .geq (.t 34) (.t 35)),(some (32,false))⟩,⟨(some 37),(.pick (.t 32) (.k (.c (.v (.bool true)))) (.t 36)),(some (28,true))⟩,⟨(some 38),(.pick (.t 28) (.t 37) (.k (.c (.v (.bool false))))),none⟩]) (.kill [19,20,21,22,23,24,25,26,27,28,29,30,31,32,33,34,35,36,37] (.cond (.t 38) (.seq (.ops [⟨(some 39),(.fa 1 (.t 6)),none⟩,⟨(some 40),(.ld false 1 (.t 39)),none⟩,⟨(some 41),(.bin .eql (.t 40) (.k (.c (.v (.int .i64 91))))),none⟩,⟨(some 4),(.mv (.t 41)),none⟩]) (.kill [1,2,5,6,38,39,40,41] .ret)) .skip)))))) (.kill [4,6,14,15,16,17,18,19,20,21,22,23,24,25,26,27,28,29,30,31,32,33,34,35,36,37,38,39,40,41] (.ops [⟨(some 12),(.mv (.t 5)),none⟩,⟨(some 13),(.bin .add (.t 12) (.k (.c (.v (.int .i64 1))))),none⟩,⟨(some 5),(.mv (.t 13)),none⟩])))))))) (.kill [1,2,4,5,6,7,8,9,10,11,12,13,14,15,16,17,18,19,20,21,22,23,24,25,26,27,28,29,30,31,32,33,34,35,36,37,38,39,40,41] (.seq (.ops [⟨(some 4),(.mv (.k (.c (.v (.bool false))))),none⟩]) .ret)))))
def rs16:List RS:=[(.t 4)]
def nt16:Nat:=42
def ir15:IR:=(.seq (.ops [⟨(some 2),(.box 23 (.t 0)),none⟩,⟨(some 4),(.new 41 [(.v (.slice none 0 0)),(.v (.slice none 0 0)),(.v (.slice none 0 0)),(.v (.slice none 0 0))]),none⟩,⟨(some 5),(.mv (.k (.c (.v (.bool false))))),none⟩]) (.kill [0,3,5,6,7,8,9,10,11] (.seq (.ops [⟨(some 9),(.ld true 2 (.t 2)),none⟩,⟨(some 10),(.mv (.t 1)),none⟩,⟨(some 11),(.call 17 [(.t 9),(.t 10)]),none⟩,⟨(some 8),(.mv (.t 11)),none⟩,⟨(some 12),(.ext 0 (.t 8)),none⟩,⟨(some 13),(.ext 1 (.t 8)),none⟩,⟨(some 6),(.new 41 [(.v (.slice none 0 0)),(.v (.slice none 0 0)),(.v (.slice none 0 0)),(.v (.slice none 0 0))]),none⟩,⟨none,(.st 4 (.t 6) (.t 12)),none⟩,⟨(some 7),(.mv (.t 13)),none⟩]) (.kill [1,2,8,9,10,11,12,13] (.seq (.draw [(⟨(some 14),(.ld true 4 (.t 6)),none⟩,([],[15,16,17,18,19,20])),(⟨(some 15),(.mv (.t 7)),none⟩,([0],[14])),(⟨(some 16),(.call 12 [(.t 15)]),none⟩,([0],[14])),(⟨(some 17),(.bin .eql (.t 16) (.k (.c (.v (.int .i64 0))))),none⟩,([0],[14])),(⟨(some 18),(.mv (.t 17)),none⟩,([0],[14])),(⟨(some 19),(.call 14 []),(some (18,true))⟩,([0],[14])),(⟨(some 20),(.pick (.t 18) (.t 19) (.k (.c (.v (.bool false))))),none⟩,([0],[14])),(⟨none,(.st 4 (.t 4) (.t 14)),none⟩,([6],[20])),(⟨(some 5),(.mv (.t 20)),none⟩,([],[]))]) (.kill [6,7,14,15,16,17,18,19,20] .ret))))))
def rs15:List RS:=[(.cell 4 true 4),(.t 5)]
def nt15:Nat:=21
theorem drop_at {α:Type} {l:List α} {k:Nat} {d:α} (h:k<l.length):l.drop k=l.getD k d :: l.drop (k+1):=by
 rw [List.drop_eq_getElem_cons h,List.getD_eq_getElem?_getD,List.getElem?_eq_getElem h];rfl
def IsSl (v:Value):Prop:=∃ a n c,v = .slice a n c
set_option maxRecDepth 100000 in
set_option maxHeartbeats 2000000 in
theorem owned_calls (w:World) (v v1 v2 v3:Value) (C:List D.Ca) (p:Int) (h1:IsSl v1) (h2:IsSl v2) (h3:IsSl v3) (h:Arr w D.Ca.enc 9 v C) :
  Calls Try.prog 16 #[.agg #[v,v1,v2,v3],.int .i64 p] w (RetV w (.bool (D.owned C p))):=by
 obtain ⟨a1,n1,c1,rfl⟩:=h1
 obtain ⟨a2,n2,c2,rfl⟩:=h2
 obtain ⟨a3,n3,c3,rfl⟩:=h3
 refine enter1 (A:=[]) (c:=ir16) (rs:=rs16) (nt:=nt16) D.ca0 D.Ca.ok h [.agg [.xv (0,0,0),.v (.slice a1 n1 c1),.v (.slice a2 n2 c2),.v (.slice a3 n3 c3)],.c (iI p)] _ Try.func16 rfl (by kernel_rfl) (by kernel_rfl) rfl (fun E' h0=>by simp [SV.den,SC.den,h0,iI]) (of_decide_eq_true rfl) ?_
 have hlen:=Z.Arr.lenM h
 simp only [maxLen] at hlen
 simp (maxSteps:=2000000) only [ir16,nt16,rs16,go_sem,↓reduceIte,Nat.reduceLT,Nat.reduceLeDiff,Nat.reduceAdd,Nat.reduceSub,Nat.reduceMul,Nat.reduceEqDiff,reduceCtorEq,Int.reduceToNat,Int.reduceEq,Int.reduceBEq,Int.reduceBNe,Int.reduceLT,Int.reduceLE,Int.reduceNeg,Int.reduceAdd,Int.reduceSub,Int.reduceMul,Int.reduceGE,Int.reduceGT,endO,iI]
 refine loopI (ι:={ k:Nat // k≤C.length∧D.owned C p=D.owned (C.drop k) p }) (fun k=>⟨42,[(1,.c (iI p)),(2,.c (.ptr (1,0,0) 0)),(5,.c (iI k.1))],[(1,.one (.bk [.xv (0,0,0),.v (.slice a1 n1 c1),.v (.slice a2 n2 c2),.v (.slice a3 n3 c3)] 41))],[(0,.one (arrOf D.Ca.enc 9 C D.ca0))],[],2⟩) (fun k=>C.length - k.1) ⟨0,Nat.zero_le _,rfl⟩ ?_ ?_
 ·exact le_tmps (by simp [TmpsSub,look,iI])
 rintro ⟨k,hk,hd⟩
 dsimp only
 simp (maxSteps:=2000000) only [go_sem,↓reduceIte,Nat.reduceLT,Nat.reduceLeDiff,Nat.reduceAdd,Nat.reduceSub,Nat.reduceMul,Nat.reduceEqDiff,reduceCtorEq,Int.reduceToNat,Int.reduceEq,Int.reduceBEq,Int.reduceBNe,Int.reduceLT,Int.reduceLE,Int.reduceNeg,Int.reduceAdd,Int.reduceSub,Int.reduceMul,Int.reduceGE,Int.reduceGT,endO,iI,D.Ca.enc]
 have hO:∀ c:D.Ca,(if (if (c.th == 0)=true then decide (c.bg<p) else false)=true then if decide (c.en<0)=true then true else decide (c.en≥p) else false)=D.ownC p c:=fun c=>by
  rw [Bool.eq_iff_iff]
  simp only [D.ownC,b_decR,b_decL,bt_ite,bf_ite,bt_dec,bf_dec,bt_int,bf_int,bt_nint,bf_nint,bt_bool,bf_bool,bt_nbool,bf_nbool,bt_not,bf_not,bt_and,bf_and,bt_or,bf_or,Bool.false_eq_true,Bool.true_eq_false,Bool.not_eq_true,Bool.not_eq_false,reduceCtorEq,false_iff,true_iff,iff_false,iff_true,and_true,true_and,and_false,false_and,or_true,true_or,or_false,false_or,not_true_eq_false,not_false_eq_true,ne_eq]
  omega
 rw [hO]
 refine both (fun hlt=>?_) (fun hge=>?_)
 ·have hlt:k<C.length:=by simpa using hlt
  rw [drop_at (d:=D.ca0) hlt] at hd
  have hd:D.owned C p=if D.ownC p (C.getD k D.ca0)=true then decide ((C.getD k D.ca0).op=91) else D.owned (C.drop (k+1)) p:=hd
  refine ⟨hlt,hlt,fun ho=>?_,fun ho=>?_⟩
  ·rw [if_pos ho] at hd
   exact retV fun E=>by rw [hd];simp [SV.den,SC.den,b_decR,b_decL,bt_ite,bf_ite,bt_dec,bf_dec,bt_int,bf_int,bt_nint,bf_nint,bt_bool,bf_bool,bt_nbool,bf_nbool,bt_not,bf_not,bt_and,bf_and,bt_or,bf_or,Bool.false_eq_true,Bool.true_eq_false,Bool.not_eq_true,Bool.not_eq_false,reduceCtorEq,false_iff,true_iff,iff_false,iff_true,and_true,true_and,and_false,false_and,or_true,true_or,or_false,false_or,not_true_eq_false,not_false_eq_true,ne_eq]
  ·rw [if_neg (by rw [ho];simp)] at hd
   rw [wrI (show -9223372036854775808≤(k:Int)+1∧(k:Int)+1≤9223372036854775807 by omega)]
   exact backI ⟨k+1,hlt,hd⟩ (by simp only;omega) (le_ren (id) rfl rfl (by simp [TmpsLe,look,SV.ren,SC.ren,SC.renL,ren1L,ren1,idσ,SV.okN,SC.okN,SC.okL,ok1L]) (by simp [OwnLe,BlkLeO,BlkLe,atN,look,Fm.get,idσ,SC.renL,SC.ren,SC.okL,SC.okN,renL_v,okL_v]) (by simp [ArrsLe,ArrLeO,atN,look,Fm.get,idσ,arrLe_of,arrLe_0]) rfl)
 ·have hge:¬ k<C.length:=by simpa using hge
  rw [List.drop_eq_nil_of_le (by omega)] at hd
  exact retV fun E=>by rw [hd];rfl
def playedT (m:D.Pm) (b:Nat):SV:=.tup [(true,[.sl (b,0,0) 9 0 m.C.length none,.sl (b+1,0,0) 7 0 m.L.length none,.sl (b+3,0,0) 5 0 0 none,.sl (b+2,0,0) 1 0 m.W.length none]),(false,[.bo true])]
set_option maxRecDepth 100000 in
set_option maxHeartbeats 2000000 in
theorem played_calls (w:World) (v:Value) (th:Nat) (r:Int) (l:List D.Mo) (hm:mayD th r=true) (hl:l.length≤65536) (ha:∀ y∈l,D.i64 y.arg=y.arg) (h:Arr w D.Mo.enc 4 v l) :
  Calls Try.prog 15 #[.agg #[.int .i64 th,.int .i64 r],v] w (RetN w 4 (playedT (D.runM (D.newM th r) l)) (rnO (D.runM (D.newM th r) l))):=by
 refine enter1 (A:=[]) (c:=ir15) (rs:=rs15) (nt:=nt15) D.mo0 D.Mo.ok h [dA th r,.c (.xv (0,0,0))] _ Try.func15 rfl (by kernel_rfl) (by kernel_rfl) rfl (fun E' h0=>by simp [dA,SV.den,SC.den,h0]) (of_decide_eq_true rfl) ?_
 generalize hR:RetN w 4 _ _=R
 simp (maxSteps:=2000000) only [ir15,nt15,rs15,go_sem,↓reduceIte,Nat.reduceLT,Nat.reduceLeDiff,Nat.reduceAdd,Nat.reduceSub,Nat.reduceMul,Nat.reduceEqDiff,reduceCtorEq,Int.reduceToNat,Int.reduceEq,Int.reduceBEq,Int.reduceBNe,Int.reduceLT,Int.reduceLE,Int.reduceNeg,Int.reduceAdd,Int.reduceSub,Int.reduceMul,Int.reduceGE,Int.reduceGT,endO,dA]
 refine callN 4 (playT (D.runM (D.newM th r) l)) (rnO (D.runM (D.newM th r) l)) (fun E a w' hs=>play_calls w' _ th r l hm hl ha (arr_at (d:=D.mo0) hs 0 rfl)) ?_
 generalize D.runM (D.newM th r) l=m at hR ⊢
 simp (maxSteps:=2000000) only [go_sem,↓reduceIte,Nat.reduceLT,Nat.reduceLeDiff,Nat.reduceAdd,Nat.reduceSub,Nat.reduceMul,Nat.reduceEqDiff,reduceCtorEq,Int.reduceToNat,Int.reduceEq,Int.reduceBEq,Int.reduceBNe,Int.reduceLT,Int.reduceLE,Int.reduceNeg,Int.reduceAdd,Int.reduceSub,Int.reduceMul,Int.reduceGE,Int.reduceGT,endO,playT,rnO,iI]
 refine draw_vc (by kernel_rfl) (mkTab_ok _ _) (of_decide_eq_true rfl) (of_decide_eq_true rfl) ?_
 repeat (first | simp (maxSteps:=2000000) only [go_sem,↓reduceIte,Nat.reduceLT,Nat.reduceLeDiff,Nat.reduceAdd,Nat.reduceSub,Nat.reduceMul,Nat.reduceEqDiff,reduceCtorEq,Int.reduceToNat,Int.reduceEq,Int.reduceBEq,Int.reduceBNe,Int.reduceLT,Int.reduceLE,Int.reduceNeg,Int.reduceAdd,Int.reduceSub,Int.reduceMul,Int.reduceGE,Int.reduceGT,endO] | rw [dr_cons])
 refine dcallV (.c (.v (.int .i64 0))) _ (fun E=>rfl) (fun E a w' hs=>num_calls w' _) ?_
 repeat (first | simp (maxSteps:=2000000) only [go_sem,↓reduceIte,Nat.reduceLT,Nat.reduceLeDiff,Nat.reduceAdd,Nat.reduceSub,Nat.reduceMul,Nat.reduceEqDiff,reduceCtorEq,Int.reduceToNat,Int.reduceEq,Int.reduceBEq,Int.reduceBNe,Int.reduceLT,Int.reduceLE,Int.reduceNeg,Int.reduceAdd,Int.reduceSub,Int.reduceMul,Int.reduceGE,Int.reduceGT,endO,iI] | rw [dr_cons])
 refine Or.inr (dcallV (.c (.v (.bool true))) _ (fun E=>rfl) (fun E a w' hs=>awake_calls w') ?_)
 repeat (first | simp (maxSteps:=2000000) only [go_sem,↓reduceIte,Nat.reduceLT,Nat.reduceLeDiff,Nat.reduceAdd,Nat.reduceSub,Nat.reduceMul,Nat.reduceEqDiff,reduceCtorEq,Int.reduceToNat,Int.reduceEq,Int.reduceBEq,Int.reduceBNe,Int.reduceLT,Int.reduceLE,Int.reduceNeg,Int.reduceAdd,Int.reduceSub,Int.reduceMul,Int.reduceGE,Int.reduceGT,endO,iI] | rw [dr_cons])
 refine ⟨Or.inr trivial,?_⟩
 rw [← hR]
 refine retN (fun k=>3+k) (fun b=>⟨by simp [playedT,SV.ren,SC.ren,SC.renL,ren1L,ren1,fromσ,iI],by simp [playedT,SV.okN,SC.okN,SC.okL,ok1L,NewIds,iI]⟩) (fun b=>?_) (fun b=>?_)
 ·show OwnLe _ (idσ fun i=>3+(i - b)) _ _
  exact own_av ⟨by omega,by omega⟩ (by simp only [Nat.sub_self];rfl) (Nat.le_refl _) (fun _ _=>rfl) (own_av ⟨by omega,by omega⟩ (by rw [Nat.add_sub_cancel_left];rfl) (Nat.le_refl _) (fun _ _=>rfl) (own_av ⟨by omega,by omega⟩ (by rw [Nat.add_sub_cancel_left];rfl) (Nat.le_refl _) (fun _ _=>rfl) (own_av ⟨by omega,by omega⟩ (by rw [Nat.add_sub_cancel_left];rfl) (Nat.le_refl _) (fun _ _=>rfl) trivial)))
 ·exact injN_from fun x hx y hy e=>by
   simp [rnO,keysL] at hx hy
   omega
end Go.Proofs.Ytcloeignccpljaa.Z
