/- DequeSwapsSaid: what its proof is made of. No condition. -/
import Derived.Test.YtcloeignccpljaaPkIDequeSwapsAG
set_option linter.unusedSimpArgs false
set_option linter.unusedVariables false
namespace Go.Proofs.Ytcloeignccpljaa.D
open Go
theorem ops_pt {C C' : List Ca} (h:SameOps C C') (k:Nat) (p:Int):SameOps C (C'.set k { C'.getD k ca0 with pt:=p }):=h.set k _ rfl rfl
theorem ops_en {C C' : List Ca} (h:SameOps C C') (k:Nat) (a b c:Int):SameOps C (C'.set k { C'.getD k ca0 with en:=a,ak:=b,av:=c }):=h.set k _ rfl rfl
section
variable {n:Int} {x:Rm} {i:Nat}
theorem bB (h:PrR n x) : -1≤rwd x 1∧rwd x 1≤65792:=by
 have h1:=h.v.own
 have h2:=h.v.t0
 have h3:=h.tn
 have h4:=h.nM
 have h5:=h.rm
 cases e:pastV (vw x 0) with
 | false=>have:=h1.calm e;omega
 | true=>have:=h1.take e;omega
theorem pr_rpush (h:PrR n x) (hi:0<x.T.length) (hb:0≤(thr x 0).call) (ho:(x.C.getD (thr x 0).call.toNat ca0).op=90) (hl:1≤(thr x 0).line∧(thr x 0).line≤4) (hn:n+1≤65536):PrR (n+1) (rpush x 0):=by
 have e0:=ext_busy hb
 rw [ho] at e0
 have ht:=h.tn
 have hB:=bB h
 have hwl:=h.wlen
 have hr1:=h.v.rm
 have hr2:=h.rm
 rcases (show (thr x 0).line=1∨(thr x 0).line=2∨(thr x 0).line=3∨(thr x 0).line=4 by omega) with l | l | l | l
 ·unfold rpush;rw [if_pos l]
  rw [l] at e0
  refine pr_of h hi (v:=⟨true,90,2,rwd x 1,(thr x 0).t⟩) (y:={ thr x 0 with b:=rwd x 1,line:=2 }) ?_ ?_ ?_ ?_ ?_ ?_ (by omega) hn ?_ ?_ ?_
  ·rfl
  ·exact (SameOps.refl _)
  ·rfl
  ·rfl
  ·rfl
  ·exact fun _=>rfl
  ·exact (show rwd x 0≤n+1 by omega)
  ·exact vO_busy hb ho
  ·exact pr_push1 h.v e0
 ·unfold rpush;rw [if_neg (by omega),if_pos l]
  rw [l] at e0
  have hbb:=(h.v.own.push (by rw [e0]) (by rw [e0])).1 (by rw [e0];simp)
  rw [e0] at hbb
  simp only at hbb
  have h0:=h.v.t0
  have hi64:i64 ((thr x 0).b - rwd x 0)=(thr x 0).b - rwd x 0:=i64_id (by have:=h.nM;omega) (by omega)
  rw [hi64]
  obtain ⟨p1,p2⟩:=pr_push2 h.v e0 (rwd x 0)
  split
  ·next q =>
   refine pr_of h hi (v:=idle) (y:={ ({ thr x 0 with t:=rwd x 0 }:Th) with call:=-1 }) ?_ ?_ ?_ ?_ ?_ ?_ (by omega) hn ?_ ?_ ?_
   ·simp only [rend,rpoint,setTh,rload,thr,List.set_set]
    rw [set_getD _ _ _ _ _ hi,if_pos rfl]
   ·exact (ops_en (ops_pt (SameOps.refl _) _ _) _ _ _ _)
   ·rfl
   ·rfl
   ·rfl
   ·exact fun q=>by simp at q
   ·exact (show rwd x 0≤n+1 by omega)
   ·exact vO_idle
   ·exact p1 q
  ·next q =>
   refine pr_of h hi (v:=⟨true,90,3,(thr x 0).b,rwd x 0⟩) (y:={ thr x 0 with t:=rwd x 0,line:=3 }) ?_ ?_ ?_ ?_ ?_ ?_ (by omega) hn ?_ ?_ ?_
   ·rfl
   ·exact (SameOps.refl _)
   ·rfl
   ·rfl
   ·rfl
   ·exact fun _=>rfl
   ·exact (show rwd x 0≤n+1 by omega)
   ·exact vO_busy hb ho
   ·exact p2 q
 ·unfold rpush;rw [if_neg (by omega),if_neg (by omega),if_pos l]
  rw [l] at e0
  have hbb:=(h.v.own.push (by rw [e0]) (by rw [e0])).1 (by rw [e0];simp)
  rw [e0] at hbb
  simp only at hbb
  have hc:=h.v.own.calm (by rw [e0];rfl)
  have h0:=h.v.t0
  obtain ⟨c1,c2⟩:=rcell_rg h (a:=(thr x 0).b) (by omega)
  have w0:∀ v,rwd (rstore x 0 (rcell x (thr x 0).b) v) 0=rwd x 0:=fun v=>by
   have:=rwd_set (x:=x) (a:=rcell x (thr x 0).b) (v:=v) (b:=0) (by omega) c2 (by omega)
   rw [if_neg (by omega)] at this;exact this
  have w1:∀ v,rwd (rstore x 0 (rcell x (thr x 0).b) v) 1=rwd x 1:=fun v=>by
   have:=rwd_set (x:=x) (a:=rcell x (thr x 0).b) (v:=v) (b:=1) (by omega) c2 (by omega)
   rw [if_neg (by omega)] at this;exact this
  refine pr_of h hi (v:=⟨true,90,4,(thr x 0).b,(thr x 0).t⟩) (y:={ thr x 0 with line:=4 }) ?_ ?_ ?_ ?_ ?_ ?_ (by omega) hn ?_ ?_ ?_
  ·rfl
  ·exact (SameOps.refl _)
  ·simp [setTh,rstore]
  ·rfl
  ·rfl
  ·exact fun _=>rfl
  ·show rwd (rstore x 0 (rcell x (thr x 0).b) _) 0≤n+1
   rw [w0];omega
  ·exact vO_busy hb ho
  ·show PrV (rwd (rstore x 0 (rcell x (thr x 0).b) _) 0) (rwd (rstore x 0 (rcell x (thr x 0).b) _) 1) _ _ _ _
   rw [w0,w1]
   exact pr_push3 h.v e0
 ·unfold rpush;rw [if_neg (by omega),if_neg (by omega),if_neg (by omega),if_pos l]
  rw [l] at e0
  obtain ⟨p1,p2⟩:=pr_push4 h.v e0
  have w0:∀ v,rwd (rstore x 0 1 v) 0=rwd x 0:=fun v=>by
   have:=rwd_set (x:=x) (a:=1) (v:=v) (b:=0) (by omega) (by omega) (by omega)
   rw [if_neg (by omega)] at this;exact this
  have w1:∀ v,rwd (rstore x 0 1 v) 1=v:=fun v=>by
   have:=rwd_set (x:=x) (a:=1) (v:=v) (b:=1) (by omega) (by omega) (by omega)
   rw [if_pos rfl] at this;exact this
  refine pr_of h hi (v:=idle) (y:={ thr x 0 with call:=-1 }) ?_ ?_ ?_ ?_ ?_ ?_ (by omega) hn ?_ ?_ ?_
  ·rfl
  ·exact (ops_en (ops_pt (SameOps.refl _) _ _) _ _ _ _)
  ·simp [rend,rpoint,rstore]
  ·rfl
  ·rfl
  ·exact fun q=>by simp at q
  ·show rwd (rstore x 0 1 _) 0≤n+1
   rw [w0];omega
  ·exact vO_idle
  ·show PrV (rwd (rstore x 0 1 _) 0) (rwd (rstore x 0 1 _) 1) _ _ _ _
   rw [w0,w1,i64_id (by omega) (by omega)]
   exact p2
end
end Go.Proofs.Ytcloeignccpljaa.D
namespace Go.Proofs.Ytcloeignccpljaa.D
open Go
section
variable {n:Int} {x:Rm} {i:Nat}
theorem st0 {a v:Int} (ha:1≤a) (hl:a<x.W.length) (t:Int):rwd (rstore x t a v) 0=rwd x 0:=by
 have:=rwd_set (x:=x) (a:=a) (v:=v) (b:=0) (by omega) hl (by omega)
 rw [if_neg (by omega)] at this;exact this
theorem st1 {v:Int} (hl:1<(x.W.length:Int)) (t:Int):rwd (rstore x t 1 v) 1=v:=by
 have:=rwd_set (x:=x) (a:=1) (v:=v) (b:=1) (by omega) hl (by omega)
 rw [if_pos rfl] at this;exact this
theorem sw0 {o:Int} (hl:1<(x.W.length:Int)) (t:Int):rwd (rswap x t o) 0=if rwd x 0=o then i64 (o+1) else rwd x 0:=by
 show (if rwd x 0=o then x.W.set 0 (i64 (o+1)) else x.W).getD (0:Int).toNat 0=_
 by_cases q:rwd x 0=o
 ·have:=rwd_set (x:=x) (a:=0) (v:=i64 (o+1)) (b:=0) (by omega) (by omega) (by omega)
  rw [if_pos rfl] at this
  rw [if_pos q,if_pos q]
  exact this
 ·rw [if_neg q,if_neg q];rfl
theorem sw1 {o:Int} (hl:1<(x.W.length:Int)) (t:Int):rwd (rswap x t o) 1=rwd x 1:=by
 show (if rwd x 0=o then x.W.set 0 (i64 (o+1)) else x.W).getD (1:Int).toNat 0=_
 split
 ·have:=rwd_set (x:=x) (a:=0) (v:=i64 (o+1)) (b:=1) (by omega) (by omega) (by omega)
  rw [if_neg (by omega)] at this
  exact this
 ·rfl
theorem pr_rtake (h:PrR n x) (hi:0<x.T.length) (hb:0≤(thr x 0).call) (ho:(x.C.getD (thr x 0).call.toNat ca0).op=91) (hl:1≤(thr x 0).line∧(thr x 0).line≤8) (hmv:0≤x.mv) (hn:n+1≤65536):PrR (n+1) (rtake x 0):=by
 have e0:=ext_busy hb
 rw [ho] at e0
 have ht:=h.tn
 have hB:=bB h
 have hwl:=h.wlen
 have hr1:=h.v.rm
 have hr2:=h.rm
 have hT0:=h.v.t0
 rcases (show (thr x 0).line=1∨(thr x 0).line=2∨(thr x 0).line=3∨(thr x 0).line=4∨(thr x 0).line=5∨(thr x 0).line=6∨(thr x 0).line=7∨(thr x 0).line=8 by omega) with l | l | l | l | l | l | l | l
 ·unfold rtake;rw [if_pos l]
  rw [l] at e0
  refine pr_of h hi (v:=⟨true,91,2,rwd x 1,(thr x 0).t⟩) (y:={ thr x 0 with b:=rwd x 1,line:=2 }) ?_ ?_ ?_ ?_ ?_ ?_ (by omega) hn ?_ ?_ ?_
  ·rfl
  ·exact SameOps.refl _
  ·rfl
  ·exact rfl
  ·exact rfl
  ·exact fun _=>rfl
  ·exact (show rwd x 0≤n+1 by omega)
  ·exact vO_busy hb ho
  ·exact pr_take1 h.v e0
 ·unfold rtake;rw [if_neg (by omega),if_pos l]
  rw [l] at e0
  obtain ⟨p1,p2⟩:=pr_take2 h.v e0 hmv
  have hla:rlast x 0=(thr x 0).b - 1:=i64_id (by omega) (by omega)
  rw [hla]
  refine pr_of h hi (v:=⟨true,91,3,(thr x 0).b,(thr x 0).t⟩) (y:={ thr x 0 with line:=3 }) ?_ ?_ ?_ ?_ ?_ ?_ (by omega) hn ?_ ?_ ?_
  ·rfl
  ·exact ops_pt (SameOps.refl _) _ _
  ·simp [setTh,rpoint,rstore]
  ·exact rfl
  ·exact rfl
  ·exact fun _=>rfl
  ·show rwd (rstore x 0 1 _) 0≤n+1
   rw [st0 (by omega) (by omega)];omega
  ·exact vO_busy hb ho
  ·show PrV (rwd (rstore x 0 1 _) 0) (rwd (rstore x 0 1 _) 1) _ _ _ _
   rw [st0 (by omega) (by omega),st1 (by omega)]
   exact p2
 ·unfold rtake;rw [if_neg (by omega),if_neg (by omega),if_pos l]
  rw [l] at e0
  have hk:=h.v.own.take (by rw [e0];exact pv91 (by omega))
  rw [e0] at hk
  simp only at hk
  have hla:rlast x 0=(thr x 0).b - 1:=i64_id (by omega) (by omega)
  rw [hla]
  obtain ⟨p1,p2⟩:=pr_take3 h.v e0
  split
  ·next q =>
   refine pr_of h hi (v:=⟨true,91,4,(thr x 0).b,rwd x 0⟩) (y:={ thr x 0 with t:=rwd x 0,line:=4 }) ?_ ?_ ?_ ?_ ?_ ?_ (by omega) hn ?_ ?_ ?_
   ·rfl
   ·exact ops_pt (SameOps.refl _) _ _
   ·rfl
   ·exact rfl
   ·exact rfl
   ·exact fun _=>rfl
   ·exact (show rwd x 0≤n+1 by omega)
   ·exact vO_busy hb ho
   ·exact p1 q
  ·next q =>
   refine pr_of h hi (v:=⟨true,91,5,(thr x 0).b,rwd x 0⟩) (y:={ thr x 0 with t:=rwd x 0,line:=5 }) ?_ ?_ ?_ ?_ ?_ ?_ (by omega) hn ?_ ?_ ?_
   ·rfl
   ·exact SameOps.refl _
   ·rfl
   ·exact rfl
   ·exact rfl
   ·exact fun _=>rfl
   ·exact (show rwd x 0≤n+1 by omega)
   ·exact vO_busy hb ho
   ·exact p2 q
 ·unfold rtake;rw [if_neg (by omega),if_neg (by omega),if_neg (by omega),if_pos l]
  rw [l] at e0
  have hk:=h.v.own.take (by rw [e0];exact pv91 (by omega))
  rw [e0] at hk
  simp only at hk
  have hla:rlast x 0=(thr x 0).b - 1:=i64_id (by omega) (by omega)
  refine pr_of h hi (v:=idle) (y:={ thr x 0 with call:=-1 }) ?_ ?_ ?_ ?_ ?_ ?_ (by omega) hn ?_ ?_ ?_
  ·rfl
  ·exact ops_en (SameOps.refl _) _ _ _ _
  ·simp [rend,rstore]
  ·exact rfl
  ·exact rfl
  ·exact fun q=>by simp at q
  ·show rwd (rstore x 0 1 _) 0≤n+1
   rw [st0 (by omega) (by omega)];omega
  ·exact vO_idle
  ·show PrV (rwd (rstore x 0 1 _) 0) (rwd (rstore x 0 1 _) 1) _ _ _ _
   rw [st0 (by omega) (by omega),st1 (by omega)]
   exact pr_take4 h.v e0
 ·unfold rtake;rw [if_neg (by omega),if_neg (by omega),if_neg (by omega),if_neg (by omega),if_pos l]
  rw [l] at e0
  have hk:=h.v.own.take (by rw [e0];exact pv91 (by omega))
  rw [e0] at hk
  simp only at hk
  have hla:rlast x 0=(thr x 0).b - 1:=i64_id (by omega) (by omega)
  rw [hla]
  have h5:=hk.2.2.2.2.2.2.1 trivial
  obtain ⟨p1,p2⟩:=pr_take5 h.v e0
  split
  ·next q =>
   refine pr_of h hi (v:=idle) (y:={ ({ thr x 0 with v:=rwd x (rcell x ((thr x 0).b - 1)) }:Th) with call:=-1 }) ?_ ?_ ?_ ?_ ?_ ?_ (by omega) hn ?_ ?_ ?_
   ·simp only [rend,setTh,rload,thr,List.set_set]
    rw [set_getD _ _ _ _ _ hi,if_pos rfl]
   ·exact ops_en (SameOps.refl _) _ _ _ _
   ·rfl
   ·exact rfl
   ·exact rfl
   ·exact fun q=>by simp at q
   ·exact (show rwd x 0≤n+1 by omega)
   ·exact vO_idle
   ·exact p1 q
  ·next q =>
   refine pr_of h hi (v:=⟨true,91,6,(thr x 0).b,(thr x 0).t⟩) (y:={ thr x 0 with v:=rwd x (rcell x ((thr x 0).b - 1)),line:=6 }) ?_ ?_ ?_ ?_ ?_ ?_ (by omega) hn ?_ ?_ ?_
   ·rfl
   ·exact SameOps.refl _
   ·rfl
   ·exact rfl
   ·exact rfl
   ·exact fun _=>rfl
   ·exact (show rwd x 0≤n+1 by omega)
   ·exact vO_busy hb ho
   ·exact p2 q
 ·unfold rtake;rw [if_neg (by omega),if_neg (by omega),if_neg (by omega),if_neg (by omega),if_neg (by omega),if_pos l]
  rw [l] at e0
  have hk:=h.v.own.take (by rw [e0];exact pv91 (by omega))
  rw [e0] at hk
  simp only at hk
  have hla:rlast x 0=(thr x 0).b - 1:=i64_id (by omega) (by omega)
  have h6:=hk.2.2.2.2.2.2.2.1 trivial
  obtain ⟨p1,p2⟩:=pr_take6 h.v e0
  have hii:i64 ((thr x 0).t+1)=(thr x 0).t+1:=i64_id (by omega) (by have:=h.nM;omega)
  split
  ·next q =>
   refine pr_of h hi (v:=⟨true,91,7,(thr x 0).b,(thr x 0).t⟩) (y:={ thr x 0 with line:=7 }) ?_ ?_ ?_ ?_ ?_ ?_ (by omega) hn ?_ ?_ ?_
   ·rfl
   ·exact SameOps.refl _
   ·simp only [setTh,rswap]
    split <;> simp
   ·exact rfl
   ·exact rfl
   ·exact fun _=>rfl
   ·show rwd (rswap x 0 _) 0≤n+1
    rw [sw0 (by omega),if_pos q,hii];omega
   ·exact vO_busy hb ho
   ·show PrV (rwd (rswap x 0 _) 0) (rwd (rswap x 0 _) 1) _ _ _ _
    rw [sw0 (by omega),sw1 (by omega),if_pos q,hii]
    exact p1 q
  ·next q =>
   refine pr_of h hi (v:=⟨true,91,8,(thr x 0).b,(thr x 0).t⟩) (y:={ thr x 0 with line:=8 }) ?_ ?_ ?_ ?_ ?_ ?_ (by omega) hn ?_ ?_ ?_
   ·rfl
   ·exact ops_pt (SameOps.refl _) _ _
   ·simp only [rpoint,setTh,rswap]
    split <;> simp
   ·exact rfl
   ·exact rfl
   ·exact fun _=>rfl
   ·show rwd (rswap x 0 _) 0≤n+1
    rw [sw0 (by omega),if_neg q];omega
   ·exact vO_busy hb ho
   ·show PrV (rwd (rswap x 0 _) 0) (rwd (rswap x 0 _) 1) _ _ _ _
    rw [sw0 (by omega),sw1 (by omega),if_neg q]
    exact p2 q
 ·unfold rtake;rw [if_neg (by omega),if_neg (by omega),if_neg (by omega),if_neg (by omega),if_neg (by omega),if_neg (by omega),if_pos l]
  rw [l] at e0
  have hk:=h.v.own.take (by rw [e0];exact pv91 (by omega))
  rw [e0] at hk
  simp only at hk
  have hla:rlast x 0=(thr x 0).b - 1:=i64_id (by omega) (by omega)
  have h7:=hk.2.2.2.2.2.2.2.2 (by omega)
  have hii:i64 ((thr x 0).t+1)=(thr x 0).t+1:=i64_id (by omega) (by have:=h.nM;omega)
  rw [hii]
  refine pr_of h hi (v:=idle) (y:={ thr x 0 with call:=-1 }) ?_ ?_ ?_ ?_ ?_ ?_ (by omega) hn ?_ ?_ ?_
  ·rfl
  ·exact ops_en (SameOps.refl _) _ _ _ _
  ·simp [rend,rstore]
  ·exact rfl
  ·exact rfl
  ·exact fun q=>by simp at q
  ·show rwd (rstore x 0 1 _) 0≤n+1
   rw [st0 (by omega) (by omega)];omega
  ·exact vO_idle
  ·show PrV (rwd (rstore x 0 1 _) 0) (rwd (rstore x 0 1 _) 1) _ _ _ _
   rw [st0 (by omega) (by omega),st1 (by omega)]
   exact pr_take7 h.v (by omega) e0
 ·unfold rtake;rw [if_neg (by omega),if_neg (by omega),if_neg (by omega),if_neg (by omega),if_neg (by omega),if_neg (by omega),if_neg (by omega),if_pos l]
  rw [l] at e0
  have hk:=h.v.own.take (by rw [e0];exact pv91 (by omega))
  rw [e0] at hk
  simp only at hk
  have hla:rlast x 0=(thr x 0).b - 1:=i64_id (by omega) (by omega)
  have h7:=hk.2.2.2.2.2.2.2.2 (by omega)
  have hii:i64 ((thr x 0).t+1)=(thr x 0).t+1:=i64_id (by omega) (by have:=h.nM;omega)
  rw [hii]
  refine pr_of h hi (v:=idle) (y:={ thr x 0 with call:=-1 }) ?_ ?_ ?_ ?_ ?_ ?_ (by omega) hn ?_ ?_ ?_
  ·rfl
  ·exact ops_en (SameOps.refl _) _ _ _ _
  ·simp [rend,rstore]
  ·exact rfl
  ·exact rfl
  ·exact fun q=>by simp at q
  ·show rwd (rstore x 0 1 _) 0≤n+1
   rw [st0 (by omega) (by omega)];omega
  ·exact vO_idle
  ·show PrV (rwd (rstore x 0 1 _) 0) (rwd (rstore x 0 1 _) 1) _ _ _ _
   rw [st0 (by omega) (by omega),st1 (by omega)]
   exact pr_take7 h.v (by omega) e0
theorem pr_rsteal (h:PrR n x) (hi:i<x.T.length) (hb:0≤(thr x i).call) (ho:(x.C.getD (thr x i).call.toNat ca0).op=92) (hl:1≤(thr x i).line∧(thr x i).line≤4) (hn:n+1≤65536):PrR (n+1) (rsteal x i):=by
 have e0:=ext_busy hb
 rw [ho] at e0
 have ht:=h.tn
 have hB:=bB h
 have hwl:=h.wlen
 have hr1:=h.v.rm
 have hr2:=h.rm
 have hT0:=h.v.t0
 have hth:=h.v.thief i (by rw [e0]) (by rw [e0])
 rw [e0] at hth
 have hlo:=hth.lo
 simp only at hlo
 rcases (show (thr x i).line=1∨(thr x i).line=2∨(thr x i).line=3∨(thr x i).line=4 by omega) with l | l | l | l
 ·unfold rsteal;rw [if_pos l]
  rw [l] at e0 hlo
  refine pr_of h hi (v:=⟨true,92,2,(thr x i).b,rwd x 0⟩) (y:={ thr x i with t:=rwd x 0,line:=2 }) ?_ ?_ ?_ ?_ ?_ ?_ (by omega) hn ?_ ?_ ?_
  ·rfl
  ·exact SameOps.refl _
  ·rfl
  ·exact rfl
  ·exact rfl
  ·exact fun _=>rfl
  ·exact (show rwd x 0≤n+1 by omega)
  ·exact vO_busy hb ho
  ·exact pr_steal1 h.v e0
 ·unfold rsteal;rw [if_neg (by omega),if_pos l]
  rw [l] at e0 hlo
  have hl2:=hlo (by omega)
  rw [i64_id (by omega) (by omega)]
  obtain ⟨p1,p2⟩:=pr_steal2 h.v e0 (rwd x 1)
  split
  ·next q =>
   refine pr_of h hi (v:=idle) (y:={ ({ thr x i with b:=rwd x 1 }:Th) with call:=-1 }) ?_ ?_ ?_ ?_ ?_ ?_ (by omega) hn ?_ ?_ ?_
   ·simp only [rend,rpoint,setTh,rload,thr,List.set_set]
    rw [set_getD _ _ _ _ _ hi,if_pos rfl]
   ·exact ops_en (ops_pt (SameOps.refl _) _ _) _ _ _ _
   ·rfl
   ·exact rfl
   ·exact rfl
   ·exact fun q=>by simp at q
   ·exact (show rwd x 0≤n+1 by omega)
   ·exact vO_idle
   ·exact p1 q
  ·next q =>
   refine pr_of h hi (v:=⟨true,92,3,rwd x 1,(thr x i).t⟩) (y:={ thr x i with b:=rwd x 1,line:=3 }) ?_ ?_ ?_ ?_ ?_ ?_ (by omega) hn ?_ ?_ ?_
   ·rfl
   ·exact SameOps.refl _
   ·rfl
   ·exact rfl
   ·exact rfl
   ·exact fun _=>rfl
   ·exact (show rwd x 0≤n+1 by omega)
   ·exact vO_busy hb ho
   ·exact p2 q
 ·unfold rsteal;rw [if_neg (by omega),if_neg (by omega),if_pos l]
  rw [l] at e0 hlo
  refine pr_of h hi (v:=⟨true,92,4,(thr x i).b,(thr x i).t⟩) (y:={ thr x i with v:=rwd x (rcell x (thr x i).t),line:=4 }) ?_ ?_ ?_ ?_ ?_ ?_ (by omega) hn ?_ ?_ ?_
  ·rfl
  ·exact SameOps.refl _
  ·rfl
  ·exact rfl
  ·exact rfl
  ·exact fun _=>rfl
  ·exact (show rwd x 0≤n+1 by omega)
  ·exact vO_busy hb ho
  ·exact pr_steal3 h.v e0
 ·unfold rsteal;rw [if_neg (by omega),if_neg (by omega),if_neg (by omega),if_pos l]
  rw [l] at e0 hlo
  have hl2:=hlo (by omega)
  obtain ⟨p1,p2⟩:=pr_steal4 h.v e0
  have hii:i64 ((thr x i).t+1)=(thr x i).t+1:=i64_id (by omega) (by have:=h.nM;omega)
  split
  ·next q =>
   refine pr_of h hi (v:=idle) (y:={ thr x i with call:=-1 }) ?_ ?_ ?_ ?_ ?_ ?_ (by omega) hn ?_ ?_ ?_
   ·rfl
   ·exact ops_en (ops_pt (SameOps.refl _) _ _) _ _ _ _
   ·simp only [rend,rpoint,rswap]
    split <;> simp
   ·exact rfl
   ·exact rfl
   ·exact fun q=>by simp at q
   ·show rwd (rswap x i _) 0≤n+1
    rw [sw0 (by omega),if_pos q,hii];omega
   ·exact vO_idle
   ·show PrV (rwd (rswap x i _) 0) (rwd (rswap x i _) 1) _ _ _ _
    rw [sw0 (by omega),sw1 (by omega),if_pos q,hii]
    exact p1 q
  ·next q =>
   refine pr_of h hi (v:=⟨true,92,1,(thr x i).b,(thr x i).t⟩) (y:={ thr x i with line:=1 }) ?_ ?_ ?_ ?_ ?_ ?_ (by omega) hn ?_ ?_ ?_
   ·rfl
   ·exact SameOps.refl _
   ·simp only [setTh,rswap]
    split <;> simp
   ·exact rfl
   ·exact rfl
   ·exact fun _=>rfl
   ·show rwd (rswap x i _) 0≤n+1
    rw [sw0 (by omega),if_neg q];omega
   ·exact vO_busy hb ho
   ·show PrV (rwd (rswap x i _) 0) (rwd (rswap x i _) 1) _ _ _ _
    rw [sw0 (by omega),sw1 (by omega),if_neg q]
    exact p2 q
end
end Go.Proofs.Ytcloeignccpljaa.D
namespace Go.Proofs.Ytcloeignccpljaa.D
open Go
theorem PrR.to {n n' : Int} {x:Rm} (h:PrR n x) (hn:n≤n') (hn' : n'≤65536) (k:Int):PrR n' { x with mv:=k } :=
 ⟨h.v,h.wl,h.rm,h.tl,h.cl,Int.le_trans h.tn hn,Int.le_trans h.n0 hn,hn'⟩
theorem busy_ops {n:Int} {x:Rm} {i:Nat} (h:PrR n x) (hb:0≤(thr x i).call):((x.C.getD (thr x i).call.toNat ca0).op=90∨(x.C.getD (thr x i).call.toNat ca0).op=91∨(x.C.getD (thr x i).call.toNat ca0).op=92) ∧
  ((x.C.getD (thr x i).call.toNat ca0).op≠92→i=0)∧1≤(thr x i).line∧(thr x i).line≤(if (x.C.getD (thr x i).call.toNat ca0).op=91 then 8 else 4):=by
 have:=h.v.ops i (by rw [ext_busy hb])
 rw [ext_busy hb] at this
 exact this
theorem pr_rstep {n:Int} {x:Rm} {i:Nat} (h:PrR n x) (hi:i<x.T.length) (hb:0≤(thr x i).call) (hmv:0≤x.mv) (hn:n+1≤65536):PrR (n+1) (rstep x i):=by
 obtain ⟨h1,h2,h3,h4⟩:=busy_ops h hb
 unfold rstep
 rcases h1 with h1 | h1 | h1
 ·have:=h2 (by omega)
  subst this
  rw [if_pos h1]
  rw [if_neg (by omega)] at h4
  exact pr_rpush h hi hb h1 ⟨h3,h4⟩ hn
 ·have:=h2 (by omega)
  subst this
  rw [if_neg (by omega),if_pos h1]
  rw [if_pos h1] at h4
  exact pr_rtake h hi hb h1 ⟨h3,h4⟩ hmv hn
 ·rw [if_neg (by omega),if_neg (by omega),if_pos h1]
  rw [if_neg (by omega)] at h4
  exact pr_rsteal h hi hb h1 ⟨h3,h4⟩ hn
theorem rpush_mv (x:Rm) (i:Nat):(rpush x i).mv=x.mv∧(rpush x i).thr=x.thr:=by
 constructor <;> (unfold rpush;repeat' split) <;> rfl
theorem rtake_mv (x:Rm) (i:Nat):(rtake x i).mv=x.mv∧(rtake x i).thr=x.thr:=by
 constructor <;> (unfold rtake;repeat' split) <;> rfl
theorem rsteal_mv (x:Rm) (i:Nat):(rsteal x i).mv=x.mv∧(rsteal x i).thr=x.thr:=by
 constructor <;> (unfold rsteal;repeat' split) <;> rfl
theorem rstep_mv (x:Rm) (i:Nat):(rstep x i).mv=x.mv∧(rstep x i).thr=x.thr:=by
 unfold rstep
 split
 ·exact rpush_mv x i
 split
 ·exact rtake_mv x i
 split
 ·exact rsteal_mv x i
 ·exact ⟨rfl,rfl⟩
theorem pr_rbeg {n:Int} {x:Rm} {i:Nat} (h:PrR n x) (hi:i<x.T.length) (hb:¬ 0≤(thr x i).call) (c:Ca) (ho:c.op=90∨c.op=91∨c.op=92) (h0:c.op≠92→i=0) (hn:n+1≤65536) :
  PrR (n+1) { x with T:=x.T.set i ⟨x.C.length,1,0,0,0⟩,C:=x.C++[c] }:=by
 have hv:vw { x with T:=x.T.set i ⟨x.C.length,1,0,0,0⟩,C:=x.C++[c] }=upd (vw x) i ⟨true,c.op,1,0,0⟩:=by
  funext j
  unfold upd vw thr
  simp only
  rw [set_getD _ _ _ _ _ hi]
  by_cases e:j=i
  ·subst e
   rw [if_pos rfl,if_pos rfl]
   unfold vO
   rw [if_pos (by simp)]
   simp [List.getD_eq_getElem?_getD]
  ·rw [if_neg (fun q=>e q.symm),if_neg e]
   unfold vO
   split
   ·next q =>
    have:=h.cl j q
    unfold thr at this
    generalize (x.T.getD j th0)=y at this q ⊢
    rw [show (x.C++[c]).getD y.call.toNat ca0=x.C.getD y.call.toNat ca0 by
     rw [List.getD_eq_getElem?_getD,List.getD_eq_getElem?_getD,List.getElem?_append_left this]]
   ·rfl
 refine ⟨?_,h.wl,h.rm,by simp only [List.length_set];exact h.tl,fun j hj=>?_,Int.le_trans h.tn (by omega),by have:=h.n0;omega,hn⟩
 ·rw [hv]
  exact pr_begin h.v (by unfold vw vO;rw [if_neg hb];rfl) ho h0
 ·unfold thr at hj ⊢
  simp only at hj ⊢
  rw [set_getD _ _ _ _ _ hi] at hj ⊢
  rw [List.length_append]
  split at hj
  ·next e=>rw [if_pos e];simp
  ·next e=>rw [if_neg e];have:=h.cl j hj;unfold thr at this;omega
theorem pr_move {x:Rm} {mv:Mo} (h:PrR x.mv x):PrR (rMove x mv).1.mv (rMove x mv).1∧x.mv≤(rMove x mv).1.mv∧(rMove x mv).1.mv≤x.mv+1∧(rMove x mv).1.thr=x.thr:=by
 have h0:=h.n0
 unfold rMove
 split
 ·exact ⟨h,Int.le_refl _,by simp only;omega,rfl⟩
 next hm =>
 have stay:PrR (x.mv+1) { x with mv:=x.mv+1 }:=h.to (by omega) (by omega) _
 have hl:((rmove x mv).1.thr=x.thr)∧PrR (x.mv+1) { (rmove x mv).1 with mv:=x.mv+1 }:=by
  unfold rmove
  split
  ·exact ⟨rfl,stay⟩
  next hx =>
  have hi:mv.th.toNat<x.T.length:=by have:=h.tl;omega
  split
  ·split
   ·next hb=>exact ⟨(rstep_mv x _).2,(pr_rstep h hi hb h0 (by omega)).to (Int.le_refl _) (by omega) _⟩
   ·exact ⟨rfl,stay⟩
  ·split
   ·exact ⟨rfl,stay⟩
   ·next hb =>
    have:=pr_rbeg h hi (fun q=>hb (Or.inl q)) ⟨mv.th,mv.op,mv.arg,mv.data,x.mv,-1,-1,0,0⟩ (by simp only;omega) (by simp only;omega) (by omega)
    exact ⟨rfl,this.to (Int.le_refl _) (by omega) _⟩
 exact ⟨hl.2,by simp;omega,Int.le_refl _,hl.1⟩
theorem pr_new {t r:Int} (h1:1≤t) (h2:1≤r) (h3:r≤256):PrR 0 (newR t r):=by
 have hw:∀ a,rwd (newR t r) a=0:=by
  intro a
  simp only [rwd,newR,List.getD_eq_getElem?_getD,List.getElem?_replicate]
  split <;> rfl
 have ht:∀ j,(thr (newR t r) j).call = -1:=by
  intro j
  simp only [thr,newR,List.getD_eq_getElem?_getD,List.getElem?_replicate]
  split <;> rfl
 have hi:∀ j,vw (newR t r) j=idle:=fun j=>by unfold vw vO;rw [ht j,if_neg (by omega)]
 refine ⟨⟨by rw [hw];exact Int.le_refl _,h2,fun j hj=>(by rw [hi j] at hj;cases hj),?_,fun j hj=>(by rw [hi j] at hj;cases hj)⟩,by simp [newR],h3,by simp [newR],fun j hj=>by rw [ht j] at hj;omega,by rw [hw];omega,Int.le_refl _,by omega⟩
 rw [hw,hw,hi]
 exact Owner.ofCalm rfl ⟨rfl,Int.le_refl _,by show (0:Int)≤0+r;omega⟩ (fun q=>by cases q) (fun q=>by cases q)
end Go.Proofs.Ytcloeignccpljaa.D
namespace Go.Proofs.Ytcloeignccpljaa.D
open Go
def lnS (s:Se) (k:Tk):Nat:=if s.rd=true then k.ln else 1
def Rel (C:List Ca) (s:Se) (y:Th):Prop:=match s.tk with
  | none=>y.call<0
  | some k=>0≤y.call∧y.call=s.la ∧
    ((k.kd=0∧(C.getD y.call.toNat ca0).op=90∧y.line=lnS s k∧(C.getD y.call.toNat ca0).arg=k.v∧(2≤lnS s k→y.b=k.b)) ∨
     (k.kd=1∧(C.getD y.call.toNat ca0).op=91∧y.line=(if lnS s k=7∧k.got=false then 8 else (lnS s k:Int))∧(2≤lnS s k→i64 (y.b - 1)=k.b)∧(4≤lnS s k→y.t=k.t)∧(6≤lnS s k→y.v=k.v)) ∨
     (k.kd=2∧(C.getD y.call.toNat ca0).op=92∧y.line=lnS s k∧(2≤lnS s k→y.t=k.t)∧(4≤lnS s k→y.v=k.v)))
theorem Rel.ops {C C' : List Ca} {s:Se} {y:Th} (h:Rel C s y) (hC:SameOps C C'):Rel C' s y:=by
 unfold Rel at h ⊢
 split
 ·next e=>rw [e] at h;exact h
 ·next k e =>
  rw [e] at h
  simp only at h ⊢
  rw [(hC.2 _).1,(hC.2 _).2]
  exact h
structure Hub (last:Bool) (rk at_:Int) (x:Rm):Prop where
 a:last=true→0≤x.down∧rk=x.last∧at_=x.down
 b:0≤x.down→∀ j,(vw x j).bz=true→(vw x j).op=92→3≤(vw x j).ln→(vw x j).t=x.last→rwd x 0=x.last→last=true
structure Sim (m:Pm) (x:Rm):Prop where
 room:m.room=x.room
 thr:(m.S.length:Int)=x.thr
 W:m.W=x.W.map u64
 rg:∀ v∈x.W,i64 v=v
 L:m.L=x.L
 C:m.C=x.C
 mv:m.mv=x.mv
 th:∀ j,j<m.S.length→Rel m.C (m.S.getD j se0) (D.thr x j)
 top:m.top=rwd x 0
 ag:∀ n,i64 (m.C.getD n ca0).arg=(m.C.getD n ca0).arg
 hub:Hub m.last m.rk m.at_ x
theorem sim_of {m m' : Pm} {x x' : Rm} {i:Nat} {s:Se} {y:Th} (h:Sim m x) (hi:i<m.S.length) (hit:i<x.T.length) (hS:m'.S=m.S.set i s) (hT:x'.T=x.T.set i y) (hO:SameOps m.C m'.C) (hC:m'.C=x'.C) (hr:Rel m'.C s y)
  (e1:m'.room=m.room) (e2:x'.room=x.room) (e3:x'.thr=x.thr) (hW:m'.W=x'.W.map u64) (hg:∀ v∈x'.W,i64 v=v) (hL:m'.L=x'.L) (hm:m'.mv=x'.mv) (ht:m'.top=rwd x' 0) (hh:Hub m'.last m'.rk m'.at_ x'):Sim m' x':=by
 refine ⟨by rw [e1,e2];exact h.room,by rw [hS,List.length_set,e3];exact h.thr,hW,hg,hL,hC,hm,fun j hj=>?_,ht,fun n=>by rw [(hO.2 n).2];exact h.ag n,hh⟩
 rw [hS,List.length_set] at hj
 unfold D.thr
 rw [hS,hT,set_getD _ _ _ _ _ hi,set_getD _ _ _ _ _ hit]
 split
 ·exact hr
 ·exact (h.th j hj).ops hO
theorem Sim.wd {m:Pm} {x:Rm} (h:Sim m x) (a:Int):wd m a=u64 (rwd x a):=by
 unfold D.wd rwd
 rw [h.W,List.getD_eq_getElem?_getD,List.getD_eq_getElem?_getD,List.getElem?_map]
 cases x.W[a.toNat]? <;> simp [u64_eq]
theorem Sim.rw {m:Pm} {x:Rm} (h:Sim m x) (a:Int):i64 (rwd x a)=rwd x a:=by
 unfold rwd
 rw [List.getD_eq_getElem?_getD]
 cases e:x.W[a.toNat]? with
 | none=>simp [i64_eq]
 | some v=>exact h.rg v (List.mem_of_getElem? e)
theorem i64_i64 (v:Int):i64 (i64 v)=i64 v:=by
 rw [i64_eq,i64_eq];split <;> split <;> omega
theorem u64_inj {a b:Int} (ha:i64 a=a) (hb:i64 b=b) (h:u64 a=u64 b):a=b:=by
 rw [← ha,← hb,← i64_u64 a,h,i64_u64]
theorem rg_set {W:List Int} (h:∀ v∈W,i64 v=v) (n:Nat) {x:Int} (hx:i64 x=x):∀ v∈W.set n x,i64 v=v:=fun v hv=>by
 rcases List.mem_or_eq_of_mem_set hv with h' | rfl
 ·exact h v h'
 ·exact hx
end Go.Proofs.Ytcloeignccpljaa.D
namespace Go.Proofs.Ytcloeignccpljaa.D
open Go
section
variable {m:Pm} {i:Nat} {k k' : Tk} {r:Pm} {now a v:Int}
theorem begS_S (hi:i<m.S.length):(begS m i now).S.getD i se0={ m.S.getD i se0 with rd:=true }:=by
 unfold begS;rw [set_getD _ _ _ _ _ hi,if_pos rfl]
theorem step_cont (hi:i<m.S.length) (ht:taskT (begS m i now) i (begK m i k)=(r,k',false)) (hS:r.S=(begS m i now).S) :
  stepM m i k now={ r with S:=m.S.set i { m.S.getD i se0 with rd:=true,tk:=some k' } }:=by
 unfold stepM
 rw [ht,if_neg (by simp)]
 unfold setTk
 simp only [hS,begS_S hi]
 congr 1
 simp only [begS,List.set_set]
theorem step_over (hi:i<m.S.length) (ht:taskT (begS m i now) i (begK m i k)=(ans r i a v,k',true)) (hS:r.S=(begS m i now).S) :
  stepM m i k now={ r with C:=r.C.set (m.S.getD i se0).la.toNat { r.C.getD (m.S.getD i se0).la.toNat ca0 with en:=now,ak:=a,av:=v },S:=m.S.set i ⟨none,true,(m.S.getD i se0).la,a,v⟩ }:=by
 have hl:i<r.S.length:=by rw [hS];simp [begS];exact hi
 unfold stepM
 rw [ht,if_pos rfl]
 unfold endS ans
 simp only [set_getD _ _ _ _ _ hl,if_true]
 rw [hS,begS_S hi]
 simp only [List.set_set]
 congr 1
 simp only [begS,List.set_set]
theorem ld_ok {M:Pm} (hu:M.us=false) (h0:0≤a) (h1:a<M.W.length):load M a=({ M with us:=true,L:=M.L++[⟨M.mm,M.th,1,a,0,0,wd M a⟩],A:=M.A++[wd M a] },wd M a):=by
 unfold load;rw [if_pos (by unfold opn;rw [hu];simp;omega)]
theorem st_ok {M:Pm} (hu:M.us=false) (h0:0≤a) (h1:a<M.W.length):store M a v={ M with us:=true,L:=M.L++[⟨M.mm,M.th,2,a,0,v,0⟩],A:=M.A++[wd M a],W:=M.W.set a.toNat v }:=by
 unfold store;rw [if_pos (by unfold opn;rw [hu];simp;omega)]
theorem sw_ok {M:Pm} {o:Int} (hu:M.us=false) (h0:0≤a) (h1:a<M.W.length):swap M a o v=if wd M a=o then ({ M with us:=true,L:=M.L++[⟨M.mm,M.th,3,a,o,v,wd M a⟩],A:=M.A++[wd M a],W:=M.W.set a.toNat v },true) else ({ M with us:=true,L:=M.L++[⟨M.mm,M.th,3,a,o,v,wd M a⟩],A:=M.A++[wd M a] },false):=by
 unfold swap;rw [if_pos (by unfold opn;rw [hu];simp;omega)]
end
theorem Hub.calm {x:Rm} {rk at_:Int} (h:x.down = -1):Hub false rk at_ x:=⟨fun q=>(by cases q),fun q=>(by omega)⟩
theorem Hub.keep {x x' : Rm} {last:Bool} {rk at_:Int} {i:Nat} {v:V} (h:Hub last rk at_ x) (e1:x'.down=x.down) (e2:x'.last=x.last) (e3:rwd x' 0=rwd x 0) (hv:vw x' = upd (vw x) i v)
  (hn:v.bz=true→v.op=92→3≤v.ln→v.t=x.last→0≤x.down→rwd x 0=x.last→last=true):Hub last rk at_ x':=by
 refine ⟨fun q=>by rw [e1,e2];exact h.a q,fun q j h1 h2 h3 h4 h5=>?_⟩
 rw [e1] at q
 rw [e2] at h4 h5
 rw [e3] at h5
 rw [hv] at h1 h2 h3 h4
 by_cases e:j=i
 ·subst e
  rw [upd_i] at h1 h2 h3 h4
  exact hn h1 h2 h3 h4 q h5
 ·rw [upd_o _ _ e] at h1 h2 h3 h4
  exact h.b q j h1 h2 h3 h4 h5
section
variable {m:Pm} {x:Rm} {i:Nat} {k:Tk}
structure Stp (m:Pm) (x:Rm) (i:Nat) (k:Tk):Prop where
 sim:Sim m x
 pr:PrR x.mv x
 hi:i<m.S.length
 hit:i<x.T.length
 tk:(m.S.getD i se0).tk=some k
 inv:Inv m
 mx:x.mv+1≤65536
theorem Stp.rel (h:Stp m x i k):0≤(thr x i).call∧(thr x i).call=(m.S.getD i se0).la ∧
    ((k.kd=0∧(m.C.getD (thr x i).call.toNat ca0).op=90∧(thr x i).line=lnS (m.S.getD i se0) k∧(m.C.getD (thr x i).call.toNat ca0).arg=k.v∧(2≤lnS (m.S.getD i se0) k→(thr x i).b=k.b)) ∨
     (k.kd=1∧(m.C.getD (thr x i).call.toNat ca0).op=91∧(thr x i).line=(if lnS (m.S.getD i se0) k=7∧k.got=false then 8 else (lnS (m.S.getD i se0) k:Int))∧(2≤lnS (m.S.getD i se0) k→i64 ((thr x i).b - 1)=k.b)∧(4≤lnS (m.S.getD i se0) k→(thr x i).t=k.t)∧(6≤lnS (m.S.getD i se0) k→(thr x i).v=k.v)) ∨
     (k.kd=2∧(m.C.getD (thr x i).call.toNat ca0).op=92∧(thr x i).line=lnS (m.S.getD i se0) k∧(2≤lnS (m.S.getD i se0) k→(thr x i).t=k.t)∧(4≤lnS (m.S.getD i se0) k→(thr x i).v=k.v))):=by
  have:=h.sim.th i h.hi
  unfold Rel at this
  rw [h.tk] at this
  exact this
theorem begK_ln (h:Stp m x i k):(begK m i k).ln=lnS (m.S.getD i se0) k∧(begK m i k).kd=k.kd∧(begK m i k).b=k.b∧(begK m i k).t=k.t∧(begK m i k).v=k.v∧(begK m i k).got=k.got:=by
 unfold begK lnS;split <;> simp
end
end Go.Proofs.Ytcloeignccpljaa.D
namespace Go.Proofs.Ytcloeignccpljaa.D
open Go
section
variable {m:Pm} {x:Rm} {i:Nat} {k:Tk}
def aS (m:Pm) (i:Nat):Pm:=begS { m with mv:=m.mv+1 } i m.mv
def aM (m:Pm) (i:Nat) (k:Tk):Pm:=stepM { m with mv:=m.mv+1 } i k m.mv
def aK (m:Pm) (i:Nat) (k:Tk):Tk:=begK m i k
theorem aM_cont {r:Pm} {k' : Tk} (hi:i<m.S.length) (ht:taskT (aS m i) i (aK m i k)=(r,k',false)) (hS:r.S=(aS m i).S):aM m i k={ r with S:=m.S.set i { m.S.getD i se0 with rd:=true,tk:=some k' } } :=
 step_cont (m:={ m with mv:=m.mv+1 }) hi ht hS
theorem aM_over {r:Pm} {k' : Tk} {a v:Int} (hi:i<m.S.length) (ht:taskT (aS m i) i (aK m i k)=(ans r i a v,k',true)) (hS:r.S=(aS m i).S) :
  aM m i k={ r with C:=r.C.set (m.S.getD i se0).la.toNat { r.C.getD (m.S.getD i se0).la.toNat ca0 with en:=m.mv,ak:=a,av:=v },S:=m.S.set i ⟨none,true,(m.S.getD i se0).la,a,v⟩ } :=
 step_over (m:={ m with mv:=m.mv+1 }) hi ht hS
theorem aS_wd (h:Sim m x) (a:Int):wd (aS m i) a=u64 (rwd x a):=h.wd a
theorem aS_len (h:Sim m x):((aS m i).W.length:Int)=x.W.length:=by
 show (m.W.length:Int)=_
 rw [h.W];simp
theorem aS_ld (h:Stp m x i k) {a:Int} (h0:0≤a) (h1:a<x.W.length):load (aS m i) a=({ aS m i with us:=true,L:=x.L++[⟨m.mv,i,1,a,0,0,u64 (rwd x a)⟩],A:=m.A++[u64 (rwd x a)] },u64 (rwd x a)):=by
 rw [ld_ok rfl h0 (by rw [aS_len h.sim];exact h1),aS_wd h.sim]
 rw [show (aS m i).L=x.L from h.sim.L]
 rfl
theorem aS_st (h:Stp m x i k) {a v:Int} (h0:0≤a) (h1:a<x.W.length):store (aS m i) a (u64 v)={ aS m i with us:=true,L:=x.L++[⟨m.mv,i,2,a,0,u64 v,0⟩],A:=m.A++[u64 (rwd x a)],W:=(x.W.set a.toNat v).map u64 }:=by
 rw [st_ok rfl h0 (by rw [aS_len h.sim];exact h1),aS_wd h.sim]
 rw [show (aS m i).L=x.L from h.sim.L,show (aS m i).W=x.W.map u64 from h.sim.W,List.map_set]
 rfl
theorem aS_sw (h:Stp m x i k) {o v:Int} (ho:i64 o=o):swap (aS m i) 0 (u64 o) (u64 v)=if rwd x 0=o then ({ aS m i with us:=true,L:=x.L++[⟨m.mv,i,3,0,u64 o,u64 v,u64 (rwd x 0)⟩],A:=m.A++[u64 (rwd x 0)],W:=(x.W.set 0 v).map u64 },true) else ({ aS m i with us:=true,L:=x.L++[⟨m.mv,i,3,0,u64 o,u64 v,u64 (rwd x 0)⟩],A:=m.A++[u64 (rwd x 0)],W:=x.W.map u64 },false):=by
 have hw:=h.pr.wlen
 have h1:=h.pr.v.rm
 rw [sw_ok rfl (Int.le_refl _) (by rw [aS_len h.sim];omega),aS_wd h.sim]
 rw [show (aS m i).L=x.L from h.sim.L,show (aS m i).W=x.W.map u64 from h.sim.W]
 have e:u64 (rwd x 0)=u64 o↔rwd x 0=o:=⟨fun q=>u64_inj (h.sim.rw 0) ho q,fun q=>by rw [q]⟩
 by_cases q:rwd x 0=o
 ·rw [if_pos (e.2 q),if_pos q,show ((0:Int).toNat)=0 from rfl,List.map_set];rfl
 ·rw [if_neg (fun g=>q (e.1 g)),if_neg q];rfl
theorem Stp.la (h:Stp m x i k):(thr x i).call.toNat=(m.S.getD i se0).la.toNat:=by rw [h.rel.2.1]
end
end Go.Proofs.Ytcloeignccpljaa.D
namespace Go.Proofs.Ytcloeignccpljaa.D
open Go
section
variable {m:Pm} {x:Rm} {i:Nat} {k:Tk}
theorem task_push (h:k.kd=0):taskT (aS m i) i (aK m i k)=pushT (aS m i) i (aK m i k):=by
 unfold taskT;rw [if_pos (by unfold aK begK;split <;> exact h)]
theorem task_take (h:k.kd=1):taskT (aS m i) i (aK m i k)=takeT (aS m i) i (aK m i k):=by
 have e:(aK m i k).kd=1:=by unfold aK begK;split <;> exact h
 unfold taskT;rw [if_neg (by omega),if_pos e]
theorem task_steal (h:k.kd=2):taskT (aS m i) i (aK m i k)=stealT (aS m i) i (aK m i k):=by
 have e:(aK m i k).kd=2:=by unfold aK begK;split <;> exact h
 unfold taskT;rw [if_neg (by omega),if_neg (by omega)]
theorem sim_cont {r:Pm} {k' : Tk} {x' : Rm} {y:Th} (h:Stp m x i k) (ht:taskT (aS m i) i (aK m i k)=(r,k',false)) (hS:r.S=(aS m i).S) (hT:x'.T=x.T.set i y) (hO:SameOps m.C r.C) (hC:r.C=x'.C)
  (hr:Rel m.C { m.S.getD i se0 with rd:=true,tk:=some k' } y) (e1:r.room=m.room) (e2:x'.room=x.room) (e3:x'.thr=x.thr) (hW:r.W=x'.W.map u64) (hg:∀ v∈x'.W,i64 v=v) (hL:r.L=x'.L) (hm:r.mv=m.mv+1) (htp:r.top=rwd x' 0) (hh:Hub r.last r.rk r.at_ x') :
  Sim (aM m i k) { x' with mv:=x.mv+1 }:=by
 rw [aM_cont h.hi ht hS]
 exact sim_of (x':={ x' with mv:=x.mv+1 }) h.sim h.hi h.hit rfl hT hO hC (hr.ops hO) e1 e2 e3 hW hg hL (by show r.mv=x.mv+1;rw [hm,h.sim.mv]) htp ⟨hh.a,hh.b⟩
theorem sim_over {r:Pm} {k' : Tk} {x' x0:Rm} {y:Th} {a v:Int} (h:Stp m x i k) (ht:taskT (aS m i) i (aK m i k)=(ans r i a v,k',true)) (hS:r.S=(aS m i).S) (hx:x' = rend x0 i a v) (hT:x0.T=x.T.set i y) (hy:y.call=(thr x i).call) (hmv:x0.mv=x.mv) (hO:SameOps m.C r.C) (hC:r.C=x0.C)
  (e1:r.room=m.room) (e2:x0.room=x.room) (e3:x0.thr=x.thr) (hW:r.W=x0.W.map u64) (hg:∀ v∈x0.W,i64 v=v) (hL:r.L=x0.L) (hm:r.mv=m.mv+1) (htp:r.top=rwd x0 0) (hh:Hub r.last r.rk r.at_ x') :
  Sim (aM m i k) { x' with mv:=x.mv+1 }:=by
 subst hx
 rw [aM_over h.hi ht hS]
 have hthr:thr x0 i=y:=by unfold thr;rw [hT,set_getD _ _ _ _ _ h.hit,if_pos rfl]
 have hla:(m.S.getD i se0).la.toNat=(thr x0 i).call.toNat:=by rw [hthr,hy];exact h.la.symm
 refine sim_of (x':={ rend x0 i a v with mv:=x.mv+1 }) (y:={ y with call:=-1 }) h.sim h.hi h.hit rfl ?_ ?_ ?_ ?_ e1 e2 e3 hW hg hL (by show r.mv=x.mv+1;rw [hm,h.sim.mv]) htp ⟨hh.a,hh.b⟩
 ·show x0.T.set i { thr x0 i with call:=-1 }=_
  rw [hT,hthr,List.set_set]
 ·exact ops_en hO _ _ _ _
 ·show r.C.set _ { r.C.getD _ ca0 with en:=m.mv,ak:=a,av:=v }=x0.C.set (thr x0 i).call.toNat { x0.C.getD (thr x0 i).call.toNat ca0 with en:=x0.mv,ak:=a,av:=v }
  rw [hla,hC,h.sim.mv,hmv]
 ·show Rel _ ⟨none,true,_,a,v⟩ _
  unfold Rel
  simp only
  omega
theorem vw_keep {x' : Rm} {y:Th} (h:Stp m x i k) (hT:x'.T=x.T.set i y) (hC:SameOps x.C x'.C):vw x' = upd (vw x) i (vO x.C y):=vw_of hT h.hit hC
theorem keepO {x' : Rm} {y:Th} {op:Int} (h:Stp m x i k) (hT:x'.T=x.T.set i y) (hC:SameOps x.C x'.C) (e1:x'.down=x.down) (e2:x'.last=x.last) (e3:rwd x' 0=rwd x 0) (hb:0≤y.call) (ho:(x.C.getD y.call.toNat ca0).op=op) (hop:op≠92∨y.line<3):Hub m.last m.rk m.at_ x':=by
 refine Hub.keep h.sim.hub e1 e2 e3 (vw_keep h hT hC) fun h1 h2 h3=>?_
 rw [vO_busy hb ho] at h2 h3
 simp only at h2 h3
 omega
theorem keepI {x' : Rm} {y:Th} (h:Stp m x i k) (hT:x'.T=x.T.set i { y with call:=-1 }) (hC:SameOps x.C x'.C) (e1:x'.down=x.down) (e2:x'.last=x.last) (e3:rwd x' 0=rwd x 0):Hub m.last m.rk m.at_ x' :=
 Hub.keep h.sim.hub e1 e2 e3 (vw_keep h hT hC) fun h1=>by rw [vO_idle] at h1;cases h1
theorem aS_la (h:Stp m x i k):((aS m i).S.getD i se0).la=(m.S.getD i se0).la:=by
 rw [show (aS m i).S.getD i se0=_ from begS_S (m:={ m with mv:=m.mv+1 }) h.hi]
theorem pt_C (h:Stp m x i k) (p:Int) {C:List Ca} (hC:C=x.C):C.set (m.S.getD i se0).la.toNat { C.getD (m.S.getD i se0).la.toNat ca0 with pt:=p }=x.C.set (thr x i).call.toNat { x.C.getD (thr x i).call.toNat ca0 with pt:=p }:=by
 rw [← h.la,hC]
theorem rp_C {x' : Rm} {y:Th} (h:Stp m x i k) (hT:x'.T=x.T.set i y) (hy:y.call=(thr x i).call) (hC:x'.C=x.C) (p:Int):(rpoint x' i p).C=x.C.set (thr x i).call.toNat { x.C.getD (thr x i).call.toNat ca0 with pt:=p }:=by
 have:thr x' i=y:=by unfold thr;rw [hT,set_getD _ _ _ _ _ h.hit,if_pos rfl]
 unfold rpoint
 simp only [this,hy,hC]
theorem T_self {x:Rm} {i:Nat} (h:i<x.T.length):x.T=x.T.set i (thr x i):=by
 apply List.ext_getElem?
 intro j
 rw [List.getElem?_set]
 split
 ·next e=>subst e;simp [thr,List.getD_eq_getElem?_getD,h]
 ·rfl
theorem sim_push (h:Stp m x i k) (hk:k.kd=0) (hl:(aK m i k).ln=1∨(aK m i k).ln=2∨(aK m i k).ln=3∨(aK m i k).ln=4):Sim (aM m i k) { rpush x i with mv:=x.mv+1 }:=by
 obtain ⟨r1,r2,hr⟩:=h.rel
 obtain ⟨q0,q1,q2,q3,q4⟩:k.kd=0∧(m.C.getD (thr x i).call.toNat ca0).op=90∧(thr x i).line=lnS (m.S.getD i se0) k∧(m.C.getD (thr x i).call.toNat ca0).arg=k.v∧(2≤lnS (m.S.getD i se0) k→(thr x i).b=k.b):=by
  rcases hr with hr | hr | hr
  ·exact hr
  ·omega
  ·omega
 obtain ⟨g1,g2,g3,g4,g5,g6⟩:=begK_ln h
 have hwl:=h.pr.wlen
 have hr1:=h.pr.v.rm
 have hr2:=h.pr.rm
 have hop:(x.C.getD (thr x i).call.toNat ca0).op=90:=by rw [← h.sim.C];exact q1
 have hrm:(aS m i).room=x.room:=h.sim.room
 have hi0:i=0:=(busy_ops h.pr r1).2.1 (by omega)
 have e0:=ext_busy r1
 rw [hop] at e0
 have htk:=task_push (m:=m) (i:=i) hk
 have hnw:(aS m i).nw=x.mv:=h.sim.mv
 rcases hl with l | l | l | l
 ·have ln:lnS (m.S.getD i se0) k=1:=g1.symm.trans l
  unfold rpush;rw [if_pos (by omega)]
  unfold pushT at htk;rw [l] at htk;simp only at htk
  rw [aS_ld h (by omega) (by omega)] at htk
  refine sim_cont (x':=setTh (rload x i 1) i { thr x i with b:=rwd x 1,line:=2 }) (y:={ thr x i with b:=rwd x 1,line:=2 }) h htk rfl rfl (SameOps.refl _) h.sim.C ?_ rfl rfl rfl h.sim.W h.sim.rg ?_ rfl h.sim.top ?_
  ·refine ⟨r1,r2,Or.inl ⟨?_,q1,?_,?_,fun _=>?_⟩⟩
   ·exact g2.trans hk
   ·rfl
   ·exact q3.trans g5.symm
   ·show rwd x 1=i64 (u64 (rwd x 1))
    rw [i64_u64,h.sim.rw]
  ·simp only [setTh,rload,h.sim.mv]
  ·exact keepO (m:=m) h rfl (SameOps.refl _) rfl rfl rfl r1 hop (Or.inl (by omega))
 ·have ln:lnS (m.S.getD i se0) k=2:=g1.symm.trans l
  have hb:=q4 (by omega)
  unfold rpush;rw [if_neg (by omega),if_pos (by omega)]
  unfold pushT at htk;rw [l] at htk;simp only at htk
  rw [aS_ld h (by omega) (by omega),hrm] at htk
  simp only [i64_u64,h.sim.rw] at htk
  have eb:(aK m i k).b=(thr x i).b:=g3.trans hb.symm
  rw [eb] at htk
  by_cases q:i64 ((thr x i).b - rwd x 0)≥x.room
  ·rw [if_pos q] at htk ⊢
   simp only [point,aS_la h] at htk
   refine sim_over (x':=rend (rpoint (setTh (rload x i 0) i { thr x i with t:=rwd x 0 }) i x.mv) i 4 0) (x0:=rpoint (setTh (rload x i 0) i { thr x i with t:=rwd x 0 }) i x.mv) (y:={ thr x i with t:=rwd x 0 }) h htk rfl rfl rfl rfl rfl ?_ ?_ rfl rfl rfl h.sim.W h.sim.rg ?_ rfl h.sim.top ?_
   ·exact ops_pt (SameOps.refl _) _ _
   ·rw [rp_C (x':=setTh (rload x i 0) i { thr x i with t:=rwd x 0 }) h rfl rfl rfl]
    simp only [hnw]
    exact pt_C h _ h.sim.C
   ·simp only [rpoint,setTh,rload,h.sim.mv]
   ·refine keepI (m:=m) h (y:={ thr x i with t:=rwd x 0 }) ?_ ?_ rfl rfl rfl
    ·simp only [rend,rpoint,setTh,rload,thr,List.set_set]
     rw [set_getD _ _ _ _ _ h.hit,if_pos rfl]
    ·exact ops_en (ops_pt (SameOps.refl _) _ _) _ _ _ _
  ·rw [if_neg q] at htk ⊢
   refine sim_cont (x':=setTh (rload x i 0) i { thr x i with t:=rwd x 0,line:=3 }) (y:={ thr x i with t:=rwd x 0,line:=3 }) h htk rfl rfl (SameOps.refl _) h.sim.C ?_ rfl rfl rfl h.sim.W h.sim.rg ?_ rfl h.sim.top ?_
   ·exact ⟨r1,r2,Or.inl ⟨g2.trans hk,q1,rfl,q3.trans g5.symm,fun _=>rfl⟩⟩
   ·simp only [setTh,rload,h.sim.mv]
   ·exact keepO (m:=m) h rfl (SameOps.refl _) rfl rfl rfl r1 hop (Or.inl (by omega))
 ·have ln:lnS (m.S.getD i se0) k=3:=g1.symm.trans l
  have hb:=q4 (by omega)
  unfold rpush;rw [if_neg (by omega),if_neg (by omega),if_pos (by omega)]
  unfold pushT at htk;rw [l] at htk;simp only at htk
  have eb:(aK m i k).b=(thr x i).b:=g3.trans hb.symm
  have ev:(aK m i k).v=(x.C.getD (thr x i).call.toNat ca0).arg:=(g5.trans q3.symm).trans (by rw [h.sim.C])
  have ec:cellA (aS m i) (thr x i).b=rcell x (thr x i).b:=by unfold cellA rcell;rw [hrm]
  have hbb:0≤(thr x i).b:=by
   subst hi0
   have h1:=(h.pr.v.own.push (by rw [e0]) (by rw [e0])).1 (by rw [e0];simp only;omega)
   rw [e0] at h1
   simp only at h1
   have h2:=h.pr.v.own.calm (by rw [e0];rfl)
   have h3:=h.pr.v.t0
   omega
  obtain ⟨c1,c2⟩:=rcell_rg h.pr hbb
  rw [eb,ev,ec,aS_st h (by omega) c2] at htk
  have hw0:rwd (rstore x i (rcell x (thr x i).b) (x.C.getD (thr x i).call.toNat ca0).arg) 0=rwd x 0:=st0 (by omega) c2 _
  have hag:i64 (x.C.getD (thr x i).call.toNat ca0).arg=(x.C.getD (thr x i).call.toNat ca0).arg:=by rw [← h.sim.C];exact h.sim.ag _
  refine sim_cont (x':=setTh (rstore x i (rcell x (thr x i).b) (x.C.getD (thr x i).call.toNat ca0).arg) i { thr x i with line:=4 }) (y:={ thr x i with line:=4 }) h htk rfl rfl (SameOps.refl _) h.sim.C ?_ rfl rfl rfl rfl (rg_set h.sim.rg _ hag) ?_ rfl (h.sim.top.trans hw0.symm) ?_
  ·exact ⟨r1,r2,Or.inl ⟨g2.trans hk,q1,rfl,by rw [h.sim.C],fun _=>rfl⟩⟩
  ·simp only [setTh,rstore,h.sim.mv]
  ·exact keepO (m:=m) h rfl (SameOps.refl _) rfl rfl hw0 r1 hop (Or.inl (by omega))
 ·have ln:lnS (m.S.getD i se0) k=4:=g1.symm.trans l
  have hb:=q4 (by omega)
  unfold rpush;rw [if_neg (by omega),if_neg (by omega),if_neg (by omega),if_pos (by omega)]
  unfold pushT at htk;rw [l] at htk;simp only at htk
  have eb:(aK m i k).b=(thr x i).b:=g3.trans hb.symm
  rw [eb,aS_st h (by omega) (by omega)] at htk
  simp only [point,aS_la h] at htk
  have hw0:rwd (rstore x i 1 (i64 ((thr x i).b+1))) 0=rwd x 0:=st0 (by omega) (by omega) _
  refine sim_over (x':=rend (rpoint (rstore x i 1 (i64 ((thr x i).b+1))) i x.mv) i 1 0) (x0:=rpoint (rstore x i 1 (i64 ((thr x i).b+1))) i x.mv) (y:=thr x i) h htk rfl rfl (T_self h.hit) rfl rfl ?_ ?_ rfl rfl rfl rfl (rg_set h.sim.rg _ (i64_i64 _)) ?_ rfl (h.sim.top.trans hw0.symm) ?_
  ·exact ops_pt (SameOps.refl _) _ _
  ·rw [rp_C (x':=rstore x i 1 (i64 ((thr x i).b+1))) h (T_self h.hit) rfl rfl]
   simp only [hnw]
   exact pt_C h _ h.sim.C
  ·simp only [rpoint,rstore,h.sim.mv]
  ·exact keepI (m:=m) h (y:=thr x i) rfl (ops_en (ops_pt (SameOps.refl _) _ _) _ _ _ _) rfl rfl hw0
end
end Go.Proofs.Ytcloeignccpljaa.D
namespace Go.Proofs.Ytcloeignccpljaa.D
open Go
section
variable {m:Pm} {x:Rm} {i:Nat} {k:Tk}
theorem Hub.up {x' : Rm} {v:V} (h:Stp m x i k) (e1:x'.down=x.down) (e2:x'.last=x.last) (e3:rwd x' 0=rwd x 0+1) (hv:vw x' = upd (vw x) i v) (hn:v.bz=true→v.op≠92):Hub m.last m.rk m.at_ x':=by
 refine ⟨fun q=>by rw [e1,e2];exact h.sim.hub.a q,fun q j h1 h2 h3 h4 h5=>?_⟩
 rw [hv] at h1 h2 h3 h4
 by_cases e:j=i
 ·subst e
  rw [upd_i] at h1 h2
  exact absurd h2 (hn h1)
 ·rw [upd_o _ _ e] at h1 h2 h3 h4
  have:=((h.pr.v.thief j h1 h2).lo (by omega)).2
  omega
theorem sim_take (h:Stp m x i k) (hk:k.kd=1) (hl:1≤(aK m i k).ln∧(aK m i k).ln≤7):Sim (aM m i k) { rtake x i with mv:=x.mv+1 }:=by
 obtain ⟨r1,r2,hr⟩:=h.rel
 obtain ⟨q0,q1,q2,q3,q4,q5⟩:k.kd=1∧(m.C.getD (thr x i).call.toNat ca0).op=91∧(thr x i).line=(if lnS (m.S.getD i se0) k=7∧k.got=false then 8 else (lnS (m.S.getD i se0) k:Int))∧(2≤lnS (m.S.getD i se0) k→i64 ((thr x i).b - 1)=k.b)∧(4≤lnS (m.S.getD i se0) k→(thr x i).t=k.t)∧(6≤lnS (m.S.getD i se0) k→(thr x i).v=k.v):=by
  rcases hr with hr | hr | hr
  ·omega
  ·exact hr
  ·omega
 obtain ⟨g1,g2,g3,g4,g5,g6⟩:=begK_ln h
 have hwl:=h.pr.wlen
 have hr1:=h.pr.v.rm
 have hr2:=h.pr.rm
 have hop:(x.C.getD (thr x i).call.toNat ca0).op=91:=by rw [← h.sim.C];exact q1
 have hrm:(aS m i).room=x.room:=h.sim.room
 have hi0:i=0:=(busy_ops h.pr r1).2.1 (by omega)
 subst hi0
 have e0:=ext_busy r1
 rw [hop] at e0
 have htk:=task_take (m:=m) (i:=0) hk
 have hnw:(aS m 0).nw=x.mv:=h.sim.mv
 have hT0:=h.pr.v.t0
 have htn:=h.pr.tn
 have hnM:=h.pr.nM
 have htake:3≤(thr x 0).line→_:=fun q=>h.pr.v.own.take (by rw [e0];exact pv91 q)
 rw [e0] at htake
 simp only at htake
 rcases (show (aK m 0 k).ln=1∨(aK m 0 k).ln=2∨(aK m 0 k).ln=3∨(aK m 0 k).ln=4∨(aK m 0 k).ln=5∨(aK m 0 k).ln=6∨(aK m 0 k).ln=7 by omega) with l | l | l | l | l | l | l
 ·have ln:lnS (m.S.getD 0 se0) k=1:=g1.symm.trans l
  rw [ln] at q2
  have q2:(thr x 0).line=1:=q2
  unfold rtake;rw [if_pos q2]
  unfold takeT at htk;rw [l] at htk;simp only at htk
  rw [aS_ld h (by omega) (by omega)] at htk
  simp only [i64_u64,h.sim.rw] at htk
  refine sim_cont (x':=setTh (rload x (0:Nat) 1) 0 { thr x 0 with b:=rwd x 1,line:=2 }) (y:={ thr x 0 with b:=rwd x 1,line:=2 }) h htk rfl rfl (SameOps.refl _) h.sim.C ?_ rfl rfl rfl h.sim.W h.sim.rg ?_ rfl h.sim.top ?_
  ·exact ⟨r1,r2,Or.inr (Or.inl ⟨g2.trans hk,q1,rfl,fun _=>rfl,fun q=>absurd q (by simp [lnS]),fun q=>absurd q (by simp [lnS])⟩)⟩
  ·simp only [setTh,rload,h.sim.mv]
  ·exact keepO (m:=m) h rfl (SameOps.refl _) rfl rfl rfl r1 hop (Or.inl (by omega))
 ·have ln:lnS (m.S.getD 0 se0) k=2:=g1.symm.trans l
  rw [ln] at q2 q3
  have q2:(thr x 0).line=2:=q2
  have eb:(aK m 0 k).b=rlast x 0:=g3.trans (q3 (Nat.le_refl _)).symm
  unfold rtake;rw [if_neg (by omega),if_pos q2]
  unfold takeT at htk;rw [l] at htk;simp only at htk
  rw [eb,aS_st h (by omega) (by omega)] at htk
  simp only [point,aS_la h] at htk
  have hw0:rwd (rstore x (0:Nat) 1 (rlast x 0)) 0=rwd x 0:=st0 (by omega) (by omega) _
  refine sim_cont (x':=setTh { rpoint (rstore x (0:Nat) 1 (rlast x 0)) 0 x.mv with down:=x.mv,last:=rlast x 0 } 0 { thr x 0 with line:=3 }) (y:={ thr x 0 with line:=3 }) h htk rfl rfl ?_ ?_ ?_ rfl rfl rfl rfl (rg_set h.sim.rg _ (i64_i64 _)) ?_ rfl (h.sim.top.trans hw0.symm) ?_
  ·exact ops_pt (SameOps.refl _) _ _
  ·show _=(rpoint (rstore x (0:Nat) 1 (rlast x 0)) 0 x.mv).C
   rw [rp_C (x':=rstore x (0:Nat) 1 (rlast x 0)) h (T_self h.hit) rfl rfl]
   simp only [hnw]
   exact pt_C h _ h.sim.C
  ·exact ⟨r1,r2,Or.inr (Or.inl ⟨g2.trans hk,q1,rfl,fun _=>rfl,fun q=>absurd q (by simp [lnS]),fun q=>absurd q (by simp [lnS])⟩)⟩
  ·simp only [setTh,rpoint,rstore,h.sim.mv]
  ·refine ⟨fun _=>⟨h.pr.n0,rfl,hnw⟩,fun _ j _ _ _ _ h5=>?_⟩
   have h5:rwd (rstore x (0:Nat) 1 (rlast x 0)) 0=rlast x 0:=h5
   rw [hw0] at h5
   show decide ((aS m 0).top=rlast x 0)=true
   rw [show (aS m 0).top=rwd x 0 from h.sim.top,h5]
   simp
 ·have ln:lnS (m.S.getD 0 se0) k=3:=g1.symm.trans l
  rw [ln] at q2 q3
  have q2:(thr x 0).line=3:=q2
  have eb:(aK m 0 k).b=rlast x 0:=g3.trans (q3 (by omega)).symm
  unfold rtake;rw [if_neg (by omega),if_neg (by omega),if_pos q2]
  unfold takeT at htk;rw [l] at htk;simp only at htk
  rw [eb,aS_ld h (by omega) (by omega)] at htk
  simp only [i64_u64,h.sim.rw] at htk
  by_cases q:rlast x 0<rwd x 0
  ·rw [if_pos q] at htk ⊢
   simp only [point,aS_la h] at htk
   refine sim_cont (x':=setTh (rpoint (rload x (0:Nat) 0) 0 x.mv) 0 { thr x 0 with t:=rwd x 0,line:=4 }) (y:={ thr x 0 with t:=rwd x 0,line:=4 }) h htk rfl rfl ?_ ?_ ?_ rfl rfl rfl h.sim.W h.sim.rg ?_ rfl h.sim.top ?_
   ·exact ops_pt (SameOps.refl _) _ _
   ·show _=(rpoint (rload x (0:Nat) 0) 0 x.mv).C
    rw [rp_C (x':=rload x (0:Nat) 0) h (T_self h.hit) rfl rfl]
    simp only [hnw]
    exact pt_C h _ h.sim.C
   ·exact ⟨r1,r2,Or.inr (Or.inl ⟨g2.trans hk,q1,rfl,fun _=>rfl,fun _=>rfl,fun q=>absurd q (by simp [lnS])⟩)⟩
   ·simp only [setTh,rpoint,rload,h.sim.mv]
   ·exact keepO (m:=m) (y:={ thr x 0 with t:=rwd x 0,line:=4 }) h rfl (ops_pt (SameOps.refl _) _ _) rfl rfl rfl r1 hop (Or.inl (by omega))
  ·rw [if_neg q] at htk ⊢
   refine sim_cont (x':=setTh (rload x (0:Nat) 0) 0 { thr x 0 with t:=rwd x 0,line:=5 }) (y:={ thr x 0 with t:=rwd x 0,line:=5 }) h htk rfl rfl (SameOps.refl _) h.sim.C ?_ rfl rfl rfl h.sim.W h.sim.rg ?_ rfl h.sim.top ?_
   ·exact ⟨r1,r2,Or.inr (Or.inl ⟨g2.trans hk,q1,rfl,fun _=>rfl,fun _=>rfl,fun q=>absurd q (by simp [lnS])⟩)⟩
   ·simp only [setTh,rload,h.sim.mv]
   ·exact keepO (m:=m) h rfl (SameOps.refl _) rfl rfl rfl r1 hop (Or.inl (by omega))
 ·have ln:lnS (m.S.getD 0 se0) k=4:=g1.symm.trans l
  rw [ln] at q2 q4
  have q2:(thr x 0).line=4:=q2
  have et:(aK m 0 k).t=(thr x 0).t:=g4.trans (q4 (by omega)).symm
  have hk4:=(htake (by omega)).2.2.2.2.2.1 q2
  unfold rtake;rw [if_neg (by omega),if_neg (by omega),if_neg (by omega),if_pos q2]
  unfold takeT at htk;rw [l] at htk;simp only at htk
  rw [et,aS_st h (by omega) (by omega)] at htk
  have hw0:rwd (rstore x (0:Nat) 1 (thr x 0).t) 0=rwd x 0:=st0 (by omega) (by omega) _
  refine sim_over (x':=rend { rstore x (0:Nat) 1 (thr x 0).t with down:=-1 } 0 3 0) (x0:={ rstore x (0:Nat) 1 (thr x 0).t with down:=-1 }) (y:=thr x 0) h htk rfl rfl (T_self h.hit) rfl rfl (SameOps.refl _) h.sim.C rfl rfl rfl rfl (rg_set h.sim.rg _ ?_) ?_ rfl (h.sim.top.trans hw0.symm) ?_
  ·rw [hk4.1,← hk4.2];exact h.sim.rw 0
  ·simp only [rstore,h.sim.mv]
  ·exact Hub.calm rfl
 ·have ln:lnS (m.S.getD 0 se0) k=5:=g1.symm.trans l
  rw [ln] at q2 q3 q4
  have q2:(thr x 0).line=5:=q2
  have eb:(aK m 0 k).b=rlast x 0:=g3.trans (q3 (by omega)).symm
  have et:(aK m 0 k).t=(thr x 0).t:=g4.trans (q4 (by omega)).symm
  have hp:=htake (by omega)
  have hk5:=hp.2.2.2.2.2.2.1 q2
  have hla:rlast x 0=(thr x 0).b - 1:=i64_id (by omega) (by omega)
  have ec:cellA (aS m 0) (rlast x 0)=rcell x (rlast x 0):=by unfold cellA rcell;rw [hrm]
  obtain ⟨c1,c2⟩:=rcell_rg h.pr (a:=rlast x 0) (by omega)
  unfold rtake;rw [if_neg (by omega),if_neg (by omega),if_neg (by omega),if_neg (by omega),if_pos q2]
  unfold takeT at htk;rw [l] at htk;simp only at htk
  rw [eb,et,ec,aS_ld h (by omega) c2] at htk
  simp only [i64_u64,h.sim.rw] at htk
  by_cases q:(thr x 0).t<rlast x 0
  ·rw [if_pos q] at htk ⊢
   refine sim_over (x':=rend { setTh (rload x (0:Nat) (rcell x (rlast x 0))) 0 { thr x 0 with v:=rwd x (rcell x (rlast x 0)) } with down:=-1 } 0 2 (rwd x (rcell x (rlast x 0)))) (x0:={ setTh (rload x (0:Nat) (rcell x (rlast x 0))) 0 { thr x 0 with v:=rwd x (rcell x (rlast x 0)) } with down:=-1 }) (y:={ thr x 0 with v:=rwd x (rcell x (rlast x 0)) }) h htk rfl rfl rfl rfl rfl (SameOps.refl _) h.sim.C rfl rfl rfl h.sim.W h.sim.rg ?_ rfl h.sim.top ?_
   ·simp only [setTh,rload,h.sim.mv]
   ·exact Hub.calm rfl
  ·rw [if_neg q] at htk ⊢
   refine sim_cont (x':=setTh (rload x (0:Nat) (rcell x (rlast x 0))) 0 { thr x 0 with v:=rwd x (rcell x (rlast x 0)),line:=6 }) (y:={ thr x 0 with v:=rwd x (rcell x (rlast x 0)),line:=6 }) h htk rfl rfl (SameOps.refl _) h.sim.C ?_ rfl rfl rfl h.sim.W h.sim.rg ?_ rfl h.sim.top ?_
   ·exact ⟨r1,r2,Or.inr (Or.inl ⟨g2.trans hk,q1,rfl,fun _=>rfl,fun _=>rfl,fun _=>rfl⟩)⟩
   ·simp only [setTh,rload,h.sim.mv]
   ·exact keepO (m:=m) h rfl (SameOps.refl _) rfl rfl rfl r1 hop (Or.inl (by omega))
 ·have ln:lnS (m.S.getD 0 se0) k=6:=g1.symm.trans l
  rw [ln] at q2 q3 q4 q5
  have q2:(thr x 0).line=6:=q2
  have eb:(aK m 0 k).b=rlast x 0:=g3.trans (q3 (by omega)).symm
  have et:(aK m 0 k).t=(thr x 0).t:=g4.trans (q4 (by omega)).symm
  have ev:(aK m 0 k).v=(thr x 0).v:=g5.trans (q5 (by omega)).symm
  have hp:=htake (by omega)
  have hk6:=hp.2.2.2.2.2.2.2.1 q2
  have hit:i64 (thr x 0).t=(thr x 0).t:=i64_id (by omega) (by omega)
  unfold rtake;rw [if_neg (by omega),if_neg (by omega),if_neg (by omega),if_neg (by omega),if_neg (by omega),if_pos q2]
  unfold takeT at htk;rw [l] at htk;simp only at htk
  rw [et,aS_sw h hit] at htk
  by_cases q:rwd x 0=(thr x 0).t
  ·simp only [if_pos q,if_true] at htk
   rw [if_pos q]
   have hw0:rwd (rswap x (0:Nat) (thr x 0).t) 0=i64 ((thr x 0).t+1):=by rw [sw0 (by omega),if_pos q]
   have hii:i64 ((thr x 0).t+1)=(thr x 0).t+1:=i64_id (by omega) (by omega)
   refine sim_cont (x':=setTh (rswap x (0:Nat) (thr x 0).t) 0 { thr x 0 with line:=7 }) (y:={ thr x 0 with line:=7 }) h htk rfl rfl (SameOps.refl _) h.sim.C ?_ rfl rfl rfl ?_ ?_ ?_ rfl hw0.symm ?_
   ·exact ⟨r1,r2,Or.inr (Or.inl ⟨g2.trans hk,q1,rfl,fun _=>eb.symm,fun _=>rfl,fun _=>ev.symm⟩)⟩
   ·simp only [setTh,rswap,if_pos q]
   ·simp only [setTh,rswap,if_pos q];exact rg_set h.sim.rg _ (i64_i64 _)
   ·simp only [setTh,rswap,h.sim.mv]
   ·exact Hub.up (m:=m) (v:=vO x.C { thr x 0 with line:=7 }) h rfl rfl (show rwd (rswap x (0:Nat) (thr x 0).t) 0=_ by rw [hw0,hii,q]) (vw_keep h rfl (SameOps.refl _)) (fun _=>by rw [vO_busy (y:={ thr x 0 with line:=7 }) r1 hop];simp)
  ·simp only [if_neg q] at htk
   rw [if_neg (by simp)] at htk
   rw [if_neg q]
   simp only [point,aS_la h] at htk
   have hw0:rwd (rswap x (0:Nat) (thr x 0).t) 0=rwd x 0:=by rw [sw0 (by omega),if_neg q]
   refine sim_cont (x':=setTh (rpoint (rswap x (0:Nat) (thr x 0).t) 0 x.mv) 0 { thr x 0 with line:=8 }) (y:={ thr x 0 with line:=8 }) h htk rfl rfl ?_ ?_ ?_ rfl rfl rfl ?_ ?_ ?_ rfl (h.sim.top.trans hw0.symm) ?_
   ·exact ops_pt (SameOps.refl _) _ _
   ·show _=(rpoint (rswap x (0:Nat) (thr x 0).t) 0 x.mv).C
    rw [rp_C (x':=rswap x (0:Nat) (thr x 0).t) h (T_self h.hit) rfl rfl]
    simp only [hnw]
    exact pt_C h _ h.sim.C
   ·exact ⟨r1,r2,Or.inr (Or.inl ⟨g2.trans hk,q1,rfl,fun _=>eb.symm,fun _=>rfl,fun _=>ev.symm⟩)⟩
   ·simp only [setTh,rpoint,rswap,if_neg q]
   ·simp only [setTh,rpoint,rswap,if_neg q];exact h.sim.rg
   ·simp only [setTh,rpoint,rswap,h.sim.mv]
   ·exact keepO (m:=m) (y:={ thr x 0 with line:=8 }) h rfl (ops_pt (SameOps.refl _) _ _) rfl rfl hw0 r1 hop (Or.inl (by omega))
 ·have ln:lnS (m.S.getD 0 se0) k=7:=g1.symm.trans l
  rw [ln] at q2 q4 q5
  have et:(aK m 0 k).t=(thr x 0).t:=g4.trans (q4 (by omega)).symm
  have ev:(aK m 0 k).v=(thr x 0).v:=g5.trans (q5 (by omega)).symm
  unfold takeT at htk;rw [l] at htk;simp only at htk
  rw [et,ev,show (aK m 0 k).got=k.got from g6,aS_st h (by omega) (by omega)] at htk
  have hw0:rwd (rstore x (0:Nat) 1 (i64 ((thr x 0).t+1))) 0=rwd x 0:=st0 (by omega) (by omega) _
  cases hg:k.got with
  | true =>
   have q2:(thr x 0).line=7:=by rw [q2,hg];rfl
   rw [hg,if_pos rfl] at htk
   unfold rtake;rw [if_neg (by omega),if_neg (by omega),if_neg (by omega),if_neg (by omega),if_neg (by omega),if_neg (by omega),if_pos q2]
   refine sim_over (x':=rend { rstore x (0:Nat) 1 (i64 ((thr x 0).t+1)) with down:=-1 } 0 2 (thr x 0).v) (x0:={ rstore x (0:Nat) 1 (i64 ((thr x 0).t+1)) with down:=-1 }) (y:=thr x 0) h htk rfl rfl (T_self h.hit) rfl rfl (SameOps.refl _) h.sim.C rfl rfl rfl rfl (rg_set h.sim.rg _ (i64_i64 _)) ?_ rfl (h.sim.top.trans hw0.symm) ?_
   ·simp only [rstore,h.sim.mv]
   ·exact Hub.calm rfl
  | false =>
   have q2:(thr x 0).line=8:=by rw [q2,hg];rfl
   rw [hg,if_neg (by simp)] at htk
   unfold rtake;rw [if_neg (by omega),if_neg (by omega),if_neg (by omega),if_neg (by omega),if_neg (by omega),if_neg (by omega),if_neg (by omega),if_pos q2]
   refine sim_over (x':=rend { rstore x (0:Nat) 1 (i64 ((thr x 0).t+1)) with down:=-1 } 0 3 0) (x0:={ rstore x (0:Nat) 1 (i64 ((thr x 0).t+1)) with down:=-1 }) (y:=thr x 0) h htk rfl rfl (T_self h.hit) rfl rfl (SameOps.refl _) h.sim.C rfl rfl rfl rfl (rg_set h.sim.rg _ (i64_i64 _)) ?_ rfl (h.sim.top.trans hw0.symm) ?_
   ·simp only [rstore,h.sim.mv]
   ·exact Hub.calm rfl
end
end Go.Proofs.Ytcloeignccpljaa.D
namespace Go.Proofs.Ytcloeignccpljaa.D
open Go
section
variable {m:Pm} {x:Rm} {i:Nat} {k:Tk}
theorem down_past {n:Int} (h:PrR n x) (hd:0≤x.down):x.last=rwd x 1:=by
 cases e:pastV (vw x 0) with
 | false=>have:=h.v.own.calm e;omega
 | true=>have:=h.v.own.take e;omega
theorem sim_steal (h:Stp m x i k) (hk:k.kd=2) (hl:1≤(aK m i k).ln∧(aK m i k).ln≤4):Sim (aM m i k) { rsteal x i with mv:=x.mv+1 }:=by
 obtain ⟨r1,r2,hr⟩:=h.rel
 obtain ⟨q0,q1,q2,q3,q4⟩:k.kd=2∧(m.C.getD (thr x i).call.toNat ca0).op=92∧(thr x i).line=lnS (m.S.getD i se0) k∧(2≤lnS (m.S.getD i se0) k→(thr x i).t=k.t)∧(4≤lnS (m.S.getD i se0) k→(thr x i).v=k.v):=by
  rcases hr with hr | hr | hr
  ·omega
  ·omega
  ·exact hr
 obtain ⟨g1,g2,g3,g4,g5,g6⟩:=begK_ln h
 have hwl:=h.pr.wlen
 have hr1:=h.pr.v.rm
 have hr2:=h.pr.rm
 have hop:(x.C.getD (thr x i).call.toNat ca0).op=92:=by rw [← h.sim.C];exact q1
 have hrm:(aS m i).room=x.room:=h.sim.room
 have e0:=ext_busy r1
 rw [hop] at e0
 have htk:=task_steal (m:=m) (i:=i) hk
 have hnw:(aS m i).nw=m.mv:=rfl
 have hT0:=h.pr.v.t0
 have htn:=h.pr.tn
 have hnM:=h.pr.nM
 have hB:=bB h.pr
 have hth:=h.pr.v.thief i (by rw [e0]) (by rw [e0])
 rw [e0] at hth
 have hlo:=hth.lo
 simp only at hlo
 rcases (show (aK m i k).ln=1∨(aK m i k).ln=2∨(aK m i k).ln=3∨(aK m i k).ln=4 by omega) with l | l | l | l
 ·have ln:lnS (m.S.getD i se0) k=1:=g1.symm.trans l
  rw [ln] at q2
  have q2:(thr x i).line=1:=q2
  unfold rsteal;rw [if_pos q2]
  unfold stealT at htk;rw [l] at htk;simp only at htk
  rw [aS_ld h (by omega) (by omega)] at htk
  simp only [i64_u64,h.sim.rw] at htk
  refine sim_cont (x':=setTh (rload x i 0) i { thr x i with t:=rwd x 0,line:=2 }) (y:={ thr x i with t:=rwd x 0,line:=2 }) h htk rfl rfl (SameOps.refl _) h.sim.C ?_ rfl rfl rfl h.sim.W h.sim.rg ?_ rfl h.sim.top ?_
  ·exact ⟨r1,r2,Or.inr (Or.inr ⟨g2.trans hk,q1,rfl,fun _=>rfl,fun q=>absurd q (by simp [lnS])⟩)⟩
  ·simp only [setTh,rload,h.sim.mv]
  ·exact keepO (m:=m) (y:={ thr x i with t:=rwd x 0,line:=2 }) h rfl (SameOps.refl _) rfl rfl rfl r1 hop (Or.inr (by simp))
 ·have ln:lnS (m.S.getD i se0) k=2:=g1.symm.trans l
  rw [ln] at q2 q3
  have q2:(thr x i).line=2:=q2
  have et:(aK m i k).t=(thr x i).t:=g4.trans (q3 (by omega)).symm
  have hl2:=hlo (by omega)
  unfold rsteal;rw [if_neg (by omega),if_pos q2,i64_id (by omega) (by omega)]
  unfold stealT at htk;rw [l] at htk;simp only at htk
  rw [et,aS_ld h (by omega) (by omega)] at htk
  simp only [i64_u64,h.sim.rw] at htk
  by_cases q:rwd x 1≤(thr x i).t
  ·rw [if_pos q] at htk
   rw [if_pos (by omega)]
   simp only [point,aS_la h] at htk
   refine sim_over (x':=rend (rpoint (setTh (rload x i 1) i { thr x i with b:=rwd x 1 }) i x.mv) i 3 0) (x0:=rpoint (setTh (rload x i 1) i { thr x i with b:=rwd x 1 }) i x.mv) (y:={ thr x i with b:=rwd x 1 }) h htk rfl rfl rfl rfl rfl ?_ ?_ rfl rfl rfl h.sim.W h.sim.rg ?_ rfl h.sim.top ?_
   ·exact ops_pt (SameOps.refl _) _ _
   ·rw [rp_C (x':=setTh (rload x i 1) i { thr x i with b:=rwd x 1 }) h rfl rfl rfl,← h.sim.mv]
    exact pt_C h _ h.sim.C
   ·simp only [rpoint,setTh,rload,h.sim.mv]
   ·refine keepI (m:=m) h (y:={ thr x i with b:=rwd x 1 }) ?_ ?_ rfl rfl rfl
    ·simp only [rend,rpoint,setTh,rload,thr,List.set_set]
     rw [set_getD _ _ _ _ _ h.hit,if_pos rfl]
    ·exact ops_en (ops_pt (SameOps.refl _) _ _) _ _ _ _
  ·rw [if_neg q] at htk
   rw [if_neg (by omega)]
   refine sim_cont (x':=setTh (rload x i 1) i { thr x i with b:=rwd x 1,line:=3 }) (y:={ thr x i with b:=rwd x 1,line:=3 }) h htk rfl rfl (SameOps.refl _) h.sim.C ?_ rfl rfl rfl h.sim.W h.sim.rg ?_ rfl h.sim.top ?_
   ·exact ⟨r1,r2,Or.inr (Or.inr ⟨g2.trans hk,q1,rfl,fun _=>rfl,fun q=>absurd q (by simp [lnS])⟩)⟩
   ·simp only [setTh,rload,h.sim.mv]
   ·refine Hub.keep (v:=vO x.C { thr x i with b:=rwd x 1,line:=3 }) h.sim.hub rfl rfl rfl (vw_keep h rfl (SameOps.refl _)) fun _ _ _ h4 h5 _=>?_
    rw [vO_busy (y:={ thr x i with b:=rwd x 1,line:=3 }) r1 hop] at h4
    simp only at h4
    have:=down_past h.pr h5
    omega
 ·have ln:lnS (m.S.getD i se0) k=3:=g1.symm.trans l
  rw [ln] at q2 q3
  have q2:(thr x i).line=3:=q2
  have et:(aK m i k).t=(thr x i).t:=g4.trans (q3 (by omega)).symm
  have hl2:=hlo (by omega)
  have ec:cellA (aS m i) (thr x i).t=rcell x (thr x i).t:=by unfold cellA rcell;rw [hrm]
  obtain ⟨c1,c2⟩:=rcell_rg h.pr hl2.1
  unfold rsteal;rw [if_neg (by omega),if_neg (by omega),if_pos q2]
  unfold stealT at htk;rw [l] at htk;simp only at htk
  rw [et,ec,aS_ld h (by omega) c2] at htk
  simp only [i64_u64,h.sim.rw] at htk
  refine sim_cont (x':=setTh (rload x i (rcell x (thr x i).t)) i { thr x i with v:=rwd x (rcell x (thr x i).t),line:=4 }) (y:={ thr x i with v:=rwd x (rcell x (thr x i).t),line:=4 }) h htk rfl rfl (SameOps.refl _) h.sim.C ?_ rfl rfl rfl h.sim.W h.sim.rg ?_ rfl h.sim.top ?_
  ·exact ⟨r1,r2,Or.inr (Or.inr ⟨g2.trans hk,q1,rfl,fun _=>rfl,fun _=>rfl⟩)⟩
  ·simp only [setTh,rload,h.sim.mv]
  ·refine Hub.keep (v:=vO x.C { thr x i with v:=rwd x (rcell x (thr x i).t),line:=4 }) h.sim.hub rfl rfl rfl (vw_keep h rfl (SameOps.refl _)) fun _ _ _ h4 h5 h6=>?_
   rw [vO_busy (y:={ thr x i with v:=rwd x (rcell x (thr x i).t),line:=4 }) r1 hop] at h4
   exact h.sim.hub.b h5 i (by rw [e0]) (by rw [e0]) (by rw [e0];simp only;omega) (by rw [e0];exact h4) h6
 ·have ln:lnS (m.S.getD i se0) k=4:=g1.symm.trans l
  rw [ln] at q2 q3 q4
  have q2:(thr x i).line=4:=q2
  have et:(aK m i k).t=(thr x i).t:=g4.trans (q3 (by omega)).symm
  have ev:(aK m i k).v=(thr x i).v:=g5.trans (q4 (by omega)).symm
  have hl2:=hlo (by omega)
  have hit:i64 (thr x i).t=(thr x i).t:=i64_id (by omega) (by omega)
  have hii:i64 ((thr x i).t+1)=(thr x i).t+1:=i64_id (by omega) (by omega)
  unfold rsteal;rw [if_neg (by omega),if_neg (by omega),if_neg (by omega),if_pos q2]
  unfold stealT at htk;rw [l] at htk;simp only at htk
  rw [et,ev,aS_sw h hit] at htk
  by_cases q:rwd x 0=(thr x i).t
  ·simp only [if_pos q,if_true] at htk
   rw [if_pos q]
   have hw0:rwd (rswap x i (thr x i).t) 0=i64 ((thr x i).t+1):=by rw [sw0 (by omega),if_pos q]
   have hpt:(if (aS m i).last=true∧(thr x i).t=(aS m i).rk then (aS m i).at_ else (aS m i).nw)=(if x.down≥0∧x.last=(thr x i).t then x.down else x.mv):=by
    show (if m.last=true∧(thr x i).t=m.rk then m.at_ else m.mv)=_
    by_cases c:x.down≥0∧x.last=(thr x i).t
    ·have hla:=h.sim.hub.b c.1 i (by rw [e0]) (by rw [e0]) (by rw [e0];simp only;omega) (by rw [e0];exact c.2.symm) (q.trans c.2.symm)
     obtain ⟨a1,a2,a3⟩:=h.sim.hub.a hla
     rw [if_pos c,if_pos ⟨hla,by rw [a2];exact c.2.symm⟩,a3]
    ·rw [if_neg c,if_neg (fun g=>c ⟨(h.sim.hub.a g.1).1,by rw [← (h.sim.hub.a g.1).2.1];exact g.2.symm⟩),h.sim.mv]
   simp only [point,aS_la h,hpt] at htk
   refine sim_over (x':=rend (rpoint (rswap x i (thr x i).t) i (if x.down≥0∧x.last=(thr x i).t then x.down else x.mv)) i 2 (thr x i).v) (x0:=rpoint (rswap x i (thr x i).t) i (if x.down≥0∧x.last=(thr x i).t then x.down else x.mv)) (y:=thr x i) h htk rfl rfl (T_self h.hit) rfl rfl ?_ ?_ rfl rfl rfl ?_ ?_ ?_ rfl hw0.symm ?_
   ·exact ops_pt (SameOps.refl _) _ _
   ·rw [rp_C (x':=rswap x i (thr x i).t) h (T_self h.hit) rfl rfl]
    exact pt_C h _ h.sim.C
   ·simp only [rpoint,rswap,if_pos q]
   ·simp only [rpoint,rswap,if_pos q];exact rg_set h.sim.rg _ (i64_i64 _)
   ·simp only [rpoint,rswap,h.sim.mv]
   ·refine Hub.up (m:=m) (v:=vO x.C { thr x i with call:=-1 }) h rfl rfl ?_ (vw_keep h rfl (ops_en (ops_pt (SameOps.refl _) _ _) _ _ _ _)) (fun g=>by rw [vO_idle] at g;cases g)
    show rwd (rswap x i (thr x i).t) 0=_
    rw [hw0,hii,q]
  ·simp only [if_neg q] at htk
   rw [if_neg (by simp)] at htk
   rw [if_neg q]
   have hw0:rwd (rswap x i (thr x i).t) 0=rwd x 0:=by rw [sw0 (by omega),if_neg q]
   refine sim_cont (x':=setTh (rswap x i (thr x i).t) i { thr x i with line:=1 }) (y:={ thr x i with line:=1 }) h htk rfl rfl (SameOps.refl _) h.sim.C ?_ rfl rfl rfl ?_ ?_ ?_ rfl (h.sim.top.trans hw0.symm) ?_
   ·exact ⟨r1,r2,Or.inr (Or.inr ⟨g2.trans hk,q1,rfl,fun q=>absurd q (by simp [lnS]),fun q=>absurd q (by simp [lnS])⟩)⟩
   ·simp only [setTh,rswap,if_neg q]
   ·simp only [setTh,rswap,if_neg q];exact h.sim.rg
   ·simp only [setTh,rswap,h.sim.mv]
   ·exact keepO (m:=m) (y:={ thr x i with line:=1 }) h rfl (SameOps.refl _) rfl rfl hw0 r1 hop (Or.inr (by simp))
theorem sim_step (h:Stp m x i k):Sim (aM m i k) { rstep x i with mv:=x.mv+1 }:=by
 obtain ⟨r1,r2,hr⟩:=h.rel
 obtain ⟨⟨l1,l2⟩,l3⟩:=begK_ok h.inv h.tk
 have hC:=h.sim.C
 unfold rstep
 rw [← hC]
 have ekd:(aK m i k).kd=k.kd:=(begK_ln h).2.1
 have l1:(aK m i k).kd≤2:=l1
 have l2:(aK m i k).ln≤(if (aK m i k).kd=1 then 7 else 4):=l2
 have l3:1≤(aK m i k).ln:=l3
 rcases hr with hr | hr | hr
 ·rw [if_pos hr.2.1]
  rw [if_neg (by omega)] at l2
  exact sim_push h hr.1 (by omega)
 ·rw [if_neg (by omega),if_pos hr.2.1]
  rw [if_pos (by omega)] at l2
  exact sim_take h hr.1 ⟨l3,l2⟩
 ·rw [if_neg (by omega),if_neg (by omega),if_pos hr.2.1]
  rw [if_neg (by omega)] at l2
  exact sim_steal h hr.1 ⟨l3,l2⟩
end
end Go.Proofs.Ytcloeignccpljaa.D
namespace Go.Proofs.Ytcloeignccpljaa.D
open Go
theorem getD_app {α:Type} {l r:List α} {n:Nat} {d:α} (h:n<l.length):(l++r).getD n d=l.getD n d:=by
 rw [List.getD_eq_getElem?_getD,List.getD_eq_getElem?_getD,List.getElem?_append_left h]
theorem getD_end {α:Type} {l:List α} {c d:α}:(l++[c]).getD l.length d=c:=by
 simp [List.getD_eq_getElem?_getD]
theorem vw_beg {n:Int} {x:Rm} {i:Nat} (h:PrR n x) (hi:i<x.T.length) (c:Ca) (k:Int):vw { x with T:=x.T.set i ⟨x.C.length,1,0,0,0⟩,C:=x.C++[c],mv:=k }=upd (vw x) i ⟨true,c.op,1,0,0⟩:=by
 funext j
 unfold upd vw thr
 simp only
 rw [set_getD _ _ _ _ _ hi]
 by_cases e:j=i
 ·subst e
  rw [if_pos rfl,if_pos rfl]
  unfold vO
  rw [if_pos (by simp)]
  simp [List.getD_eq_getElem?_getD]
 ·rw [if_neg (fun q=>e q.symm),if_neg e]
  unfold vO
  split
  ·next q =>
   have:=h.cl j q
   unfold thr at this
   rw [getD_app this]
  ·rfl
theorem Sim.next {m:Pm} {x:Rm} (h:Sim m x):Sim { m with mv:=m.mv+1 } { x with mv:=x.mv+1 } :=
 ⟨h.room,h.thr,h.W,h.rg,h.L,h.C,by show m.mv+1=x.mv+1;rw [h.mv],h.th,h.top,h.ag,⟨h.hub.a,h.hub.b⟩⟩
theorem sim_beg {m:Pm} {x:Rm} {i:Nat} {k:Tk} {c:Ca} (h:Sim m x) (hp:PrR x.mv x) (hi:i<m.S.length) (hit:i<x.T.length) (hc:i64 c.arg=c.arg) (hk:(k.kd=0∧c.op=90∧c.arg=k.v)∨(k.kd=1∧c.op=91)∨(k.kd=2∧c.op=92)) :
  Sim { m with mv:=m.mv+1,S:=m.S.set i ⟨some k,false,m.C.length,1,0⟩,C:=m.C++[c] } { x with T:=x.T.set i ⟨x.C.length,1,0,0,0⟩,C:=x.C++[c],mv:=x.mv+1 }:=by
 have hC:=h.C
 refine ⟨h.room,by simp only [List.length_set];exact h.thr,h.W,h.rg,h.L,by simp only [hC],by show m.mv+1=x.mv+1;rw [h.mv],fun j hj=>?_,h.top,fun n=>?_,?_⟩
 ·simp only [List.length_set] at hj
  unfold D.thr
  simp only
  rw [set_getD _ _ _ _ _ hi,set_getD _ _ _ _ _ hit]
  by_cases e:i=j
  ·subst e
   rw [if_pos rfl,if_pos rfl]
   have hg:(m.C++[c]).getD (((x.C.length:Nat):Int)).toNat ca0=c:=by rw [Int.toNat_natCast,hC];exact getD_end
   refine ⟨by simp,by simp only [hC],?_⟩
   simp only [hg,lnS]
   rcases hk with hk | hk | hk
   ·exact Or.inl ⟨hk.1,hk.2.1,rfl,hk.2.2,fun q=>by simp at q⟩
   ·exact Or.inr (Or.inl ⟨hk.1,hk.2,by simp,fun q=>by simp at q,fun q=>by simp at q,fun q=>by simp at q⟩)
   ·exact Or.inr (Or.inr ⟨hk.1,hk.2,rfl,fun q=>by simp at q,fun q=>by simp at q⟩)
  ·rw [if_neg e,if_neg e]
   have:=h.th j hj
   unfold Rel at this ⊢
   split
   ·next q=>rw [q] at this;exact this
   ·next k' q =>
    rw [q] at this
    simp only at this ⊢
    have hl:=hp.cl j this.1
    unfold D.thr at hl this
    rw [getD_app (by rw [hC];exact hl)]
    exact this
 ·simp only
  by_cases e:n<m.C.length
  ·rw [getD_app e];exact h.ag n
  ·by_cases e2:n=m.C.length
   ·subst e2;rw [getD_end];exact hc
   ·rw [List.getD_eq_getElem?_getD,List.getElem?_eq_none (by simp;omega)];rfl
 ·refine Hub.keep (v:=⟨true,c.op,1,0,0⟩) h.hub rfl rfl rfl (vw_beg hp hit c _) fun _ _ q=>?_
  simp only at q
  omega
theorem sim_move {m:Pm} {x:Rm} {y:Mo} (h:Sim m x) (hp:PrR x.mv x) (hi:Inv m) (h1:1≤x.thr) (ha:i64 y.arg=y.arg):Sim (moveM m y).1 (rMove x y).1∧(moveM m y).2=(rMove x y).2:=by
 have hthr:=h.thr
 have hmv:=h.mv
 unfold moveM rMove
 by_cases hM:x.mv≥65536
 ·rw [if_pos (by omega),if_pos hM];exact ⟨h,rfl⟩
 rw [if_neg (by omega),if_neg hM]
 unfold rmove
 by_cases hx:y.th<0∨y.th≥x.thr
 ·rw [if_pos (by omega),if_pos hx];exact ⟨h.next,rfl⟩
 rw [if_neg (by omega),if_neg hx]
 have hi1:y.th.toNat<m.S.length:=by omega
 have hi2:y.th.toNat<x.T.length:=by have:=hp.tl;omega
 have hrel:=h.th _ hi1
 cases hk:(m.S.getD y.th.toNat se0).tk with
 | some k =>
  unfold Rel at hrel
  rw [hk] at hrel
  have hb:(D.thr x y.th.toNat).call≥0:=hrel.1
  simp only
  by_cases ho:y.op=0
  ·rw [if_pos ho,if_pos ho,if_pos hb]
   exact ⟨sim_step ⟨h,hp,hi1,hi2,hk,hi,by omega⟩,rfl⟩
  ·rw [if_neg ho,if_neg ho,if_pos (Or.inl hb)];exact ⟨h.next,rfl⟩
 | none =>
  unfold Rel at hrel
  rw [hk] at hrel
  simp only at hrel
  have hb:¬ (D.thr x y.th.toNat).call≥0:=by omega
  simp only
  by_cases ho:y.op=0
  ·rw [if_pos ho,if_pos ho,if_neg hb];exact ⟨h.next,rfl⟩
  ·rw [if_neg ho,if_neg ho]
   unfold make
   by_cases a0:y.op=90
   ·rw [if_pos a0]
    by_cases t0:y.th=0
    ·rw [if_pos t0,if_neg (by omega)]
     refine ⟨?_,rfl⟩
     have:=sim_beg (k:=⟨0,0,0,0,y.arg,false⟩) (c:=⟨y.th,y.op,y.arg,y.data,m.mv,-1,-1,0,0⟩) h hp hi1 hi2 ha (Or.inl ⟨rfl,a0,rfl⟩)
     rw [← hmv] at this ⊢
     exact this
    ·rw [if_neg t0,if_pos (by omega)];exact ⟨h.next,rfl⟩
   ·rw [if_neg a0]
    by_cases a1:y.op=91
    ·rw [if_pos a1]
     by_cases t0:y.th=0
     ·rw [if_pos t0,if_neg (by omega)]
      refine ⟨?_,rfl⟩
      have:=sim_beg (k:=⟨1,0,0,0,0,false⟩) (c:=⟨y.th,y.op,y.arg,y.data,m.mv,-1,-1,0,0⟩) h hp hi1 hi2 ha (Or.inr (Or.inl ⟨rfl,a1⟩))
      rw [← hmv] at this ⊢
      exact this
     ·rw [if_neg t0,if_pos (by omega)];exact ⟨h.next,rfl⟩
    ·rw [if_neg a1]
     by_cases a2:y.op=92
     ·rw [if_pos a2,if_neg (by omega)]
      refine ⟨?_,rfl⟩
      have:=sim_beg (k:=⟨2,0,0,0,0,false⟩) (c:=⟨y.th,y.op,y.arg,y.data,m.mv,-1,-1,0,0⟩) h hp hi1 hi2 ha (Or.inr (Or.inr ⟨rfl,a2⟩))
      rw [← hmv] at this ⊢
      exact this
     ·rw [if_neg a2,if_pos (by omega)];exact ⟨h.next,rfl⟩
theorem sim_new {t r:Int} (h1:1≤t) (h2:1≤r) (h3:r≤256):Sim (newM t r) (newR t r):=by
 have ht:∀ j,(thr (newR t r) j).call = -1:=by
  intro j
  simp only [thr,newR,List.getD_eq_getElem?_getD,List.getElem?_replicate]
  split <;> rfl
 refine ⟨rfl,by simp [newM,newR];omega,by simp [newM,newR,u64_eq],fun v hv=>?_,rfl,rfl,rfl,fun j hj=>?_,?_,fun n=>rfl,Hub.calm rfl⟩
 ·simp only [newR,List.mem_replicate] at hv
  rw [hv.2];rfl
 ·have e:((newM t r).S.getD j se0)=se0:=by
   simp only [newM,List.getD_eq_getElem?_getD,List.getElem?_replicate]
   split <;> rfl
  rw [e]
  show (thr (newR t r) j).call<0
  rw [ht];omega
 ·simp only [newM,rwd,newR,List.getD_eq_getElem?_getD,List.getElem?_replicate]
  split <;> rfl
def runR (x:Rm):List Mo→Rm
 | []=>x
 | y :: l=>runR (rMove x y).1 l
structure Both (m:Pm) (x:Rm):Prop where
 sim:Sim m x
 pr:PrR x.mv x
 inv:Inv m
 thr:1≤x.thr
theorem both_move {m:Pm} {x:Rm} {y:Mo} (h:Both m x) (ha:i64 y.arg=y.arg):Both (moveM m y).1 (rMove x y).1∧(moveM m y).2=(rMove x y).2:=by
 obtain ⟨h1,h2⟩:=sim_move h.sim h.pr h.inv h.thr ha
 have h3:=pr_move (mv:=y) h.pr
 exact ⟨⟨h1,h3.1,(move_inv h.inv).1,by rw [h3.2.2.2];exact h.thr⟩,h2⟩
theorem both_new {t r:Int} (h1:1≤t) (h2:1≤r) (h3:r≤256):Both (newM t r) (newR t r) :=
 ⟨sim_new h1 h2 h3,pr_new h1 h2 h3,new_inv t r (by omega),h1⟩
end Go.Proofs.Ytcloeignccpljaa.D
namespace Go.Proofs.Ytcloeignccpljaa.D
open Go
def cal (x:Rm) (k:Nat):Ca:=x.C.getD k ca0
structure CA (n:Int) (x:Rm):Prop where
 bg:∀ k,k<x.C.length→(cal x k).bg<n
 en:∀ k,k<x.C.length→(cal x k).en<n
 ord:∀ j k,j<k→k<x.C.length→(cal x j).th=0→(cal x k).th=0→0≤(cal x j).en∧(cal x j).en<(cal x k).bg
 cur:∀ k:Nat,k<x.C.length→(cal x k).th=0→(cal x k).en<0→(thr x 0).call=k
 own:∀ j:Nat,0≤(thr x j).call→(thr x j).call.toNat<x.C.length∧(cal x (thr x j).call.toNat).th=j∧(cal x (thr x j).call.toNat).en<0
theorem ca_same {n:Int} {x x' : Rm} (h:CA n x) (hl:x'.C.length=x.C.length) (hc:∀ k,(cal x' k).th=(cal x k).th∧(cal x' k).bg=(cal x k).bg∧(cal x' k).en=(cal x k).en) (ht:∀ j,(thr x' j).call=(thr x j).call):CA n x':=by
 refine ⟨fun k hk=>?_,fun k hk=>?_,fun j k hjk hk h1 h2=>?_,fun k hk h1 h2=>?_,fun j hj=>?_⟩
 ·rw [(hc k).2.1];exact h.bg k (hl ▸ hk)
 ·rw [(hc k).2.2];exact h.en k (hl ▸ hk)
 ·rw [(hc j).2.2,(hc k).2.1];rw [(hc j).1] at h1;rw [(hc k).1] at h2;exact h.ord j k hjk (hl ▸ hk) h1 h2
 ·rw [ht];rw [(hc k).1] at h1;rw [(hc k).2.2] at h2;exact h.cur k (hl ▸ hk) h1 h2
 ·rw [ht] at hj ⊢;rw [hl,(hc _).1,(hc _).2.2];exact h.own j hj
theorem ca_eq {n:Int} {x x' : Rm} (h:CA n x) (hC:x'.C=x.C) (hT:x'.T=x.T):CA n x' :=
 ca_same h (by rw [hC]) (fun k=>by unfold cal;rw [hC];exact ⟨rfl,rfl,rfl⟩) (fun j=>by unfold thr;rw [hT])
theorem ca_set {n:Int} {x:Rm} {i:Nat} {y:Th} (h:CA n x) (hy:y.call=(thr x i).call):CA n (setTh x i y):=by
 refine ca_same h rfl (fun k=>⟨rfl,rfl,rfl⟩) fun j=>?_
 unfold setTh thr
 simp only
 rw [set_getD']
 split
 ·next q=>rw [hy,q.1];rfl
 ·rfl
theorem ca_of {n:Int} {x x' : Rm} {i:Nat} (y:Th) (h:CA n x) (hT:x'.T=x.T.set i y) (hC:x'.C=x.C) (hy:y.call=(thr x i).call):CA n x' :=
 ca_eq (x:=setTh x i y) (ca_set h hy) hC hT
theorem ca_ofp {n:Int} {x x' : Rm} {i:Nat} (y:Th) (h:CA n x) (hT:x'.T=x.T.set i y) {q:Nat} {p:Int} (hC:x'.C=x.C.set q { x.C.getD q ca0 with pt:=p }) (hy:y.call=(thr x i).call):CA n x':=by
 refine ca_same (ca_set (y:=y) (i:=i) h hy) (by rw [hC,List.length_set];rfl) (fun k=>?_) fun j=>by unfold thr;rw [hT];rfl
 unfold cal setTh
 simp only
 rw [hC,set_getD']
 split
 ·next e=>obtain ⟨rfl,_⟩:=e;exact ⟨rfl,rfl,rfl⟩
 ·exact ⟨rfl,rfl,rfl⟩
theorem ca_mono {n n' : Int} {x:Rm} (h:CA n x) (hn:n≤n'):CA n' x :=
 ⟨fun k hk=>Int.lt_of_lt_of_le (h.bg k hk) hn,fun k hk=>Int.lt_of_lt_of_le (h.en k hk) hn,h.ord,h.cur,h.own⟩
theorem ca_end {n:Int} {x:Rm} {i:Nat} {k v:Int} (h:CA n x) (hi:i<x.T.length) (hb:0≤(thr x i).call) (hm:x.mv=n) (hn:0≤n):CA (n+1) (rend x i k v):=by
 obtain ⟨o1,o2,o3⟩:=h.own i hb
 have hc:∀ j,cal (rend x i k v) j=if (thr x i).call.toNat=j then { cal x (thr x i).call.toNat with en:=n,ak:=k,av:=v } else cal x j:=fun j=>by
  unfold cal rend
  simp only
  rw [set_getD _ _ _ _ _ o1,hm]
 have ht:∀ j,(thr (rend x i k v) j).call=if i=j then -1 else (thr x j).call:=fun j=>by
  unfold rend
  show ((x.T.set i { thr x i with call:=-1 }).getD j th0).call=_
  rw [set_getD _ _ _ _ _ hi]
  split <;> rfl
 have hl:(rend x i k v).C.length=x.C.length:=by simp [rend]
 have hth:∀ j,(cal (rend x i k v) j).th=(cal x j).th:=fun j=>by rw [hc];split <;> (try subst_vars) <;> rfl
 have hbg:∀ j,(cal (rend x i k v) j).bg=(cal x j).bg:=fun j=>by rw [hc];split <;> (try subst_vars) <;> rfl
 refine ⟨fun j hj=>?_,fun j hj=>?_,fun j l hjl hl' h1 h2=>?_,fun j hj h1 h2=>?_,fun j hj=>?_⟩
 ·rw [hbg];have:=h.bg j (hl ▸ hj);omega
 ·rw [hc]
  split
  ·exact (show n<n+1 by omega)
  ·have:=h.en j (hl ▸ hj);omega
 ·rw [hth] at h1 h2
  rw [hbg,hc]
  have ho:=h.ord j l hjl (hl ▸ hl') h1 h2
  split
  ·next e=>subst e;omega
  ·exact ho
 ·rw [hth] at h1
  rw [hc] at h2
  split at h2
  ·next e=>simp only at h2;omega
  ·next e =>
   have hcu:=h.cur j (hl ▸ hj) h1 h2
   rw [ht]
   split
   ·next q=>subst q;rw [hcu] at e;simp at e
   ·exact hcu
 ·rw [ht] at hj ⊢
  split at hj
  ·omega
  ·next q =>
   rw [if_neg q]
   obtain ⟨g1,g2,g3⟩:=h.own j hj
   have e:¬ (thr x i).call.toNat=(thr x j).call.toNat:=fun e=>by rw [e] at o2;omega
   rw [hl,hth,hc,if_neg e]
   exact ⟨g1,g2,g3⟩
theorem ca_beg {n:Int} {x:Rm} {i:Nat} {c:Ca} (h:CA n x) (hi:i<x.T.length) (hb:¬ 0≤(thr x i).call) (hn:0≤n) (h1:c.th=i) (h2:c.bg=n) (h3:c.en = -1) :
  CA (n+1) { x with T:=x.T.set i ⟨x.C.length,1,0,0,0⟩,C:=x.C++[c] }:=by
 generalize hx:({ x with T:=x.T.set i ⟨x.C.length,1,0,0,0⟩,C:=x.C++[c] }:Rm)=x'
 have hl:x'.C.length=x.C.length+1:=by rw [← hx];simp
 have hc:∀ j,j<x.C.length→cal x' j=cal x j:=fun j hj=>by
  rw [← hx];unfold cal
  simp only
  rw [List.getD_eq_getElem?_getD,List.getD_eq_getElem?_getD,List.getElem?_append_left hj]
 have hc' : cal x' x.C.length=c:=by rw [← hx];unfold cal;simp [List.getD_eq_getElem?_getD]
 have ht:∀ j,(thr x' j).call=if i=j then (x.C.length:Int) else (thr x j).call:=fun j=>by
  rw [← hx]
  show ((x.T.set i ⟨x.C.length,1,0,0,0⟩).getD j th0).call=_
  rw [set_getD _ _ _ _ _ hi]
  split <;> rfl
 have hj' : ∀ j,j<x'.C.length→j<x.C.length∨j=x.C.length:=fun j hj=>by omega
 refine ⟨fun j hj=>?_,fun j hj=>?_,fun j l hjl hl' g1 g2=>?_,fun j hj g1 g2=>?_,fun j hj=>?_⟩
 ·rcases hj' j hj with q | rfl
  ·rw [hc j q];have:=h.bg j q;omega
  ·rw [hc'];omega
 ·rcases hj' j hj with q | rfl
  ·rw [hc j q];have:=h.en j q;omega
  ·rw [hc'];omega
 ·rcases hj' l hl' with q | rfl
  ·rw [hc j (by omega)] at g1 ⊢
   rw [hc l q] at g2 ⊢
   exact h.ord j l hjl q g1 g2
  ·rw [hc j hjl] at g1 ⊢
   rw [hc'] at g2 ⊢
   have hi0:i=0:=by omega
   subst hi0
   have:¬ (cal x j).en<0:=fun q=>by have:=h.cur j hjl g1 q;omega
   have:=h.en j hjl
   omega
 ·rw [ht]
  rcases hj' j hj with q | rfl
  ·rw [hc j q] at g1 g2
   have:=h.cur j q g1 g2
   split
   ·next e=>subst e;omega
   ·exact this
  ·rw [hc'] at g1
   rw [if_pos (by omega)]
 ·rw [ht] at hj ⊢
  split at hj
  ·next e =>
   rw [if_pos e]
   simp only [Int.toNat_natCast]
   rw [hc']
   exact ⟨by omega,by omega,by omega⟩
  ·next e =>
   rw [if_neg e]
   obtain ⟨g1,g2,g3⟩:=h.own j hj
   rw [hc _ g1]
   exact ⟨by omega,g2,g3⟩
def NT (C:List Ca) (p:Int):Prop:=∃ k,k<C.length∧(C.getD k ca0).th=0∧(C.getD k ca0).bg<p∧((C.getD k ca0).en<0∨p≤(C.getD k ca0).en)∧(C.getD k ca0).op≠91
def Later (n:Int) (C C' : List Ca):Prop:=∀ p,p≤n→NT C p→NT C' p
theorem Later.refl (n:Int) (C:List Ca):Later n C C:=fun _ _ h=>h
theorem Later.trans {n:Int} {C C' C'' : List Ca} (h:Later n C C') (h' : Later n C' C''):Later n C C'':=fun p hp q=>h' p hp (h p hp q)
theorem later_set {n:Int} {C:List Ca} (k:Nat) (c:Ca) (h1:c.th=(C.getD k ca0).th) (h2:c.bg=(C.getD k ca0).bg) (h3:c.en=(C.getD k ca0).en∨c.en=n) (h4:c.op=(C.getD k ca0).op):Later n C (C.set k c):=by
 rintro p hp ⟨j,g1,g2,g3,g4,g5⟩
 refine ⟨j,by rw [List.length_set];exact g1,?_⟩
 rw [set_getD']
 split
 ·next q =>
  obtain ⟨rfl,_⟩:=q
  exact ⟨by rw [h1];exact g2,by rw [h2];exact g3,by rcases h3 with q | q <;> rw [q] <;> first | exact g4 | exact Or.inr hp,by rw [h4];exact g5⟩
 ·exact ⟨g2,g3,g4,g5⟩
theorem later_pt {n:Int} {C:List Ca} (k:Nat) (p:Int):Later n C (C.set k { C.getD k ca0 with pt:=p }):=later_set k _ rfl rfl (Or.inl rfl) rfl
theorem later_en {n:Int} {C:List Ca} (k:Nat) (a b m:Int) (hm:m=n):Later n C (C.set k { C.getD k ca0 with en:=m,ak:=a,av:=b }):=later_set k _ rfl rfl (Or.inr hm) rfl
theorem later_app {n:Int} {C:List Ca} (c:Ca):Later n C (C++[c]):=by
 rintro p hp ⟨j,g1,g2⟩
 refine ⟨j,by rw [List.length_append];omega,?_⟩
 rw [show (C++[c]).getD j ca0=C.getD j ca0 by rw [List.getD_eq_getElem?_getD,List.getD_eq_getElem?_getD,List.getElem?_append_left g1]]
 exact g2
def ownC (p:Int) (c:Ca):Bool:=decide (c.th=0) && decide (c.bg<p) && (decide (c.en<0) || decide (p≤c.en))
def owned:List Ca→Int→Bool
 | [],_=>false
 | c :: l,p=>if ownC p c=true then decide (c.op=91) else owned l p
theorem owned_no:∀ (C:List Ca) (p:Int),(∀ c∈C,ownC p c=true→c.op≠91)→owned C p=false
 | [],_,_=>rfl
 | c :: l,p,h=>by
  unfold owned
  split
  ·next q=>exact decide_eq_false (h c (by simp) q)
  ·exact owned_no l p fun d hd=>h d (by simp [hd])
theorem owned_nt {n:Int} {x:Rm} {p:Int} (h:CA n x) (hn:NT x.C p):owned x.C p=false:=by
 obtain ⟨k,k1,k2,k3,k4,k5⟩:=hn
 refine owned_no _ _ fun c hc hp=>?_
 obtain ⟨j,hj,rfl⟩:=List.getElem_of_mem hc
 have e:cal x j=x.C[j]:=by unfold cal;rw [List.getD_eq_getElem?_getD,List.getElem?_eq_getElem hj];rfl
 simp only [ownC,Bool.and_eq_true,Bool.or_eq_true,decide_eq_true_eq] at hp
 rw [← e] at hp ⊢
 obtain ⟨⟨p1,p2⟩,p3⟩:=hp
 by_cases q:j=k
 ·subst q;exact k5
 ·exfalso
  by_cases q2:j<k
  ·have:=h.ord j k q2 k1 p1 k2
   unfold cal at *
   omega
  ·have:=h.ord k j (by omega) hj k2 p1
   unfold cal at *
   omega
end Go.Proofs.Ytcloeignccpljaa.D
