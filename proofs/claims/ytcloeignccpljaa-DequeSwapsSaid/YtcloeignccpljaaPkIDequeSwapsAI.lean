/- DequeSwapsSaid: what its proof is made of. No condition. -/
import Derived.Test.YtcloeignccpljaaPkIDequeSwapsAH
set_option linter.unusedSimpArgs false
set_option linter.unusedVariables false
namespace Go.Proofs.Ytcloeignccpljaa.D
open Go
structure Sc where
 top:Int
 ld:List Int
 dn:Int
 last:Int
def sc0 (t:Nat):Sc:=⟨0,List.replicate t 0,0,-1⟩
def scD (a:Ac) (s:Sc):Int:=if a.th=0∧a.ad=1∧a.kd=2 then a.new else s.dn
def sc1 (i:Nat) (a:Ac) (s:Sc):Sc :=
 if a.ad≠0 then { s with dn:=scD a s }
 else if a.kd=1 then { s with ld:=s.ld.set a.th.toNat i }
 else if a.saw=a.old then { s with top:=u64 (s.top+1),last:=i } else s
def scanI:Nat→Sc→List Ac→Sc
 | _,s,[]=>s
 | i,s,a :: l=>scanI (i+1) (sc1 i a s) l
theorem scanI_app:∀ (l l' : List Ac) (i:Nat) (s:Sc),scanI i s (l++l')=scanI (i+l.length) (scanI i s l) l'
 | [],_,_,_=>rfl
 | a :: l,l',i,s=>by
  show scanI (i+1) _ (l++l')=_
  rw [scanI_app l l' (i+1),List.length_cons,show i+1+l.length=i+(l.length+1) by omega]
  rfl
def scan (t:Nat) (L:List Ac):Sc:=scanI 0 (sc0 t) L
theorem scan_app (t:Nat) (L:List Ac) (a:Ac):scan t (L++[a])=sc1 L.length a (scan t L):=by
 unfold scan
 rw [scanI_app,Nat.zero_add]
 rfl
theorem scan_take {t:Nat} {L:List Ac} {k:Nat} (h:k<L.length):scan t (L.take (k+1))=sc1 k (L.getD k ac0) (scan t (L.take k)):=by
 rw [List.take_add_one,List.getElem?_eq_getElem h,List.getD_eq_getElem?_getD,List.getElem?_eq_getElem h]
 show scan t (L.take k++[L[k]])=_
 rw [scan_app,List.length_take,Nat.min_eq_left (Nat.le_of_lt h)]
 rfl
def okA (C:List Ca) (t:Int) (a:Ac) (s:Sc):Prop :=
 0≤a.th∧a.th<t∧(a.ad=0→(a.kd=1∧a.saw=s.top)∨(a.kd=3∧a.new=u64 (a.old+1)∧(a.saw≠a.old→s.ld.getD a.th.toNat 0≤s.last)∧(a.th=0→a.old=s.dn∨NT C a.mv)))
theorem okA.later {n:Int} {C C' : List Ca} {t:Int} {a:Ac} {s:Sc} (h:okA C t a s) (hC:Later n C C') (hn:a.mv≤n):okA C' t a s:=by
 obtain ⟨h1,h2,h3⟩:=h
 refine ⟨h1,h2,fun q=>?_⟩
 rcases h3 q with h3 | ⟨g1,g2,g3,g4⟩
 ·exact Or.inl h3
 ·refine Or.inr ⟨g1,g2,g3,fun q=>?_⟩
  rcases g4 q with g | g
  ·exact Or.inl g
  ·exact Or.inr (hC _ hn g)
def needV (v:V):Prop:=v.bz=true∧((v.op=92∧2≤v.ln)∨(v.op=91∧4≤v.ln∧v.ln≤6))
structure TB (n:Int) (x:Rm):Prop where
 top:(scan x.thr.toNat x.L).top=u64 (rwd x 0)
 dn:(scan x.thr.toNat x.L).dn=u64 (rwd x 1)
 len:(scan x.thr.toNat x.L).ld.length=x.thr.toNat
 le:∀ v∈(scan x.thr.toNat x.L).ld,v≤x.L.length
 th:∀ j,needV (vw x j)→(scan x.thr.toNat x.L).last<(scan x.thr.toNat x.L).ld.getD j 0→rwd x 0=(vw x j).t
 mv:∀ a∈x.L,a.mv<n
 ok:∀ k,k<x.L.length→okA x.C x.thr (x.L.getD k ac0) (scan x.thr.toNat (x.L.take k))
theorem tb_app {n:Int} {x x' : Rm} {i:Nat} {a:Ac} {v:V} (h:TB n x) (hL:x'.L=x.L++[a]) (hC:Later n x.C x'.C) (ht:x'.thr=x.thr) (hm:a.mv=n) (hv:vw x' = upd (vw x) i v)
  (ha:okA x'.C x.thr a (scan x.thr.toNat x.L)) (top:(sc1 x.L.length a (scan x.thr.toNat x.L)).top=u64 (rwd x' 0)) (dn:(sc1 x.L.length a (scan x.thr.toNat x.L)).dn=u64 (rwd x' 1))
  (len:(sc1 x.L.length a (scan x.thr.toNat x.L)).ld.length=x.thr.toNat) (le:∀ v∈(sc1 x.L.length a (scan x.thr.toNat x.L)).ld,v≤x.L.length+1)
  (hi:needV v→(sc1 x.L.length a (scan x.thr.toNat x.L)).last<(sc1 x.L.length a (scan x.thr.toNat x.L)).ld.getD i 0→rwd x' 0=v.t)
  (ho:∀ j,j≠i→needV (vw x j)→(sc1 x.L.length a (scan x.thr.toNat x.L)).last<(sc1 x.L.length a (scan x.thr.toNat x.L)).ld.getD j 0→rwd x' 0=(vw x j).t):TB (n+1) x':=by
 have e:scan x'.thr.toNat x'.L=sc1 x.L.length a (scan x.thr.toNat x.L):=by rw [hL,ht,scan_app]
 refine ⟨by rw [e];exact top,by rw [e];exact dn,by rw [e,ht];exact len,by rw [e,hL,List.length_append];exact fun v hv=>le v hv,fun j=>?_,fun b hb=>?_,fun k hk=>?_⟩
 ·rw [e,hv]
  by_cases q:j=i
  ·subst q;rw [upd_i];exact hi
  ·rw [upd_o _ _ q];exact ho j q
 ·rw [hL] at hb
  rcases List.mem_append.1 hb with q | q
  ·have:=h.mv b q;omega
  ·rw [List.mem_singleton.1 q];omega
 ·rw [hL,List.length_append] at hk
  simp only [List.length_cons,List.length_nil] at hk
  rw [ht,hL]
  by_cases q:k<x.L.length
  ·rw [List.take_append_of_le_length (by omega),show (x.L++[a]).getD k ac0=x.L.getD k ac0 by rw [List.getD_eq_getElem?_getD,List.getD_eq_getElem?_getD,List.getElem?_append_left q]]
   refine (h.ok k q).later hC ?_
   have:=h.mv (x.L.getD k ac0) (by rw [List.getD_eq_getElem?_getD,List.getElem?_eq_getElem q];exact List.getElem_mem q)
   omega
  ·obtain rfl:k=x.L.length:=by omega
   rw [List.take_left,show (x.L++[a]).getD x.L.length ac0=a by simp [List.getD_eq_getElem?_getD]]
   exact ha
theorem getD_le {l:List Int} {b:Int} (h:∀ v∈l,v≤b) (h0:0≤b) (j:Nat):l.getD j 0≤b:=by
 rw [List.getD_eq_getElem?_getD]
 cases e:l[j]? with
 | none=>exact h0
 | some v=>exact h v (List.mem_of_getElem? e)
section
variable {n:Int} {x x' : Rm} {i:Nat} {v:V}
theorem tb_load {a:Int} (h:TB n x) (hi:(i:Int)<x.thr) (hL:x'.L=x.L++[⟨x.mv,i,1,a,0,0,u64 (rwd x a)⟩]) (hW:x'.W=x.W) (hC:Later n x.C x'.C) (ht:x'.thr=x.thr) (hm:x.mv=n) (hv:vw x' = upd (vw x) i v)
  (hn:needV v→(a=0∧v.t=rwd x 0)∨(a≠0∧needV (vw x i)∧v.t=(vw x i).t)):TB (n+1) x':=by
 have hw:∀ b,rwd x' b=rwd x b:=fun b=>by unfold rwd;rw [hW]
 by_cases q:a=0
 ·subst q
  have e:sc1 x.L.length ⟨x.mv,i,1,0,0,0,u64 (rwd x 0)⟩ (scan x.thr.toNat x.L)={ scan x.thr.toNat x.L with ld:=(scan x.thr.toNat x.L).ld.set i x.L.length }:=rfl
  refine tb_app h hL hC ht hm hv ⟨by simp only;omega,hi,fun _=>Or.inl ⟨rfl,h.top.symm⟩⟩ ?_ ?_ ?_ ?_ ?_ ?_ <;> rw [e]
  ·rw [hw];exact h.top
  ·rw [hw];exact h.dn
  ·rw [List.length_set];exact h.len
  ·intro u hu
   rcases List.mem_or_eq_of_mem_set hu with q | rfl
   ·have:=h.le u q;omega
   ·omega
  ·intro g _
   rcases hn g with q | q
   ·rw [hw];exact q.2.symm
   ·exact absurd rfl q.1
  ·intro j hj g1 g2
   simp only at g2
   rw [set_getD',if_neg (fun q=>hj q.1.symm)] at g2
   rw [hw];exact h.th j g1 g2
 ·have e:sc1 x.L.length ⟨x.mv,i,1,a,0,0,u64 (rwd x a)⟩ (scan x.thr.toNat x.L)=scan x.thr.toNat x.L:=by
   unfold sc1 scD
   rw [if_pos (by exact q),if_neg (by simp)]
  refine tb_app h hL hC ht hm hv ⟨by simp only;omega,hi,fun g=>absurd g q⟩ ?_ ?_ ?_ ?_ ?_ ?_ <;> rw [e]
  ·rw [hw];exact h.top
  ·rw [hw];exact h.dn
  ·exact h.len
  ·intro u hu;have:=h.le u hu;omega
  ·intro g g2
   rcases hn g with g3 | g3
   ·exact absurd g3.1 q
   ·rw [hw,g3.2.2];exact h.th i g3.2.1 g2
  ·intro j hj g1 g2
   rw [hw];exact h.th j g1 g2
theorem tb_store {a b:Int} (h:TB n x) (h0:0<x.thr) (ha:1≤a) (hl:a<x.W.length) (hL:x'.L=x.L++[⟨x.mv,(0:Nat),2,a,0,u64 b,0⟩]) (hW:x'.W=x.W.set a.toNat b) (hC:Later n x.C x'.C) (ht:x'.thr=x.thr) (hm:x.mv=n)
  (hv:vw x' = upd (vw x) 0 v) (hn:¬ needV v):TB (n+1) x':=by
 have hw:∀ c,0≤c→rwd x' c=if a=c then b else rwd x c:=fun c hc=>by
  unfold rwd
  rw [hW]
  exact rwd_set (by omega) hl hc
 have e:sc1 x.L.length ⟨x.mv,(0:Nat),2,a,0,u64 b,0⟩ (scan x.thr.toNat x.L)={ scan x.thr.toNat x.L with dn:=if a=1 then u64 b else (scan x.thr.toNat x.L).dn }:=by
  unfold sc1 scD
  rw [if_pos (show a≠0 by omega)]
  simp
 refine tb_app h hL hC ht hm hv ⟨by simp,h0,fun g=>absurd (show a=0 from g) (by omega)⟩ ?_ ?_ ?_ ?_ ?_ ?_ <;> rw [e]
 ·rw [hw 0 (by omega),if_neg (show ¬ a=0 by omega)];exact h.top
 ·rw [hw 1 (by omega)]
  simp only
  split
  ·rfl
  ·exact h.dn
 ·exact h.len
 ·intro u hu;have:=h.le u hu;omega
 ·exact fun g=>absurd g hn
 ·intro j hj g1 g2
  rw [hw 0 (by omega),if_neg (by omega)];exact h.th j g1 g2
theorem tb_swap {o:Int} (h:TB n x) (hi:(i:Int)<x.thr) (hwl:1<(x.W.length:Int)) (hL:x'.L=x.L++[⟨x.mv,i,3,0,u64 o,u64 (i64 (o+1)),u64 (rwd x 0)⟩]) (hW:x'.W=if rwd x 0=o then x.W.set 0 (i64 (o+1)) else x.W)
  (hC:Later n x.C x'.C) (ht:x'.thr=x.thr) (hm:x.mv=n) (hv:vw x' = upd (vw x) i v) (hold:needV (vw x i)) (ho:(vw x i).t=o) (r1:i64 o=o) (r2:i64 (rwd x 0)=rwd x 0) (h0:i=0→o=rwd x 1∨NT x'.C n) (hn:¬ needV v):TB (n+1) x':=by
 have hu:u64 (rwd x 0)=u64 o↔rwd x 0=o:=by
  rw [u64_eq,u64_eq];rw [i64_eq] at r1 r2
  constructor
  ·intro q;split at r1 <;> split at r2 <;> omega
  ·intro q;rw [q]
 have hx:u64 (i64 (o+1))=u64 (u64 o+1):=by
  rw [u64_eq,u64_eq,u64_eq,i64_eq];split <;> omega
 have hw1:rwd x' 1=rwd x 1:=by
  unfold rwd;rw [hW]
  split
  ·have:=rwd_set (x:=x) (a:=0) (v:=i64 (o+1)) (b:=1) (by omega) (by omega) (by omega)
   rw [if_neg (by omega)] at this
   exact this
  ·rfl
 have hok:okA x'.C x.thr ⟨x.mv,i,3,0,u64 o,u64 (i64 (o+1)),u64 (rwd x 0)⟩ (scan x.thr.toNat x.L):=by
  refine ⟨by simp only;omega,hi,fun _=>Or.inr ⟨rfl,hx,fun q=>?_,fun q=>?_⟩⟩
  ·simp only at q ⊢
   rw [ne_eq,hu] at q
   rw [Int.toNat_natCast]
   by_cases g:(scan x.thr.toNat x.L).last<(scan x.thr.toNat x.L).ld.getD i 0
   ·exact absurd ((h.th i hold g).trans ho) q
   ·omega
  ·simp only at q ⊢
   rcases h0 (by omega) with g | g
   ·left;rw [g];exact h.dn.symm
   ·right;rw [hm];exact g
 by_cases q:rwd x 0=o
 ·have e:sc1 x.L.length ⟨x.mv,i,3,0,u64 o,u64 (i64 (o+1)),u64 (rwd x 0)⟩ (scan x.thr.toNat x.L)={ scan x.thr.toNat x.L with top:=u64 ((scan x.thr.toNat x.L).top+1),last:=x.L.length }:=by
   unfold sc1
   rw [if_neg (by simp),if_neg (by simp),if_pos (hu.2 q)]
  have hw0:rwd x' 0=i64 (o+1):=by
   unfold rwd;rw [hW,if_pos q]
   have:=rwd_set (x:=x) (a:=0) (v:=i64 (o+1)) (b:=0) (by omega) (by omega) (by omega)
   rw [if_pos rfl] at this
   exact this
  have hvac:∀ j,¬ (x.L.length:Int)<(scan x.thr.toNat x.L).ld.getD j 0:=fun j=>by
   have:=getD_le h.le (by omega) j
   omega
  refine tb_app h hL hC ht hm hv hok ?_ ?_ ?_ ?_ ?_ ?_ <;> rw [e]
  ·rw [hw0,hx,← hu.2 q,h.top]
  ·rw [hw1];exact h.dn
  ·exact h.len
  ·intro u hu;have:=h.le u hu;omega
  ·exact fun g=>absurd g hn
  ·exact fun j hj g1 g2=>absurd g2 (hvac j)
 ·have e:sc1 x.L.length ⟨x.mv,i,3,0,u64 o,u64 (i64 (o+1)),u64 (rwd x 0)⟩ (scan x.thr.toNat x.L)=scan x.thr.toNat x.L:=by
   unfold sc1
   rw [if_neg (by simp),if_neg (by simp),if_neg (fun g=>q (hu.1 g))]
  have hw0:rwd x' 0=rwd x 0:=by unfold rwd;rw [hW,if_neg q]
  refine tb_app h hL hC ht hm hv hok ?_ ?_ ?_ ?_ ?_ ?_ <;> rw [e]
  ·rw [hw0];exact h.top
  ·rw [hw1];exact h.dn
  ·exact h.len
  ·intro u hu;have:=h.le u hu;omega
  ·exact fun g=>absurd g hn
  ·intro j hj g1 g2;rw [hw0];exact h.th j g1 g2
theorem tb_keep (h:TB n x) (hL:x'.L=x.L) (hW:x'.W=x.W) (hC:Later n x.C x'.C) (ht:x'.thr=x.thr) (hv:∀ j,needV (vw x' j)→vw x' j=vw x j):TB (n+1) x':=by
 have hw:∀ b,rwd x' b=rwd x b:=fun b=>by unfold rwd;rw [hW]
 refine ⟨by rw [hL,ht,hw];exact h.top,by rw [hL,ht,hw];exact h.dn,by rw [hL,ht];exact h.len,by rw [hL,ht];exact h.le,fun j g=>?_,fun a ha=>?_,fun k hk=>?_⟩
 ·have:=hv j g
  rw [this] at g ⊢
  rw [hL,ht,hw]
  exact h.th j g
 ·rw [hL] at ha;have:=h.mv a ha;omega
 ·rw [hL] at hk ⊢
  rw [ht]
  refine (h.ok k hk).later hC ?_
  have:=h.mv (x.L.getD k ac0) (by rw [List.getD_eq_getElem?_getD,List.getElem?_eq_getElem hk];exact List.getElem_mem hk)
  omega
end
end Go.Proofs.Ytcloeignccpljaa.D
namespace Go.Proofs.Ytcloeignccpljaa.D
open Go
theorem vwB {x x' : Rm} {i:Nat} {y:Th} {op ln b t:Int} (hT:x'.T=x.T.set i y) (hi:i<x.T.length) (hC:SameOps x.C x'.C) (hb:0≤y.call) (ho:(x.C.getD y.call.toNat ca0).op=op) (h1:y.line=ln) (h2:y.b=b) (h3:y.t=t):vw x' = upd (vw x) i ⟨true,op,ln,b,t⟩:=by
 rw [vw_of hT hi hC,vO_busy hb ho,h1,h2,h3]
theorem vwI {x x' : Rm} {i:Nat} {y:Th} (hT:x'.T=x.T.set i { y with call:=-1 }) (hi:i<x.T.length) (hC:SameOps x.C x'.C):vw x' = upd (vw x) i idle:=by
 rw [vw_of hT hi hC,vO_idle]
theorem nv_idle:¬ needV idle:=fun g=>by cases g.1
theorem nv_push {ln b t:Int}:¬ needV ⟨true,90,ln,b,t⟩:=fun g=>by have:=g.2;simp only at this;omega
theorem nv_take {ln b t:Int} (h:ln<4∨6<ln):¬ needV ⟨true,91,ln,b,t⟩:=fun g=>by have:=g.2;simp only at this;omega
theorem nv_steal {ln b t:Int} (h:ln<2):¬ needV ⟨true,92,ln,b,t⟩:=fun g=>by have:=g.2;simp only at this;omega
theorem yv_take {ln b t:Int} (h:4≤ln∧ln≤6):needV ⟨true,91,ln,b,t⟩:=⟨rfl,Or.inr ⟨rfl,h⟩⟩
theorem yv_steal {ln b t:Int} (h:2≤ln):needV ⟨true,92,ln,b,t⟩:=⟨rfl,Or.inl ⟨rfl,h⟩⟩
theorem end_T {x y:Rm} {i:Nat} {k v:Int} {z:Th} (hT:y.T=x.T.set i z) (hi:i<x.T.length):(rend y i k v).T=x.T.set i { z with call:=-1 }:=by
 unfold rend thr
 simp only
 rw [hT,set_getD _ _ _ _ _ hi,if_pos rfl,List.set_set]
theorem thr_T {x y:Rm} {i:Nat} {z:Th} (hT:y.T=x.T.set i z) (hi:i<x.T.length):thr y i=z:=by
 unfold thr;rw [hT,set_getD _ _ _ _ _ hi,if_pos rfl]
section
variable {n:Int} {x:Rm} {i:Nat}
theorem tr_rpush (h:PrR n x) (hc:CA n x) (ht:TB n x) (hm:x.mv=n) (hr:∀ v∈x.W,i64 v=v) (hi:0<x.T.length) (hb:0≤(thr x 0).call) (ho:(x.C.getD (thr x 0).call.toNat ca0).op=90) (hl:1≤(thr x 0).line∧(thr x 0).line≤4):CA (n+1) (rpush x 0)∧TB (n+1) (rpush x 0):=by
 have e0:=ext_busy hb
 rw [ho] at e0
 have hwl:=h.wlen
 have hr1:=h.v.rm
 have hr2:=h.rm
 have hn0:=h.n0
 have hT0:=h.v.t0
 have hth:((0:Nat):Int)<x.thr:=by have:=h.tl;omega
 have htn:=h.tn
 have hnM:=h.nM
 have hB:=bB h
 have hrw:i64 (rwd x 0)=rwd x 0:=i64_id (by omega) (by omega)
 rcases (show (thr x 0).line=1∨(thr x 0).line=2∨(thr x 0).line=3∨(thr x 0).line=4 by omega) with l | l | l | l
 ·unfold rpush;rw [if_pos l]
  rw [l] at e0
  refine ⟨ca_mono (ca_of ({ thr x 0 with b:=rwd x 1,line:=2 }) hc (rfl) rfl rfl) (by omega),?_⟩
  exact tb_load (a:=1) ht hth rfl rfl (Later.refl _ _) rfl hm (vwB (y:={ thr x 0 with b:=rwd x 1,line:=2 }) (ln:=2) (rfl) hi (SameOps.refl _) hb ho rfl rfl rfl) (fun g=>absurd g (nv_push))
 ·unfold rpush;rw [if_neg (by omega),if_pos l]
  rw [l] at e0
  split
  ·refine ⟨ca_end (ca_ofp ({ thr x 0 with t:=rwd x 0 }) hc (rfl) rfl rfl) (by simp [rend,rpoint,setTh,rload,rstore,rswap];exact hi) (by rw [thr_T (x:=x) (z:={ thr x 0 with t:=rwd x 0 }) (rfl) hi];exact hb) hm hn0,?_⟩
   exact tb_load (a:=0) ht hth rfl rfl (Later.trans (later_pt _ _) (later_en _ _ _ _ hm)) rfl hm (vwI (y:={ thr x 0 with t:=rwd x 0 }) (end_T (rfl) hi) hi (ops_en (ops_pt (SameOps.refl _) _ _) _ _ _ _)) (fun g=>absurd g (nv_idle))
  ·refine ⟨ca_mono (ca_of ({ thr x 0 with t:=rwd x 0,line:=3 }) hc (rfl) rfl rfl) (by omega),?_⟩
   exact tb_load (a:=0) ht hth rfl rfl (Later.refl _ _) rfl hm (vwB (y:={ thr x 0 with t:=rwd x 0,line:=3 }) (ln:=3) (rfl) hi (SameOps.refl _) hb ho rfl rfl rfl) (fun g=>absurd g (nv_push))
 ·unfold rpush;rw [if_neg (by omega),if_neg (by omega),if_pos l]
  rw [l] at e0
  have hbb:=(h.v.own.push (by rw [e0]) (by rw [e0])).1 (by rw [e0];simp)
  rw [e0] at hbb
  simp only at hbb
  have hca:=h.v.own.calm (by rw [e0];rfl)
  obtain ⟨c1,c2⟩:=rcell_rg h (a:=(thr x 0).b) (by omega)
  refine ⟨ca_mono (ca_of ({ thr x 0 with line:=4 }) hc (rfl) rfl rfl) (by omega),?_⟩
  exact tb_store (a:=rcell x (thr x 0).b) (b:=(x.C.getD (thr x 0).call.toNat ca0).arg) ht hth (by omega) (by omega) rfl rfl (Later.refl _ _) rfl hm (vwB (y:={ thr x 0 with line:=4 }) (ln:=4) (rfl) hi (SameOps.refl _) hb ho rfl rfl rfl) (nv_push)
 ·unfold rpush;rw [if_neg (by omega),if_neg (by omega),if_neg (by omega),if_pos l]
  rw [l] at e0
  refine ⟨ca_end (ca_ofp (thr x 0) hc (T_self hi) rfl rfl) (by simp [rend,rpoint,setTh,rload,rstore,rswap];exact hi) (by rw [thr_T (x:=x) (z:=thr x 0) (T_self hi) hi];exact hb) hm hn0,?_⟩
  exact tb_store (a:=1) (b:=i64 ((thr x 0).b+1)) ht hth (by omega) (by omega) rfl rfl (Later.trans (later_pt _ _) (later_en _ _ _ _ hm)) rfl hm (vwI (y:=thr x 0) (end_T (T_self hi) hi) hi (ops_en (ops_pt (SameOps.refl _) _ _) _ _ _ _)) (nv_idle)
theorem tr_rtake (h:PrR n x) (hc:CA n x) (ht:TB n x) (hm:x.mv=n) (hr:∀ v∈x.W,i64 v=v) (hi:0<x.T.length) (hb:0≤(thr x 0).call) (ho:(x.C.getD (thr x 0).call.toNat ca0).op=91) (hl:1≤(thr x 0).line∧(thr x 0).line≤8):CA (n+1) (rtake x 0)∧TB (n+1) (rtake x 0):=by
 have e0:=ext_busy hb
 rw [ho] at e0
 have hwl:=h.wlen
 have hr1:=h.v.rm
 have hr2:=h.rm
 have hn0:=h.n0
 have hT0:=h.v.t0
 have hth:((0:Nat):Int)<x.thr:=by have:=h.tl;omega
 have htn:=h.tn
 have hnM:=h.nM
 have hB:=bB h
 have hrw:i64 (rwd x 0)=rwd x 0:=i64_id (by omega) (by omega)
 rcases (show (thr x 0).line=1∨(thr x 0).line=2∨(thr x 0).line=3∨(thr x 0).line=4∨(thr x 0).line=5∨(thr x 0).line=6∨(thr x 0).line=7∨(thr x 0).line=8 by omega) with l | l | l | l | l | l | l | l
 ·unfold rtake;rw [if_pos l]
  rw [l] at e0
  refine ⟨ca_mono (ca_of ({ thr x 0 with b:=rwd x 1,line:=2 }) hc (rfl) rfl rfl) (by omega),?_⟩
  exact tb_load (a:=1) ht hth rfl rfl (Later.refl _ _) rfl hm (vwB (y:={ thr x 0 with b:=rwd x 1,line:=2 }) (ln:=2) (rfl) hi (SameOps.refl _) hb ho rfl rfl rfl) (fun g=>absurd g (nv_take (ln:=2) (by omega)))
 ·unfold rtake;rw [if_neg (by omega),if_pos l]
  rw [l] at e0
  refine ⟨ca_mono (ca_ofp ({ thr x 0 with line:=3 }) hc (rfl) rfl rfl) (by omega),?_⟩
  exact tb_store (a:=1) (b:=rlast x 0) ht hth (by omega) (by omega) rfl rfl (later_pt _ _) rfl hm (vwB (y:={ thr x 0 with line:=3 }) (ln:=3) (rfl) hi (ops_pt (SameOps.refl _) _ _) hb ho rfl rfl rfl) (nv_take (ln:=3) (by omega))
 ·unfold rtake;rw [if_neg (by omega),if_neg (by omega),if_pos l]
  rw [l] at e0
  split
  ·refine ⟨ca_mono (ca_ofp ({ thr x 0 with t:=rwd x 0,line:=4 }) hc (rfl) rfl rfl) (by omega),?_⟩
   exact tb_load (a:=0) ht hth rfl rfl (later_pt _ _) rfl hm (vwB (y:={ thr x 0 with t:=rwd x 0,line:=4 }) (ln:=4) (rfl) hi (ops_pt (SameOps.refl _) _ _) hb ho rfl rfl rfl) (fun _=>Or.inl ⟨rfl,rfl⟩)
  ·refine ⟨ca_mono (ca_of ({ thr x 0 with t:=rwd x 0,line:=5 }) hc (rfl) rfl rfl) (by omega),?_⟩
   exact tb_load (a:=0) ht hth rfl rfl (Later.refl _ _) rfl hm (vwB (y:={ thr x 0 with t:=rwd x 0,line:=5 }) (ln:=5) (rfl) hi (SameOps.refl _) hb ho rfl rfl rfl) (fun _=>Or.inl ⟨rfl,rfl⟩)
 ·unfold rtake;rw [if_neg (by omega),if_neg (by omega),if_neg (by omega),if_pos l]
  rw [l] at e0
  refine ⟨ca_end (ca_of (thr x 0) hc (T_self hi) rfl rfl) (by simp [rend,rpoint,setTh,rload,rstore,rswap];exact hi) (by rw [thr_T (x:=x) (z:=thr x 0) (T_self hi) hi];exact hb) hm hn0,?_⟩
  exact tb_store (a:=1) (b:=(thr x 0).t) ht hth (by omega) (by omega) rfl rfl (later_en _ _ _ _ hm) rfl hm (vwI (y:=thr x 0) (end_T (T_self hi) hi) hi (ops_en (SameOps.refl _) _ _ _ _)) (nv_idle)
 ·unfold rtake;rw [if_neg (by omega),if_neg (by omega),if_neg (by omega),if_neg (by omega),if_pos l]
  rw [l] at e0
  obtain ⟨g1,g2,g3,g4,g5,g6,g7,g8,g9⟩:=h.v.own.take (by rw [e0];rfl)
  rw [e0] at g3 g4 g5 g6 g7 g8 g9
  simp only at g3 g4 g5 g6 g7 g8 g9
  have g7a:=g7 trivial
  have hla:rlast x 0=(thr x 0).b - 1:=i64_id (by omega) (by omega)
  have hcc:=(rcell_rg h (a:=rlast x 0) (by omega)).1
  split
  ·refine ⟨ca_end (ca_of ({ thr x 0 with v:=rwd x (rcell x (rlast x 0)) }) hc (rfl) rfl rfl) (by simp [rend,rpoint,setTh,rload,rstore,rswap];exact hi) (by rw [thr_T (x:=x) (z:={ thr x 0 with v:=rwd x (rcell x (rlast x 0)) }) (rfl) hi];exact hb) hm hn0,?_⟩
   exact tb_load (a:=rcell x (rlast x 0)) ht hth rfl rfl (later_en _ _ _ _ hm) rfl hm (vwI (y:={ thr x 0 with v:=rwd x (rcell x (rlast x 0)) }) (end_T (rfl) hi) hi (ops_en (SameOps.refl _) _ _ _ _)) (fun g=>absurd g (nv_idle))
  ·refine ⟨ca_mono (ca_of ({ thr x 0 with v:=rwd x (rcell x (rlast x 0)),line:=6 }) hc (rfl) rfl rfl) (by omega),?_⟩
   exact tb_load (a:=rcell x (rlast x 0)) ht hth rfl rfl (Later.refl _ _) rfl hm (vwB (y:={ thr x 0 with v:=rwd x (rcell x (rlast x 0)),line:=6 }) (ln:=6) (rfl) hi (SameOps.refl _) hb ho rfl rfl rfl) (fun _=>Or.inr ⟨by omega,by rw [e0];exact yv_take (by omega),by rw [e0]⟩)
 ·unfold rtake;rw [if_neg (by omega),if_neg (by omega),if_neg (by omega),if_neg (by omega),if_neg (by omega),if_pos l]
  rw [l] at e0
  obtain ⟨g1,g2,g3,g4,g5,g6,g7,g8,g9⟩:=h.v.own.take (by rw [e0];rfl)
  rw [e0] at g3 g4 g5 g6 g7 g8 g9
  simp only at g3 g4 g5 g6 g7 g8 g9
  have g8a:=g8 trivial
  have hro:i64 (thr x 0).t=(thr x 0).t:=i64_id (by omega) (by omega)
  split
  ·refine ⟨ca_mono (ca_of ({ thr x 0 with line:=7 }) hc (rfl) rfl rfl) (by omega),?_⟩
   exact tb_swap (o:=(thr x 0).t) ht hth (by omega) rfl rfl (Later.refl _ _) rfl hm (vwB (y:={ thr x 0 with line:=7 }) (ln:=7) (rfl) hi (SameOps.refl _) hb ho rfl rfl rfl) (by rw [e0];exact yv_take (by omega)) (by rw [e0]) hro hrw (fun _=>Or.inl (by omega)) (nv_take (ln:=7) (by omega))
  ·refine ⟨ca_mono (ca_ofp ({ thr x 0 with line:=8 }) hc (rfl) rfl rfl) (by omega),?_⟩
   exact tb_swap (o:=(thr x 0).t) ht hth (by omega) rfl rfl (later_pt _ _) rfl hm (vwB (y:={ thr x 0 with line:=8 }) (ln:=8) (rfl) hi (ops_pt (SameOps.refl _) _ _) hb ho rfl rfl rfl) (by rw [e0];exact yv_take (by omega)) (by rw [e0]) hro hrw (fun _=>Or.inl (by omega)) (nv_take (ln:=8) (by omega))
 ·unfold rtake;rw [if_neg (by omega),if_neg (by omega),if_neg (by omega),if_neg (by omega),if_neg (by omega),if_neg (by omega),if_pos l]
  rw [l] at e0
  refine ⟨ca_end (ca_of (thr x 0) hc (T_self hi) rfl rfl) (by simp [rend,rpoint,setTh,rload,rstore,rswap];exact hi) (by rw [thr_T (x:=x) (z:=thr x 0) (T_self hi) hi];exact hb) hm hn0,?_⟩
  exact tb_store (a:=1) (b:=i64 ((thr x 0).t+1)) ht hth (by omega) (by omega) rfl rfl (later_en _ _ _ _ hm) rfl hm (vwI (y:=thr x 0) (end_T (T_self hi) hi) hi (ops_en (SameOps.refl _) _ _ _ _)) (nv_idle)
 ·unfold rtake;rw [if_neg (by omega),if_neg (by omega),if_neg (by omega),if_neg (by omega),if_neg (by omega),if_neg (by omega),if_neg (by omega),if_pos l]
  rw [l] at e0
  refine ⟨ca_end (ca_of (thr x 0) hc (T_self hi) rfl rfl) (by simp [rend,rpoint,setTh,rload,rstore,rswap];exact hi) (by rw [thr_T (x:=x) (z:=thr x 0) (T_self hi) hi];exact hb) hm hn0,?_⟩
  exact tb_store (a:=1) (b:=i64 ((thr x 0).t+1)) ht hth (by omega) (by omega) rfl rfl (later_en _ _ _ _ hm) rfl hm (vwI (y:=thr x 0) (end_T (T_self hi) hi) hi (ops_en (SameOps.refl _) _ _ _ _)) (nv_idle)
theorem tr_rsteal (h:PrR n x) (hc:CA n x) (ht:TB n x) (hm:x.mv=n) (hr:∀ v∈x.W,i64 v=v) (hi:i<x.T.length) (hb:0≤(thr x i).call) (ho:(x.C.getD (thr x i).call.toNat ca0).op=92) (hl:1≤(thr x i).line∧(thr x i).line≤4):CA (n+1) (rsteal x i)∧TB (n+1) (rsteal x i):=by
 have e0:=ext_busy hb
 rw [ho] at e0
 have hwl:=h.wlen
 have hr1:=h.v.rm
 have hr2:=h.rm
 have hn0:=h.n0
 have hT0:=h.v.t0
 have hth:((i:Nat):Int)<x.thr:=by have:=h.tl;omega
 have htn:=h.tn
 have hnM:=h.nM
 have hB:=bB h
 have hrw:i64 (rwd x 0)=rwd x 0:=i64_id (by omega) (by omega)
 rcases (show (thr x i).line=1∨(thr x i).line=2∨(thr x i).line=3∨(thr x i).line=4 by omega) with l | l | l | l
 ·unfold rsteal;rw [if_pos l]
  rw [l] at e0
  refine ⟨ca_mono (ca_of ({ thr x i with t:=rwd x 0,line:=2 }) hc (rfl) rfl rfl) (by omega),?_⟩
  exact tb_load (a:=0) ht hth rfl rfl (Later.refl _ _) rfl hm (vwB (y:={ thr x i with t:=rwd x 0,line:=2 }) (ln:=2) (rfl) hi (SameOps.refl _) hb ho rfl rfl rfl) (fun _=>Or.inl ⟨rfl,rfl⟩)
 ·unfold rsteal;rw [if_neg (by omega),if_pos l]
  rw [l] at e0
  split
  ·refine ⟨ca_end (ca_ofp ({ thr x i with b:=rwd x 1 }) hc (rfl) rfl rfl) (by simp [rend,rpoint,setTh,rload,rstore,rswap];exact hi) (by rw [thr_T (x:=x) (z:={ thr x i with b:=rwd x 1 }) (rfl) hi];exact hb) hm hn0,?_⟩
   exact tb_load (a:=1) ht hth rfl rfl (Later.trans (later_pt _ _) (later_en _ _ _ _ hm)) rfl hm (vwI (y:={ thr x i with b:=rwd x 1 }) (end_T (rfl) hi) hi (ops_en (ops_pt (SameOps.refl _) _ _) _ _ _ _)) (fun g=>absurd g (nv_idle))
  ·refine ⟨ca_mono (ca_of ({ thr x i with b:=rwd x 1,line:=3 }) hc (rfl) rfl rfl) (by omega),?_⟩
   exact tb_load (a:=1) ht hth rfl rfl (Later.refl _ _) rfl hm (vwB (y:={ thr x i with b:=rwd x 1,line:=3 }) (ln:=3) (rfl) hi (SameOps.refl _) hb ho rfl rfl rfl) (fun _=>Or.inr ⟨by omega,by rw [e0];exact yv_steal (by omega),by rw [e0]⟩)
 ·unfold rsteal;rw [if_neg (by omega),if_neg (by omega),if_pos l]
  rw [l] at e0
  have hlo:=(h.v.thief i (by rw [e0]) (by rw [e0])).lo (by rw [e0];simp)
  rw [e0] at hlo
  simp only at hlo
  have hcc:=(rcell_rg h (a:=(thr x i).t) (by omega)).1
  refine ⟨ca_mono (ca_of ({ thr x i with v:=rwd x (rcell x (thr x i).t),line:=4 }) hc (rfl) rfl rfl) (by omega),?_⟩
  exact tb_load (a:=rcell x (thr x i).t) ht hth rfl rfl (Later.refl _ _) rfl hm (vwB (y:={ thr x i with v:=rwd x (rcell x (thr x i).t),line:=4 }) (ln:=4) (rfl) hi (SameOps.refl _) hb ho rfl rfl rfl) (fun _=>Or.inr ⟨by omega,by rw [e0];exact yv_steal (by omega),by rw [e0]⟩)
 ·unfold rsteal;rw [if_neg (by omega),if_neg (by omega),if_neg (by omega),if_pos l]
  rw [l] at e0
  have hlo:=(h.v.thief i (by rw [e0]) (by rw [e0])).lo (by rw [e0];simp)
  rw [e0] at hlo
  simp only at hlo
  have hro:i64 (thr x i).t=(thr x i).t:=i64_id (by omega) (by omega)
  obtain ⟨o1,o2,o3⟩:=hc.own i hb
  have hnt:i=0→NT x.C n:=fun q=>⟨_,o1,by rw [q] at o2 ⊢;exact o2,hc.bg _ o1,Or.inl o3,by rw [ho];omega⟩
  split
  ·refine ⟨ca_end (ca_ofp (thr x i) hc (T_self hi) rfl rfl) (by simp [rend,rpoint,setTh,rload,rstore,rswap];exact hi) (by rw [thr_T (x:=x) (z:=thr x i) (T_self hi) hi];exact hb) hm hn0,?_⟩
   exact tb_swap (o:=(thr x i).t) ht hth (by omega) rfl rfl (Later.trans (later_pt _ _) (later_en _ _ _ _ hm)) rfl hm (vwI (y:=thr x i) (end_T (T_self hi) hi) hi (ops_en (ops_pt (SameOps.refl _) _ _) _ _ _ _)) (by rw [e0];exact yv_steal (by omega)) (by rw [e0]) hro hrw (fun q=>Or.inr ((Later.trans (later_pt _ _) (later_en _ _ _ _ hm)) n (Int.le_refl _) (hnt q))) (nv_idle)
  ·refine ⟨ca_mono (ca_of ({ thr x i with line:=1 }) hc (rfl) rfl rfl) (by omega),?_⟩
   exact tb_swap (o:=(thr x i).t) ht hth (by omega) rfl rfl (Later.refl _ _) rfl hm (vwB (y:={ thr x i with line:=1 }) (ln:=1) (rfl) hi (SameOps.refl _) hb ho rfl rfl rfl) (by rw [e0];exact yv_steal (by omega)) (by rw [e0]) hro hrw (fun q=>Or.inr (hnt q)) (nv_steal (ln:=1) (by omega))
end
theorem tr_rstep {n:Int} {x:Rm} {i:Nat} (h:PrR n x) (hc:CA n x) (ht:TB n x) (hm:x.mv=n) (hr:∀ v∈x.W,i64 v=v) (hi:i<x.T.length) (hb:0≤(thr x i).call):CA (n+1) (rstep x i)∧TB (n+1) (rstep x i):=by
 obtain ⟨h1,h2,h3,h4⟩:=busy_ops h hb
 unfold rstep
 rcases h1 with h1 | h1 | h1
 ·have:=h2 (by omega)
  subst this
  rw [if_pos h1]
  rw [if_neg (by omega)] at h4
  exact tr_rpush h hc ht hm hr hi hb h1 ⟨h3,h4⟩
 ·have:=h2 (by omega)
  subst this
  rw [if_neg (by omega),if_pos h1]
  rw [if_pos h1] at h4
  exact tr_rtake h hc ht hm hr hi hb h1 ⟨h3,h4⟩
 ·rw [if_neg (by omega),if_neg (by omega),if_pos h1]
  rw [if_neg (by omega)] at h4
  exact tr_rsteal h hc ht hm hr hi hb h1 ⟨h3,h4⟩
theorem tb_mv {n k:Int} {x:Rm} (h:TB n x):TB n { x with mv:=k }:=⟨h.top,h.dn,h.len,h.le,h.th,h.mv,h.ok⟩
theorem tr_move {x:Rm} {y:Mo} (h:PrR x.mv x) (hc:CA x.mv x) (ht:TB x.mv x) (hr:∀ v∈x.W,i64 v=v):CA (rMove x y).1.mv (rMove x y).1∧TB (rMove x y).1.mv (rMove x y).1:=by
 have h0:=h.n0
 unfold rMove
 split
 ·exact ⟨hc,ht⟩
 have stay:CA (x.mv+1) { x with mv:=x.mv+1 }∧TB (x.mv+1) { x with mv:=x.mv+1 } :=
  ⟨ca_eq (ca_mono hc (by omega)) rfl rfl,tb_keep ht rfl rfl (Later.refl _ _) rfl fun _ _=>rfl⟩
 show CA (x.mv+1) { (rmove x y).1 with mv:=x.mv+1 }∧TB (x.mv+1) { (rmove x y).1 with mv:=x.mv+1 }
 unfold rmove
 split
 ·exact stay
 next hx =>
 have hi:y.th.toNat<x.T.length:=by have:=h.tl;omega
 split
 ·split
  ·next hb =>
   obtain ⟨g1,g2⟩:=tr_rstep h hc ht rfl hr hi hb
   exact ⟨ca_eq g1 rfl rfl,tb_mv g2⟩
  ·exact stay
 ·split
  ·exact stay
  ·next hb =>
   have hi' : ¬ 0≤(thr x y.th.toNat).call:=fun q=>hb (Or.inl q)
   refine ⟨ca_eq (ca_beg (i:=y.th.toNat) (c:=⟨y.th,y.op,y.arg,y.data,x.mv,-1,-1,0,0⟩) hc hi hi' h0 (by simp only;omega) rfl rfl) rfl rfl,?_⟩
   refine tb_keep ht rfl rfl (later_app _) rfl fun j g=>?_
   unfold vw thr at g ⊢
   simp only at g ⊢
   rw [set_getD _ _ _ _ _ hi] at g ⊢
   split at g
   ·next e =>
    rw [if_pos e]
    exfalso
    have hv:vO (x.C++[⟨y.th,y.op,y.arg,y.data,x.mv,-1,-1,0,0⟩]) ⟨x.C.length,1,0,0,0⟩=⟨true,y.op,1,0,0⟩:=vO_busy (by simp) (by simp [List.getD_eq_getElem?_getD])
    rw [hv] at g
    have:=g.2
    simp only at this
    omega
   ·next e =>
    rw [if_neg e]
    unfold vO
    split
    ·next q =>
     have:=h.cl j q
     unfold thr at this
     rw [getD_app this]
    ·rfl
theorem tr_new {t r:Int} (h1:1≤t):CA 0 (newR t r)∧TB 0 (newR t r):=by
 have ht:∀ j,(thr (newR t r) j).call = -1:=by
  intro j
  simp only [thr,newR,List.getD_eq_getElem?_getD,List.getElem?_replicate]
  split <;> rfl
 have hw:∀ a,rwd (newR t r) a=0:=by
  intro a
  simp only [rwd,newR,List.getD_eq_getElem?_getD,List.getElem?_replicate]
  split <;> rfl
 have hz:∀ k,¬ k<(newR t r).C.length:=fun k=>by simp [newR]
 refine ⟨⟨fun k hk=>absurd hk (hz k),fun k hk=>absurd hk (hz k),fun j k _ hk=>absurd hk (hz k),fun k hk=>absurd hk (hz k),fun j hj=>by rw [ht j] at hj;omega⟩,?_⟩
 refine ⟨by rw [hw];rfl,by rw [hw];rfl,by simp [newR,scan,scanI,sc0],fun v hv=>?_,fun j g=>?_,fun a ha=>by simp [newR] at ha,fun k hk=>by simp [newR] at hk⟩
 ·simp only [newR,scan,scanI,sc0] at hv
  have:=(List.mem_replicate.1 hv).2
  omega
 ·have:vw (newR t r) j=idle:=by unfold vw vO;rw [ht j,if_neg (by omega)]
  rw [this] at g
  exact absurd g nv_idle
theorem tr_run:∀ (l:List Mo) {m:Pm} {x:Rm},Both m x→(∀ y∈l,i64 y.arg=y.arg)→CA x.mv x→TB x.mv x→CA (runR x l).mv (runR x l)∧TB (runR x l).mv (runR x l)
 | [],_,_,_,_,hc,ht=>⟨hc,ht⟩
 | y :: l,m,x,h,ha,hc,ht=>by
  obtain ⟨g1,g2⟩:=tr_move (y:=y) h.pr hc ht h.sim.rg
  exact tr_run l (both_move h (ha y (by simp))).1 (fun z hz=>ha z (by simp [hz])) g1 g2
end Go.Proofs.Ytcloeignccpljaa.D
namespace Go.Proofs.Ytcloeignccpljaa
open Go.RowKit
section
variable {H:Type} {enc:TypeId×Value→H} {P:Program} {w:World} {base:Nat} {spare:Nat→Bool} {held:Bool}
def leavesFields (L:TypeId→Option (List TypeId)) (P:Program):List Field→Nat→Option (List TypeId)
 | [],_=>some []
 | f :: r,off=>if f.offset=off then (L f.type).bind fun l=>if l.length=P.cellsOf f.type then (leavesFields L P r (off+l.length)).map (l++·) else none else none
def leavesIn (P:Program):Nat→TypeId→Option (List TypeId)
 | 0,_=>none
 | n+1,t=>match P.underlying t with
  | some (.struct fs)=>leavesFields (leavesIn P n) P fs.toList 0
  | some (.array k e)=>(leavesIn P n e).bind fun l=>if l.length=P.cellsOf e then some (List.replicate k l).flatten else none
  | some _=>some [t]
  | none=>none
theorem trod_one {t:TypeId} {fuel:Nat} {cs:List Value} {x:DataW H×List MemPlace} {d:TypeDesc} (hu:P.underlying t=some d) (hs:∀ fs,d≠.struct fs) (ha:∀ n e,d≠.array n e)
  (h:DataW.trod enc P w base spare held fuel t cs=some x):∃ c,cs=[c]:=by
 cases fuel with
 | zero=>simp [DataW.trod] at h
 | succ n =>
  rcases cs with _ | ⟨c,_ | ⟨c2,r⟩⟩
  ·exfalso
   cases d <;> first | exact hs _ rfl | exact ha _ _ rfl | simp [DataW.trod,hu] at h
  ·exact ⟨c,rfl⟩
  ·exfalso
   cases d <;> first | exact hs _ rfl | exact ha _ _ rfl | simp [DataW.trod,hu] at h
def LeafAt (enc:TypeId×Value→H) (P:Program) (w:World) (base:Nat) (spare:Nat→Bool) (held:Bool) (bound:Nat) (ws:List Nat) (u:TypeId) (c:Value):Prop :=
 ∃ m y,DataW.trod enc P w base spare held m u [c]=some y∧Rows.uptoBulk y.1≤bound∧∀ k∈y.1.weights P u,k∈ws
theorem bulk_mem {d:DataW H} {l:List (DataW H)} (h:d∈l):Rows.uptoBulk d≤Rows.uptoBulkAll l:=by
 induction l with
 | nil=>cases h
 | cons x r ih =>
  simp only [Rows.uptoBulkAll]
  cases List.mem_cons.1 h with
  | inl e=>subst e;omega
  | inr e=>have:=ih e;omega
theorem one_le_bulk (d:DataW H):1≤Rows.uptoBulk d:=by
 cases d with
 | lit l=>cases l <;> simp [Rows.uptoBulk]
 | nil=>simp [Rows.uptoBulk]
 | ptr d=>simp [Rows.uptoBulk]
 | slice elems spare=>simp [Rows.uptoBulk]
 | agg parts=>simp [Rows.uptoBulk]
 | iface t d=>simp [Rows.uptoBulk]
 | map entries=>simp [Rows.uptoBulk]
 | held h=>simp [Rows.uptoBulk]
theorem length_le_bulk (l:List (DataW H)):l.length≤Rows.uptoBulkAll l:=by
 induction l with
 | nil=>simp [Rows.uptoBulkAll]
 | cons x r ih=>have:=one_le_bulk x;simp only [Rows.uptoBulkAll,List.length_cons];omega
theorem weightsEach_mem {ts:List TypeId} {ds:List (DataW H)} {i:Nat} {t:TypeId} {d:DataW H} (ht:ts[i]? = some t) (hd:ds[i]? = some d):∀ k∈d.weights P t,k∈DataW.weightsEach P ts ds:=by
 intro k hk
 induction ts generalizing ds i with
 | nil=>simp at ht
 | cons t0 ts ih =>
  cases ds with
  | nil=>simp at hd
  | cons d0 ds =>
   simp only [DataW.weightsEach,List.mem_append]
   cases i with
   | zero=>simp at ht hd;subst ht;subst hd;exact Or.inl hk
   | succ i=>exact Or.inr (ih (by simpa using ht) (by simpa using hd))
theorem weightsAll_mem {e:TypeId} {ds:List (DataW H)} {d:DataW H} (hd:d∈ds):∀ k∈d.weights P e,k∈DataW.weightsAll P e ds:=by
 intro k hk
 induction ds with
 | nil=>cases hd
 | cons d0 ds ih =>
  simp only [DataW.weightsAll,List.mem_append]
  cases List.mem_cons.1 hd with
  | inl e=>subst e;exact Or.inl hk
  | inr e=>exact Or.inr (ih e)
theorem LeafAt.mono {b b' : Nat} {ws ws' : List Nat} {u:TypeId} {c:Value} (h:LeafAt enc P w base spare held b ws u c) (hb:b≤b') (hw:∀ k∈ws,k∈ws'):LeafAt enc P w base spare held b' ws' u c:=by
 obtain ⟨m,y,h1,h2,h3⟩:=h
 exact ⟨m,y,h1,by omega,fun k hk=>hw k (h3 k hk)⟩
theorem leavesFields_at {L:TypeId→Option (List TypeId)}:∀ (fs:List Field) (off:Nat) (l:List TypeId),leavesFields L P fs off=some l→∀ i u,l[i]? = some u →
  ∃ (k:Nat) (f:Field) (lf:List TypeId) (j:Nat),fs[k]? = some f∧L f.type=some lf∧lf.length=P.cellsOf f.type∧lf[j]? = some u∧off+i=f.offset+j:=by
 intro fs
 induction fs with
 | nil=>intro off l h i u hi;simp [leavesFields] at h;subst h;simp at hi
 | cons f r ih =>
  intro off l h i u hi
  simp only [leavesFields] at h
  split at h
  ·rename_i ho
   obtain ⟨lf,hlf,h⟩:=Option.bind_eq_some_iff.1 h
   split at h
   ·rename_i hlen
    obtain ⟨l',hl',rfl⟩:=Option.map_eq_some_iff.1 h
    by_cases hlt:i<lf.length
    ·rw [List.getElem?_append_left hlt] at hi
     exact ⟨0,f,lf,i,rfl,hlf,hlen,hi,by omega⟩
    ·rw [List.getElem?_append_right (by omega)] at hi
     obtain ⟨k,f',lf',j,h1,h2,h3,h4,h5⟩:=ih _ _ hl' _ _ hi
     exact ⟨k+1,f',lf',j,by simpa using h1,h2,h3,h4,by omega⟩
   ·cases h
  ·cases h
theorem flatten_rep_at {α:Type}:∀ (k:Nat) (l:List α) (i:Nat) (u:α),(List.replicate k l).flatten[i]? = some u→∃ a j,a<k∧l[j]? = some u∧i=a * l.length+j:=by
 intro k
 induction k with
 | zero=>intro l i u h;simp at h
 | succ k ih =>
  intro l i u h
  rw [List.replicate_succ,List.flatten_cons] at h
  by_cases hlt:i<l.length
  ·rw [List.getElem?_append_left hlt] at h
   exact ⟨0,i,by omega,h,by omega⟩
  ·rw [List.getElem?_append_right (by omega)] at h
   obtain ⟨a,j,h1,h2,h3⟩:=ih l _ u h
   refine ⟨a+1,j,by omega,h2,?_⟩
   rw [Nat.add_mul];omega
theorem leaf_of:∀ (n:Nat) (t:TypeId) (L:List TypeId),leavesIn P n t=some L→∀ (fuel:Nat) (cs:List Value) (x:DataW H×List MemPlace),DataW.trod enc P w base spare held fuel t cs=some x →
  ∀ (i:Nat) (u:TypeId) (c:Value),L[i]? = some u→cs[i]? = some c→LeafAt enc P w base spare held (Rows.uptoBulk x.1) (x.1.weights P t) u c:=by
 intro n
 induction n with
 | zero=>intro t L h;simp [leavesIn] at h
 | succ n ih =>
  intro t L hL fuel cs x hx i u c hi hc
  cases hu:P.underlying t with
  | none=>simp [leavesIn,hu] at hL
  | some d =>
   by_cases hs:∃ fs,d = .struct fs
   ·obtain ⟨fs,rfl⟩:=hs
    simp only [leavesIn,hu] at hL
    obtain ⟨k,f,lf,j,h1,h2,h3,h4,h5⟩:=leavesFields_at _ _ _ hL i u hi
    obtain ⟨xs,n',_,rfl,hlen,hxl,hg⟩:=DataW.trod_struct hu hx
    have h1' : fs[k]? = some f:=by simpa using h1
    have hk:=hg k f h1'
    have hkl:k<xs.length:=by rw [hxl];exact (Array.getElem?_eq_some_iff.1 h1').1
    rw [List.getElem?_eq_getElem hkl] at hk
    have hj:j<lf.length:=(List.getElem?_eq_some_iff.1 h4).1
    have hcj:((cs.drop f.offset).take (P.cellsOf f.type))[j]? = some c:=by
     rw [List.getElem?_take,if_pos (by omega),List.getElem?_drop,← h5,Nat.zero_add];exact hc
    have:=ih f.type lf h2 n' _ _ hk j u c h4 hcj
    have hm:xs[k].1∈xs.map (·.1):=List.mem_map.2 ⟨xs[k],List.getElem_mem hkl,rfl⟩
    refine this.mono ?_ ?_
    ·have:=bulk_mem hm
     simp only [Rows.uptoBulk];omega
    ·intro q hq
     simp only [DataW.weights,hu]
     exact weightsEach_mem (i:=k) (t:=f.type) (d:=xs[k].1) (by rw [List.getElem?_map];rw [h1];rfl) (by rw [List.getElem?_map,List.getElem?_eq_getElem hkl];rfl) q hq
   ·by_cases ha:∃ k e,d = .array k e
    ·obtain ⟨k,e,rfl⟩:=ha
     simp only [leavesIn,hu] at hL
     obtain ⟨l,hl,hL⟩:=Option.bind_eq_some_iff.1 hL
     split at hL
     ·rename_i hlen
      cases hL
      obtain ⟨a,j,h1,h2,h3⟩:=flatten_rep_at _ _ _ _ hi
      obtain ⟨xs,n',_,rfl,_,hxl,hg⟩:=DataW.trod_array hu hx
      have hk:=hg a h1
      have hkl:a<xs.length:=by omega
      rw [List.getElem?_eq_getElem hkl] at hk
      have hj:j<l.length:=(List.getElem?_eq_some_iff.1 h2).1
      have hcj:((cs.drop (a * P.cellsOf e)).take (P.cellsOf e))[j]? = some c:=by
       rw [List.getElem?_take,if_pos (by omega),List.getElem?_drop,← hlen,← h3];exact hc
      have:=ih e l hl n' _ _ hk j u c h2 hcj
      have hm:xs[a].1∈xs.map (·.1):=List.mem_map.2 ⟨xs[a],List.getElem_mem hkl,rfl⟩
      refine this.mono ?_ ?_
      ·have:=bulk_mem hm
       simp only [Rows.uptoBulk];omega
      ·intro q hq
       simp only [DataW.weights,hu]
       exact weightsAll_mem hm q hq
     ·cases hL
    ·have hL' : L=[t]:=by
      simp only [leavesIn,hu] at hL
      cases d <;> first | exact absurd ⟨_,rfl⟩ hs | exact absurd ⟨_,_,rfl⟩ ha | (simpa using hL.symm)
     subst hL'
     obtain ⟨c',rfl⟩:=trod_one hu (fun fs e=>hs ⟨fs,e⟩) (fun k e e'=>ha ⟨k,e,e'⟩) hx
     have hi0:i=0:=by have:=(List.getElem?_eq_some_iff.1 hi).1;simpa using this
     subst hi0
     simp at hi hc
     subst hi;subst hc
     exact ⟨fuel,x,hx,Nat.le_refl _,fun _ h=>h⟩
theorem LeafAt.int {b:Nat} {ws:List Nat} {u:TypeId} {c:Value} {k:IntKind} (hu:P.underlying u=some (.int k)) (h:LeafAt enc P w base spare held b ws u c):∃ n,c = .int k n∧(Lit.int k n).wf=true:=by
 obtain ⟨m,y,h1,_⟩:=h
 obtain ⟨n,hc,_,hw⟩:=DataW.trod_int hu h1
 exact ⟨n,by simpa using hc,hw⟩
theorem LeafAt.bool {b:Nat} {ws:List Nat} {u:TypeId} {c:Value} (hu:P.underlying u=some .bool) (h:LeafAt enc P w base spare held b ws u c):∃ n,c = .bool n:=by
 obtain ⟨m,y,h1,_⟩:=h
 obtain ⟨n,hc,_⟩:=DataW.trod_bool hu h1
 exact ⟨n,by simpa using hc⟩
theorem choose_list {α:Type} {R:Nat→α→Prop}:∀ n,(∀ i,i<n→∃ x,R i x)→∃ xs:List α,xs.length=n∧∀ i x,xs[i]? = some x→R i x:=by
 intro n
 induction n with
 | zero=>intro _;exact ⟨[],rfl,fun i x h=>by simp at h⟩
 | succ n ih =>
  intro h
  obtain ⟨xs,hl,hx⟩:=ih (fun i hi=>h i (by omega))
  obtain ⟨y,hy⟩:=h n (by omega)
  refine ⟨xs++[y],by simp [hl],fun i x hi=>?_⟩
  by_cases hlt:i<xs.length
  ·rw [List.getElem?_append_left hlt] at hi
   exact hx i x hi
  ·rw [List.getElem?_append_right (by omega)] at hi
   have h0:i - xs.length=0:=by have:=(List.getElem?_eq_some_iff.1 hi).1;simp at this;omega
   rw [h0] at hi
   simp at hi
   subst hi
   have:i=n:=by omega
   subst this
   exact hy
theorem LeafAt.slice {α:Type} {b:Nat} {ws:List Nat} {u e:TypeId} {c:Value} (hu:P.underlying u=some (.slice e)) {s:Nat} (hpos:0<s) (hc:P.cellsOf e=s) (encA:α→List Value) (Q:α→Prop)
  (helem:∀ (m:Nat) (cs:List Value) (y:DataW H×List MemPlace),cs.length=s→DataW.trod enc P w base spare held m e cs=some y→∃ x:α,cs=encA x∧Q x)
  (h:LeafAt enc P w base spare held b ws u c):∃ xs:List α,Arr w encA s c xs∧(∀ x∈xs,Q x)∧xs.length+1≤b∧(xs=[]∨∃ k∈ws,xs.length * P.bytesOf e≤k):=by
 obtain ⟨m,y,h1,hb,hw⟩:=h
 rcases DataW.trod_slice hu h1 with ⟨hcs,rfl⟩ | ⟨a,len,cap,elems,rest,n,_,hcs,rfl,hba,hl,hm,hlen,hel,hsp,hns⟩
 ·simp only [List.cons.injEq,and_true] at hcs
  subst hcs
  refine ⟨[],Arr.nil _ _ _,by simp,?_,Or.inl rfl⟩
  simp only [Rows.uptoBulk] at hb
  simpa using hb
 ·simp only [List.cons.injEq,and_true] at hcs
  subst hcs
  have each:∀ i,i<len→∃ x:α,(∃ cs,w.cells? base (a.add (i * s)) s=some cs∧cs=encA x)∧Q x:=by
   intro i hi
   have h2:=hel i hi
   rw [List.getElem?_eq_getElem (by omega),hc] at h2
   obtain ⟨cs,h3,h4⟩:=Option.bind_eq_some_iff.1 h2
   obtain ⟨x,h5,h6⟩:=helem n cs _ (World.cells?_some h3).2.1 h4
   exact ⟨x,⟨cs,h3,h5⟩,h6⟩
  obtain ⟨xs,hxl,hx⟩:=choose_list len each
  refine ⟨xs,?_,?_,?_,?_⟩
  ·refine ⟨some a,cap,by rw [hxl],by omega,hm,?_⟩
   by_cases h0:xs=[]
   ·exact Or.inl h0
   ·right
    by_cases hspot:a.spot=none
    ·obtain ⟨ab,ao,sp⟩:=a
     simp only at hspot
     subst hspot
     refine ⟨ab,ao,rfl,fun k x hk j u hj=>?_⟩
     obtain ⟨⟨cs,h3,rfl⟩,_⟩:=hx k x hk
     obtain ⟨_,hlc,hcell⟩:=World.cells?_some h3
     have hjs:j<s:=by rw [← hlc];exact (List.getElem?_eq_some_iff.1 hj).1
     have h4:=hcell j hjs
     rw [hj] at h4
     rw [← h4]
     congr 1
     unfold Addr.add
     split <;> split <;> simp_all
    ·exfalso
     obtain ⟨x0,hx0⟩:∃ x0,xs[0]? = some x0:=by cases xs with | nil=>exact absurd rfl h0 | cons y _=>exact ⟨y,rfl⟩
     obtain ⟨⟨cs,h3,_⟩,_⟩:=hx 0 x0 hx0
     obtain ⟨_,hlc,hcell⟩:=World.cells?_some h3
     have h4:=hcell 0 hpos
     rw [Nat.zero_mul] at h4
     have e:(a.add 0).add 0=a:=by simp [Addr.add]
     rw [e,List.getElem?_eq_getElem (by omega)] at h4
     unfold World.cell? at h4
     split at h4
     ·cases hs:a.spot with
      | none=>exact hspot hs
      | some q=>rw [hs] at h4;simp at h4
     ·cases h4
  ·intro x hx'
   obtain ⟨i,hi⟩:=List.getElem?_of_mem hx'
   exact (hx i x hi).2
  ·have h2:=length_le_bulk (elems.map (·.1))
   simp only [Rows.uptoBulk,List.length_map] at hb h2
   omega
  ·right
   refine ⟨_,hw (((elems.map (·.1)).length+(rest.map (·.1)).length) * P.bytesOf e) ?_,?_⟩
   ·simp only [DataW.weights,hu]
    exact List.mem_cons_self
   ·rw [hxl,List.length_map,hlen]
    exact Nat.mul_le_mul_right _ (by omega)
end
end Go.Proofs.Ytcloeignccpljaa
namespace Go.Proofs.Ytcloeignccpljaa.Z
open Go Go.RowKit
attribute [go_sem] ex_nil ex_skip ex_ops ex_draw ex_seq ex_cond ex_blk ex_loop ex_exit ex_ret ex_mark ex_kill ex_pop ex_onil ex_op ex_opg thenS stepOut St.ev look setL mergeL dropL memB atN pkN setN Fm.get Fm.pk Fm.set St.app St.putT St.skipT St.setB St.kill St.call St.setA St.resS specS specO specC chain chainP inCh resV rsvP resT slot1 slotL pureSlots St.evW resA1 resAP resA gB specD specDO recG pure1 pureO SV.cells SC.one allOne fillP put take' drop' len' nth binI eqCells SC.bool? SC.nil? neg? evs evC popTo resL resP resSV oneSV finS retS dr_nil thenD recOf skipR wrOk wrFree wkImp St.weak thenW recW fimp_mpe newOk outOk St.appN St.hid St.only keepK useO idX idC tchs keyss Rec.tch keysL ltAll enumT slSrc slB slM SV.int? segs keyOf intsOf Value.oneCell' and_self and_true true_and and_false false_and not_true_eq_false not_false_eq_true List.map_cons List.map_nil List.cons_append List.nil_append List.append_nil Option.bind_some Option.bind_none Bool.true_and Bool.and_true Bool.false_and Bool.and_false Bool.not_true Bool.not_false Bool.not_not Bool.true_beq Bool.false_beq Bool.bne_true Bool.bne_false Bool.true_bne Bool.false_bne Option.map_some Option.map_none beq_self_eq_true bne_self_eq_false Bool.false_eq_true Bool.true_eq_false Nat.zero_add Nat.add_zero forall_const implies_true true_implies false_implies Int.cast_ofNat_Int Int.natCast_nonneg Int.ofNat_lt Int.toNat_natCast mkC_rs decide_true decide_false List.length_cons List.length_nil Prod.mk.injEq Option.some.injEq arrOf_len arrOf_size arrOf_at wr_lit wr_litu Nat.sub_zero ex_back mkI_rs
attribute [go_sem ↓] condS exitS gateS runOp gateD altC runD imp_ft imp_tf imp_tt imp_ff imp_fn imp_tn imp_fy imp_ty
end Go.Proofs.Ytcloeignccpljaa.Z
namespace Go.Proofs.Ytcloeignccpljaa.Z
open Go Go.RowKit
section
variable {P:Program} {T:TT} {B:Nat} {W:Nat→Prop} {w0:World} {E:Env} {S:St} {a:Act} {w w1:World}
theorem fits_put {b b' : Blk} {y:Nm} {p:Prop} (hy:pkN S.own y=some (p,b)) (hp:p) (h0:w1.os=w.os∧w1.tape=w.tape∧w1.output=w.output) (hsz:w.heap.size≤w1.heap.size)
  (h:∀ H,HeapOk B W E S.own H w→∃ h',b'.den E y h'∧(∀ n,n<w.heap.size→H y n=none→w1.heap[n]? = w.heap[n]?)∧∀ n o,h' n=some o→w1.heap[n]? = some o∧(w.heap.size≤n∨H y n≠none)):Fits B W E S w w1 (setN S.own y b') []:=by
 refine ⟨fun H hH=>?_,fun _ _ x A h=>by simp [atN,look] at h⟩
 have hat:=pkN_at hy hp
 obtain ⟨h',hb,hk,hs⟩:=h H hH
 have hother:∀ x c,x≠y→atN S.own x=some c→∀ n o,H x n=some o→w1.heap[n]? = some o∧H y n=none∧n<w.heap.size:=by
  intro x c hne hx n o hn
  have h1:=(hH.sub x c hx n o hn).1
  have hlt:=hH.lt hx hn
  have hyn:H y n=none:=by
   rcases hH.disj y x b c hat hx (Ne.symm hne) n with h | h
   ·exact h
   ·rw [h] at hn;cases hn
  exact ⟨by rw [hk n hlt hyn];exact h1,hyn,hlt⟩
 have hget:∀ x c,atN (setN S.own y b') x=some c→(x=y∧c=b')∨(x≠y∧x.1=y.1∧atN S.own x=some c):=by
  intro x c hc
  rw [atN_setN hy hp] at hc
  split at hc
  ·next e1 =>
   split at hc
   ·next e2=>cases hc;exact Or.inl ⟨e2,rfl⟩
   ·next e2=>exact Or.inr ⟨e2,e1,hc⟩
  ·cases hc
 have key:∀ z d,z≠y→atN S.own z=some d→∀ n,h' n=none∨H z n=none:=by
  intro z d hz hd n
  cases e1:h' n with
  | none=>exact Or.inl rfl
  | some o =>
   right
   cases e2:H z n with
   | none=>rfl
   | some o' =>
    obtain ⟨_,h3,h4⟩:=hother z d hz hd n o' e2
    rcases (hs n o e1).2 with h5 | h5
    ·omega
    ·exact absurd h3 h5
 refine ⟨h0.1,h0.2.1,h0.2.2,hsz,fun n hn h=>hk n hn (h y b ((setN_look hy b' y.1).2 rfl) hat),fun x=>if x=y then h' else H x,?_,?_,?_⟩
 ·intro x c hc
  rcases hget x c hc with ⟨rfl,rfl⟩ | ⟨e1,e2,h⟩
  ·simpa using hb
  ·simp only [e1,if_false];exact hH.den x c h
 ·intro x z c d hc hd hne n
  rcases hget x c hc with ⟨rfl,rfl⟩ | ⟨e1,e2,h⟩
  ·rcases hget z d hd with ⟨rfl,rfl⟩ | ⟨f1,f2,h2⟩
   ·exact absurd rfl hne
   ·simp only [f1,if_true,if_false];exact key z d f1 h2 n
  ·rcases hget z d hd with ⟨rfl,rfl⟩ | ⟨f1,f2,h2⟩
   ·simp only [e1,if_true,if_false];exact (key x c e1 ‹_› n).symm
   ·simp only [e1,f1,if_false];exact hH.disj x z c d h h2 hne n
 ·intro x c hc n o hn
  rcases hget x c hc with ⟨rfl,rfl⟩ | ⟨e1,e2,h⟩
  ·simp only [if_true] at hn
   obtain ⟨g1,g2⟩:=hs n o hn
   exact ⟨g1,g2.imp id fun h=>⟨x,b,(setN_look hy c x.1).2 rfl,hat,h⟩⟩
  ·simp only [e1,if_false] at hn
   obtain ⟨g1,g2,g3⟩:=hother x c e1 h n o hn
   exact ⟨g1,Or.inr ⟨x,c,(setN_look hy b' x.1).2 e2,h,by rw [hn];simp⟩⟩
end
section
variable {C:Ctx} {S:St}
end
end Go.Proofs.Ytcloeignccpljaa.Z
namespace Go.Proofs.Ytcloeignccpljaa.Z
open Go Go.RowKit
theorem le_nilcell {C:Ctx} {nt:Nat} {tmps:List (Nat×SV)} {own:Own} {arrs:List (Nat×Fm ArrF)} {facts:List (Env→World→Prop)} {nid:Nat} (j s ty ty' : Nat) (cs cs' : List SC) (at_:Nat→List SC)
  (hj:look own j=some (.one (.bk cs ty'))) (hn:look own nid=none) (hc:∀ E:Env,E.ν (nid,0,0)=true→E.κ (nid,0,0)=0→cs'.map (SC.den E)=cs.map (SC.den E)) :
  Le C ⟨nt,tmps,own,arrs,facts,nid⟩ ⟨nt,tmps,(nid,.one (.ar 0 s at_ ty)) :: setL own j (.one (.bk cs' ty')),arrs,facts,nid+1⟩:=by
 intro E a w hs
 refine ⟨⟨E.ρ,fun x=>if x.1=nid then 0 else E.κ x,fun x=>if x.1=nid then true else E.ν x,E.χ⟩,fun x=>hs.1 x,fun E2 hE2 ho2=>?_⟩
 have hs2:=hs.2 E2 (fun x hx=>by
  have h:=hE2 x (Nat.lt_succ_of_lt hx)
  have hne:x.1≠nid:=by have:x.1<nid:=hx;omega
  simp only [Same,hne,if_false] at h
  exact h) ho2
 have hsz:=hE2 (nid,0,0) (Nat.lt_succ_self nid)
 have hκ:E2.κ (nid,0,0)=0:=by have h:=hsz.2.1;simpa using h
 have hν:E2.ν (nid,0,0)=true:=by have h:=hsz.2.2.1;simpa using h
 obtain ⟨H,hH,hF⟩:=hs2.mem
 have hat:∀ x b,atN own x=some b→x.1≠nid:=fun x b h e=>by
  obtain ⟨F,hF,_⟩:=atN_some h
  rw [e,hn] at hF
  cases hF
 have hatj:atN own (j,0,0)=some (.bk cs ty'):=by simp [atN,hj,Fm.get]
 have hold:∀ x b,atN (setL own j (.one (.bk cs' ty'))) x=some b→(x=(j,0,0)∧b = .bk cs' ty')∨(x.1≠j∧atN own x=some b):=by
  rintro ⟨k,p,q⟩ b hx
  simp only [atN,look_setL] at hx
  by_cases e:j=k
  ·subst e
   rw [if_pos rfl] at hx
   simp only [Fm.get] at hx
   split at hx
   ·next e=>obtain ⟨rfl,rfl⟩:=e;cases hx;exact Or.inl ⟨rfl,rfl⟩
   ·cases hx
  ·rw [if_neg e] at hx
   exact Or.inr ⟨fun e2=>e e2.symm,hx⟩
 have hwas:∀ x b,atN (setL own j (.one (.bk cs' ty'))) x=some b→∃ c,atN own x=some c:=fun x b hx=>by
  rcases hold x b hx with ⟨rfl,rfl⟩ | ⟨_,hx⟩
  ·exact ⟨_,hatj⟩
  ·exact ⟨_,hx⟩
 refine ⟨hs2.size,hs2.defers,ho2,hs2.tmps,hs2.frame,fun x=>if x.1=nid then emp else H x,⟨fun x b hb=>?_,fun x y b c hb hc hne n=>?_,fun x b hb n o hn=>?_⟩,fun w' hw'=>?_⟩
 ·rcases atN_one hb with ⟨rfl,rfl⟩ | hb
  ·exact Or.inl ⟨trivial,hκ,rfl,by simp⟩
  ·obtain ⟨c,hc'⟩:=hwas x b hb
   simp only [hat x c hc',if_false]
   rcases hold x b hb with ⟨rfl,rfl⟩ | ⟨_,hx⟩
   ·have:=hH.den _ _ hatj
    simp only [Blk.den] at this ⊢
    rw [this,hc E2 hν hκ]
   ·exact hH.den x b hx
 ·rcases atN_one hb with ⟨rfl,rfl⟩ | hb
  ·simp [emp]
  ·rcases atN_one hc with ⟨rfl,rfl⟩ | hc
   ·simp [emp]
   ·obtain ⟨b',hb'⟩:=hwas x b hb
    obtain ⟨c',hc'⟩:=hwas y c hc
    simp only [hat x b' hb',hat y c' hc',if_false]
    exact hH.disj x y b' c' hb' hc' hne n
 ·rcases atN_one hb with ⟨rfl,rfl⟩ | hb
  ·simp [emp] at hn
  ·obtain ⟨b',hb'⟩:=hwas x b hb
   simp only [hat x b' hb',if_false] at hn
   exact hH.sub x b' hb' n o hn
 ·exact hF w' fun n hn hfr=>hw' n hn fun x b hb=>by
   rcases atN_one hb with ⟨rfl,rfl⟩ | hb
   ·simp [emp]
   ·obtain ⟨b',hb'⟩:=hwas x b hb
    simp only [hat x b' hb',if_false]
    exact hfr x b' hb'
theorem own_bk {p:Nat→Prop} {τ:Nat→Nat} {own r:Own} {i ty:Nat} {cs ds:List SC} (hp:p i) (h:look own (τ i)=some (.one (.bk ds ty))) (hr:ds=SC.renL (idσ τ) cs) (hk:SC.okL p cs) (hr' : OwnLe p (idσ τ) own r):OwnLe p (idσ τ) own ((i,.one (.bk cs ty)) :: r):=by
 refine ⟨⟨hp,?_⟩,hr'⟩
 simp only [idσ,atN,h,Fm.get,and_self,if_true]
 exact ⟨hr,rfl,hk⟩
theorem own_ar {p:Nat→Prop} {τ:Nat→Nat} {own r:Own} {i ty n m k:Nat} {f g:Nat→List SC} (hp:p i) (h:look own (τ i)=some (.one (.ar m k g ty))) (hm:n≤m) (hf:∀ e,e<n→g e=SC.renL (idσ τ) (f e)∧SC.okL p (f e)) (hr' : OwnLe p (idσ τ) own r):OwnLe p (idσ τ) own ((i,.one (.ar n k f ty)) :: r):=by
 refine ⟨⟨hp,?_⟩,hr'⟩
 simp only [idσ,atN,h,Fm.get,and_self,if_true]
 exact ⟨hm,rfl,rfl,hf⟩
theorem ats_rn {α:Type} {enc:α→List Value} {xs:List α} {d:α} (e:Nat) (p:Nat→Prop) (σ:Nm→Nm):ats enc xs d e=SC.renL σ (ats enc xs d e)∧SC.okL p (ats enc xs d e):=by
 unfold ats;exact ⟨(renL_v _ _).symm,okL_v _ _⟩
theorem own_av {p:Nat→Prop} {τ:Nat→Nat} {own r:Own} {α:Type} {enc:α→List Value} {xs:List α} {d:α} {i ty n m k:Nat} {g:Nat→List SC} (hp:p i) (h:look own (τ i)=some (.one (.ar m k g ty))) (hm:n≤m) (hf:∀ e,e<n→g e=ats enc xs d e) (hr' : OwnLe p (idσ τ) own r):OwnLe p (idσ τ) own ((i,.one (.ar n k (ats enc xs d) ty)) :: r) :=
 own_ar hp h hm (fun e he=>(hf e he).symm ▸ ats_rn e _ _) hr'
end Go.Proofs.Ytcloeignccpljaa.Z
namespace Go.Proofs.Ytcloeignccpljaa.Z
open Go Go.RowKit
def PlainB:Blk→Prop
 | .no=>True
 | .bk _ _=>True
 | .ar _ _ _ _=>True
 | _=>False
def takes (E:Env) (x:Nm):Blk→Nat→Prop
 | .bk _ _,n=>n=E.ρ x
 | .ar _ _ _ _,n=>0<E.κ x∧n=E.ρ x
 | _,_=>False
theorem takes_iff {E:Env} {x:Nm} {b:Blk} {h:PH} (hp:PlainB b) (hd:b.den E x h) {n:Nat}:h n≠none↔takes E x b n:=by
 cases b with
 | no=>simp only [Blk.den] at hd;subst hd;simp [takes,emp]
 | bk cs ty=>simp only [Blk.den] at hd;subst hd;simp only [takes,sing];by_cases e:n=E.ρ x <;> simp [e]
 | ar m s at_ ty =>
  simp only [Blk.den] at hd
  rcases hd with ⟨_,h1,_,h4⟩ | ⟨_,⟨_,h1⟩,_,cells,h4,_⟩
  ·subst h4;simp [takes,emp,h1]
  ·subst h4;simp only [takes,sing,h1,true_and];by_cases e:n=E.ρ x <;> simp [e]
 | mp _ _ _=>exact hp.elim
 | mpe _ _ _ _ _=>exact hp.elim
 | wm _ _ _=>exact hp.elim
 | pr _=>exact hp.elim
def takesO (E:Env) (own:Own) (n:Nat):Prop:=∃ x b,atN own x=some b∧takes E x b n
def PlainO (own:Own):Prop:=∀ x b,atN own x=some b→PlainB b
def mkO (P:Program) (w:World) (W:Nat→Prop) (rs:List RS) (R:Ending→World→Prop):Ctx:=⟨P,mkTab P [],w.heap.size,W,w,rs,R⟩
theorem mkO_rs (P:Program) (w:World) (W:Nat→Prop) (rs:List RS) (R:Ending→World→Prop):(mkO P w W rs R).rs=rs:=rfl
def Handed (w:World) (E:Env) (n0:Nat) (own:Own) (arrs:List (Nat×Fm ArrF)):Prop :=
 OneC E∧∀ E',AgreeD (· < n0) E E'→OneC E'→InOk (mkO default w (takesO E own) [] fun _ _=>True) E' own arrs [AgF n0 E] w
theorem enterO {P:Program} {f nt:Nat} {fn:Func} {x:Code} {c:IR} {w:World} {E:Env} {n0:Nat} {own:Own} {arrs:List (Nat×Fm ArrF)} {rs:List RS} {R:Ending→World→Prop} (h:Handed w E n0 own arrs) (sc:List SV)
  (hf:P.funcs[f]? = some fn) (hb:fn.body=some x) (hc:compC (mkTab P []) x=some c.strip) (hr:compR (mkTab P []).T fn.results.toList=some rs) (hn:fn.ntmps=nt)
  (hsc:okVs (· < n0) sc) (hnt:sc.length≤nt)
  (hex:exec (mkO P w (takesO E own) rs R) 1000 [.code c] ⟨nt,enumT 0 sc,own,arrs,[AgF n0 E],n0⟩):Calls P f (sc.map (SV.den E)).toArray w R:=by
 have hone:=h.1
 subst hn
 refine calls_of_exec (C:=mkO P w (takesO E own) rs R) (E:=E) 1000 (mkTab_ok _ _) hf hb hc hr ⟨hone,fun E' hE' ho'=>?_⟩ hex
 obtain ⟨H,h1,h2,h3,h4⟩:=h.2 E' hE' ho'
 have hvv:sc.map (SV.den E')=sc.map (SV.den E):=dens_same (p:=(· < n0)) (fun x hx=>hE' x hx) hsc
 refine ⟨by simp;omega,rfl,ho',fun t v ht=>?_,⟨rfl,rfl,rfl,Nat.le_refl _,fun _ _ _=>rfl⟩,H,⟨h1,h2,fun x b hb n o hn=>⟨(h3 x b hb n o hn).1,Or.inr (h3 x b hb n o hn).2⟩⟩,h4⟩
 obtain ⟨j,rfl,hj⟩:=look_enumT sc 0 t v ht
 have hjl:j<sc.length:=(List.getElem?_eq_some_iff.1 hj).1
 refine ⟨by simp only;omega,?_⟩
 simp only [← hvv,Nat.zero_add,Array.getD_eq_getD_getElem?]
 rw [Array.getElem?_append_left (by simpa using hjl)]
 simp [hj]
def EffR (w:World) (E:Env) (n0:Nat) (W:Nat→Prop) (u:SV) (nx:Nat) (eff:Nat→Own) (e:Ending) (w' : World):Prop :=
 ∃ v,e = .returned v∧Frame0 w.heap.size W w w'∧∀ b,n0≤b→∃ N:Env,OneC N∧∀ E2,AgreeD (· < n0) E E2→AgreeD (NewIds b nx) N E2→v=u.den E2 ∧
  ∃ H:Nm→PH,(∀ x c,atN (eff b) x=some c→c.den E2 x (H x))∧(∀ x y c d,atN (eff b) x=some c→atN (eff b) y=some d→x≠y→∀ n,H x n=none∨H y n=none) ∧
   ∀ x c,atN (eff b) x=some c→∀ n o,H x n=some o→w'.heap[n]? = some o∧(w.heap.size≤n∨W n)
def killO (ks:List Nat):Own:=ks.map fun i=>(i,.one .no)
theorem look_app {α:Type}:∀ (l r:List (Nat×α)) (t:Nat),look (l++r) t=match look l t with | some v=>some v | none=>look r t
 | [],r,t=>rfl
 | (k,v) :: l,r,t=>by
  simp only [List.cons_append,look_cons]
  split
  ·rfl
  ·exact look_app l r t
theorem look_kill:∀ (ks:List Nat) (t:Nat),look (killO ks) t=if t∈ks then some (.one .no) else none
 | [],t=>rfl
 | k :: ks,t=>by
  simp only [killO,List.map_cons,look_cons,List.mem_cons]
  by_cases e:k=t
  ·subst e;simp
  ·have:=look_kill ks t
   simp only [killO] at this
   rw [if_neg e,this]
   by_cases h:t∈ks
   ·simp [h]
   ·have e' : ¬ t=k:=fun q=>e q.symm
    simp [h,e']
theorem atN_kill {ks:List Nat} {own:Own} {x:Nm} {c:Blk} (h:atN (killO ks++own) x=some c):(x.1∈ks∧c = .no)∨(x.1 ∉ ks∧atN own x=some c):=by
 obtain ⟨a,k⟩:=x
 simp only [atN,look_app,look_kill] at h ⊢
 by_cases e:a∈ks
 ·left
  simp only [e,if_true] at h
  simp only [Fm.get] at h
  split at h
  ·cases h;exact ⟨e,rfl⟩
  ·cases h
 ·right
  simp only [e,if_false] at h
  exact ⟨e,h⟩
theorem retEff {P:Program} {w:World} {E:Env} {n0:Nat} {W:Nat→Prop} {rs:List RS} {u v:SV} {nx:Nat} {S2:St} (σ:Nat→Nm→Nm) (ks:List Nat) (eff1:Nat→Own)
  (hf:AgF n0 E∈S2.facts) (hu:∀ E E',v.den E=u.den E') (hσ0:∀ b,n0≤b→∀ x:Nm,x.1<n0→σ b x=x)
  (ho:∀ b,n0≤b→OwnLe (fun i=>i<n0∨NewIds b nx i) (σ b) S2.own (eff1 b)) (hi:∀ b,n0≤b→InjN (σ b) (eff1 b)):RetVC (mkO P w W rs (EffR w E n0 W u nx fun b=>killO ks++eff1 b)) v S2:=by
 intro E1 a w' hs
 have hs:=hs.sat
 obtain ⟨H,hH,hF⟩:=hs.mem
 have hag:AgreeD (· < n0) E E1:=(hF w' fun _ _ _=>rfl).2 (AgF n0 E) hf
 refine ⟨_,rfl,hs.frame,fun b hb=>⟨E1.via (σ b),fun x=>hs.one _,fun E2 hE2 hN2=>⟨hu _ _,?_⟩⟩⟩
 have hR:∀ x:Nm,(x.1<n0∨NewIds b nx x.1)→SameR (σ b) E1 E2 x:=fun x hx=>by
  rcases hx with hx | hx
  ·have h1:=hag x hx
   have h2:=hE2 x hx
   unfold SameR
   rw [hσ0 b hb x hx]
   exact ⟨h2.1.trans h1.1.symm,h2.2.1.trans h1.2.1.symm,h2.2.2.1.trans h1.2.2.1.symm,h2.2.2.2.trans h1.2.2.2.symm⟩
  ·exact hN2 x hx
 have hat:∀ x c,atN (eff1 b) x=some c→(x.1<n0∨NewIds b nx x.1)∧∃ d,atN S2.own (σ b x)=some d∧BlkLe (fun i=>i<n0∨NewIds b nx i) (σ b) d c:=fun x c hx=>ownLe_at (ho b hb) hx
 refine ⟨fun x=>if x.1∈ks then emp else H (σ b x),fun x c hx=>?_,fun x y c d hx hy hne n=>?_,fun x c hx n o hn=>?_⟩
 ·rcases atN_kill hx with ⟨h1,rfl⟩ | ⟨h1,hx⟩
  ·simp only [h1,if_true];rfl
  ·simp only [h1,if_false]
   obtain ⟨h1,d,h2,h3⟩:=hat x c hx
   exact blk_le hR h1 h3 (hH.den _ _ h2)
 ·rcases atN_kill hx with ⟨h1,rfl⟩ | ⟨h1,hx⟩
  ·simp [h1,emp]
  ·rcases atN_kill hy with ⟨h2,rfl⟩ | ⟨h2,hy⟩
   ·simp [h2,emp]
   ·simp only [h1,h2,if_false]
    obtain ⟨_,d1,g2,_⟩:=hat x c hx
    obtain ⟨_,d2,k2,_⟩:=hat y d hy
    exact hH.disj _ _ d1 d2 g2 k2 (fun e=>hne (hi b hb x y c d hx hy e)) n
 ·rcases atN_kill hx with ⟨h1,rfl⟩ | ⟨h1,hx⟩
  ·simp [h1,emp] at hn
  ·simp only [h1,if_false] at hn
   obtain ⟨_,d1,g2,_⟩:=hat x c hx
   exact hH.sub _ d1 g2 n o hn
theorem takes_same {E E2:Env} {x:Nm} (h:Same E E2 x) {b:Blk} {n:Nat}:takes E2 x b n↔takes E x b n:=by
 cases b <;> simp [takes,h.1,h.2.1]
theorem blkLe_plain {p:Nat→Prop} {σ:Nm→Nm} {b b' : Blk} (h:BlkLe p σ b b') (hp:PlainB b'):PlainB b∧∀ E x n,takes E x b n↔takes E x b' n:=by
 cases b' <;> cases b <;> simp [BlkLe,PlainB] at * <;> simp [takes]
theorem cr_own {C:Ctx} {S:St} {f:Nat} {vs:List SV} {u:SV} {nx:Nat} {eff:Nat→Own} (n0:Nat) (own0:Own) (arrs0:List (Nat×Fm ArrF)) (hn0:n0≤S.nid) (hp:PlainO own0)
  (hown:OwnLe (· < n0) (idσ id) S.own own0) (harr:ArrsLe (· < n0) (idσ id) S.arrs arrs0) (hk:∀ x b,atN own0 x=some b→(look (eff S.nid) x.1).isSome=true)
  (hc:∀ E w,Handed w E n0 own0 arrs0→Calls C.P f (vs.map (SV.den E)).toArray w (EffR w E n0 (takesO E own0) u nx eff)):CR C f vs S (List.range n0) u nx (eff S.nid) []:=by
 intro E a w hs
 obtain ⟨H,hH,hF⟩:=hs.mem
 have hat:∀ x c,atN own0 x=some c→x.1<n0∧∃ d,atN S.own x=some d∧BlkLe (· < n0) (idσ id) d c:=fun x c hx=>ownLe_at hown hx
 have hand:Handed w E n0 own0 arrs0:=by
  refine ⟨hs.one,fun E' hE' ho'=>⟨H,fun x c hx=>?_,fun x y c d hx hy hne n=>?_,fun x c hx n o hn=>?_,fun w' hw'=>⟨fun x A hA=>?_,fun φ hφ=>?_⟩⟩⟩
  ·obtain ⟨h1,d,h2,h3⟩:=hat x c hx
   exact blk_le (σ:=idσ id) (fun y hy=>hE' y hy) h1 h3 (hH.den _ _ h2)
  ·obtain ⟨_,d1,g1,_⟩:=hat x c hx
   obtain ⟨_,d2,g2,_⟩:=hat y d hy
   exact hH.disj x y d1 d2 g1 g2 hne n
  ·obtain ⟨_,d1,g1,g3⟩:=hat x c hx
   refine ⟨(hH.sub x d1 g1 n o hn).1,x,c,hx,?_⟩
   obtain ⟨k1,k2⟩:=blkLe_plain g3 (hp x c hx)
   exact (k2 E x n).1 ((takes_iff k1 (hH.den x d1 g1)).1 (by rw [hn];simp))
  ·obtain ⟨h1,A0,h2,h3,h4,h5,h6⟩:=arrsLe_at harr hA
   have hold:=hF w' fun n hn hfr=>hw' n hn fun x c hx=>by
    obtain ⟨_,d1,g1,_⟩:=hat x c hx
    exact hfr x d1 g1
   obtain ⟨ba,cap,g1,g2,g3,g4⟩:=hold.1 x A0 h2
   have hR:∀ y:Nm,y.1<n0→SameR (idσ id) E E' y:=fun y hy=>hE' y hy
   refine ⟨ba,cap,by rw [(hR x h1).2.2.2];exact g1.trans (by rw [h3]),by omega,g3,?_⟩
   rcases g4 with g4 | ⟨b,off,rfl,gl,g4⟩
   ·exact Or.inl (by omega)
   ·refine Or.inr ⟨b,off,rfl,Nat.le_trans h6 gl,fun k hk=>?_⟩
    obtain ⟨f1,f2⟩:=g4 k (by omega)
    obtain ⟨e1,e2⟩:=h5 k hk
    rw [e1] at f1 f2
    refine ⟨by rw [renL_eq,List.length_map] at f1;omega,fun j q hq=>?_⟩
    have:=f2 j _ (mem_renL hq)
    rw [den_ren hR q (okL_mem e2 hq),← h4]
    exact this
  ·simp only [List.mem_singleton] at hφ
   subst hφ
   exact hE'
 refine (hc E w hand).mono ?_
 rintro e w' ⟨v,rfl,hfr,hN⟩
 obtain ⟨N,hN1,hN2⟩:=hN S.nid hn0
 refine ⟨v,rfl,N,hN1,fun E2 hs2 hks hag=>?_⟩
 have hE2:AgreeD (· < n0) E E2:=fun x hx=>hks x (List.mem_range.2 hx)
 obtain ⟨h1,H',h2,h3,h4⟩:=hN2 E2 hE2 hag
 refine ⟨h1,Fits.G ⟨fun H2 hH2=>?_,fun _ _ x A hA=>by simp [atN,look] at hA⟩⟩
 have htk:∀ x c,atN own0 x=some c→∃ d,atN S.own x=some d∧∀ n,H2 x n≠none↔takes E x c n:=fun x c hx=>by
  obtain ⟨k0,d,g1,g3⟩:=hat x c hx
  obtain ⟨k1,k2⟩:=blkLe_plain g3 (hp x c hx)
  refine ⟨d,g1,fun n=>?_⟩
  rw [takes_iff k1 (hH2.den x d g1),k2 E2 x n,takes_same (hE2 x k0)]
 refine ⟨hfr.os,hfr.tape,hfr.output,hfr.size,fun n hn hfree=>hfr.keep n hn ?_,H',h2,h3,fun x c hx n o hn=>⟨(h4 x c hx n o hn).1,(h4 x c hx n o hn).2.imp id ?_⟩⟩
 ·rintro ⟨x,c,hx,ht⟩
  obtain ⟨d,g1,g2⟩:=htk x c hx
  exact (g2 n).2 ht (hfree x d (hk x c hx) g1)
 ·rintro ⟨y,c,hy,ht⟩
  obtain ⟨d,g1,g2⟩:=htk y c hy
  exact ⟨y,d,hk y c hy,g1,(g2 n).2 ht⟩
def PlainL:Own→Prop
 | []=>True
 | (_,.one b) :: r=>PlainB b∧PlainL r
 | (_,.fam _ f) :: r=>(∀ k,PlainB (f k))∧PlainL r
 | (_,.fam2 _ _ f) :: r=>(∀ k e,PlainB (f k e))∧PlainL r
theorem plain_of:∀ {own:Own},PlainL own→PlainO own
 | [],_,x,b,hx=>(atN_nil hx).elim
 | (i,F) :: r,h,(a,k,e),b,hx=>by
  simp only [atN,look_cons] at hx
  by_cases q:i=a
  ·rw [if_pos q] at hx
   cases F with
   | one c =>
    simp only [Fm.get] at hx
    split at hx
    ·cases hx;exact h.1
    ·cases hx
   | fam n f =>
    simp only [Fm.get] at hx
    split at hx
    ·cases hx;exact h.1 _
    ·cases hx
   | fam2 n m f =>
    simp only [Fm.get] at hx
    split at hx
    ·cases hx;exact h.1 _ _
    ·cases hx
  ·rw [if_neg q] at hx
   have hr:PlainL r:=by cases F <;> exact h.2
   exact plain_of hr (a,k,e) b hx
end Go.Proofs.Ytcloeignccpljaa.Z
namespace Go.Proofs.Ytcloeignccpljaa.Z
open Go Go.RowKit
theorem cr_ownS {C:Ctx} {S:St} {f:Nat} {vs:List SV} {u:SV} {nx:Nat} {eff:Nat→Own} (n0:Nat) (own0:Own) (arrs0:List (Nat×Fm ArrF)) (hn0:n0≤S.nid) (hp:PlainO own0)
  (hown:OwnLe (· < n0) (idσ id) S.own own0) (harr:ArrsLe (· < n0) (idσ id) S.arrs arrs0) (hk:∀ x b,atN own0 x=some b→(look (eff S.nid) x.1).isSome=true)
  (hc:∀ E a w,Sat C.B C.W C.w0 E S a w→Handed w E n0 own0 arrs0→Calls C.P f (vs.map (SV.den E)).toArray w (EffR w E n0 (takesO E own0) u nx eff)):CR C f vs S (List.range n0) u nx (eff S.nid) []:=by
 intro E a w hs
 obtain ⟨H,hH,hF⟩:=hs.mem
 have hat:∀ x c,atN own0 x=some c→x.1<n0∧∃ d,atN S.own x=some d∧BlkLe (· < n0) (idσ id) d c:=fun x c hx=>ownLe_at hown hx
 have hand:Handed w E n0 own0 arrs0:=by
  refine ⟨hs.one,fun E' hE' ho'=>⟨H,fun x c hx=>?_,fun x y c d hx hy hne n=>?_,fun x c hx n o hn=>?_,fun w' hw'=>⟨fun x A hA=>?_,fun φ hφ=>?_⟩⟩⟩
  ·obtain ⟨h1,d,h2,h3⟩:=hat x c hx
   exact blk_le (σ:=idσ id) (fun y hy=>hE' y hy) h1 h3 (hH.den _ _ h2)
  ·obtain ⟨_,d1,g1,_⟩:=hat x c hx
   obtain ⟨_,d2,g2,_⟩:=hat y d hy
   exact hH.disj x y d1 d2 g1 g2 hne n
  ·obtain ⟨_,d1,g1,g3⟩:=hat x c hx
   refine ⟨(hH.sub x d1 g1 n o hn).1,x,c,hx,?_⟩
   obtain ⟨k1,k2⟩:=blkLe_plain g3 (hp x c hx)
   exact (k2 E x n).1 ((takes_iff k1 (hH.den x d1 g1)).1 (by rw [hn];simp))
  ·obtain ⟨h1,A0,h2,h3,h4,h5,h6⟩:=arrsLe_at harr hA
   have hold:=hF w' fun n hn hfr=>hw' n hn fun x c hx=>by
    obtain ⟨_,d1,g1,_⟩:=hat x c hx
    exact hfr x d1 g1
   obtain ⟨ba,cap,g1,g2,g3,g4⟩:=hold.1 x A0 h2
   have hR:∀ y:Nm,y.1<n0→SameR (idσ id) E E' y:=fun y hy=>hE' y hy
   refine ⟨ba,cap,by rw [(hR x h1).2.2.2];exact g1.trans (by rw [h3]),by omega,g3,?_⟩
   rcases g4 with g4 | ⟨b,off,rfl,gl,g4⟩
   ·exact Or.inl (by omega)
   ·refine Or.inr ⟨b,off,rfl,Nat.le_trans h6 gl,fun k hk=>?_⟩
    obtain ⟨f1,f2⟩:=g4 k (by omega)
    obtain ⟨e1,e2⟩:=h5 k hk
    rw [e1] at f1 f2
    refine ⟨by rw [renL_eq,List.length_map] at f1;omega,fun j q hq=>?_⟩
    have:=f2 j _ (mem_renL hq)
    rw [den_ren hR q (okL_mem e2 hq),← h4]
    exact this
  ·simp only [List.mem_singleton] at hφ
   subst hφ
   exact hE'
 refine (hc E a w hs hand).mono ?_
 rintro e w' ⟨v,rfl,hfr,hN⟩
 obtain ⟨N,hN1,hN2⟩:=hN S.nid hn0
 refine ⟨v,rfl,N,hN1,fun E2 hs2 hks hag=>?_⟩
 have hE2:AgreeD (· < n0) E E2:=fun x hx=>hks x (List.mem_range.2 hx)
 obtain ⟨h1,H',h2,h3,h4⟩:=hN2 E2 hE2 hag
 refine ⟨h1,Fits.G ⟨fun H2 hH2=>?_,fun _ _ x A hA=>by simp [atN,look] at hA⟩⟩
 have htk:∀ x c,atN own0 x=some c→∃ d,atN S.own x=some d∧∀ n,H2 x n≠none↔takes E x c n:=fun x c hx=>by
  obtain ⟨k0,d,g1,g3⟩:=hat x c hx
  obtain ⟨k1,k2⟩:=blkLe_plain g3 (hp x c hx)
  refine ⟨d,g1,fun n=>?_⟩
  rw [takes_iff k1 (hH2.den x d g1),k2 E2 x n,takes_same (hE2 x k0)]
 refine ⟨hfr.os,hfr.tape,hfr.output,hfr.size,fun n hn hfree=>hfr.keep n hn ?_,H',h2,h3,fun x c hx n o hn=>⟨(h4 x c hx n o hn).1,(h4 x c hx n o hn).2.imp id ?_⟩⟩
 ·rintro ⟨x,c,hx,ht⟩
  obtain ⟨d,g1,g2⟩:=htk x c hx
  exact (g2 n).2 ht (hfree x d (hk x c hx) g1)
 ·rintro ⟨y,c,hy,ht⟩
  obtain ⟨d,g1,g2⟩:=htk y c hy
  exact ⟨y,d,hk y c hy,g1,(g2 n).2 ht⟩
end Go.Proofs.Ytcloeignccpljaa.Z
namespace Go.Proofs.Ytcloeignccpljaa.Z
open Go Go.RowKit
abbrev VEnt:=Int×SC×Nat
def VEnt.den (kd:IntKind) (E:Env) (e:VEnt):MapEntry:=⟨.int kd e.1,e.2.1.den E,e.2.2⟩
def fndV (E:Env) (n:Int):List VEnt→Nat→Option (Nat×Value)
 | [],_=>none
 | e :: r,i=>if e.1=n then some (i,e.2.1.den E) else fndV E n r (i+1)
def getV:List (Int×SC)→Int→SC
 | [],_=>.v .nilFunc
 | e :: r,n=>if e.1=n then e.2 else getV r n
def hasV:List (Int×SC)→Int→Bool
 | [],_=>false
 | e :: r,n=>if e.1=n then true else hasV r n
def MapV (x:Nm) (kd:IntKind) (G:List (Int×SC)):Env→PH→Prop:=fun E h =>
 ∃ (L:List VEnt) (clock:Nat),h=sing (E.ρ x) (.map (L.map (VEnt.den kd E)).toArray clock)∧L.map (fun e=>(e.1,e.2.1))=G
def mapFn (T:TT) (t:Nat) (kd:IntKind):Bool:=match look T t with
 | some ti=>match ti.desc with
  | .map k e=>match look T k,look T e with
   | some tk,some te=>(match tk.desc with | .int kd'=>decide (kd' = kd) | _=>false) && zEq te.zero .nilFunc
   | _,_=>false
  | _=>false
 | none=>false
variable {P:Program} {w:World}
theorem mapFn_ok {T:TT} (hT:TOk P T) {t:Nat} {kd:IntKind} (h:mapFn T t kd=true):∃ kt et,P.underlying t=some (.map kt et)∧P.underlying kt=some (.int kd)∧∀ w:World,(zeroValue et).run P w = .ok .nilFunc w:=by
 unfold mapFn at h
 split at h
 ·next ti hti =>
  split at h
  ·next k e hd =>
   split at h
   ·next tk te htk hte =>
    simp only [Bool.and_eq_true] at h
    obtain ⟨h1,h2⟩:=h
    obtain ⟨hu,_⟩:=ti_parts hT hti
    obtain ⟨huk,_⟩:=ti_parts hT htk
    obtain ⟨_,ie,hie,hze,_⟩:=ti_parts hT hte
    refine ⟨k,e,by rw [hu,hd],?_,fun w=>by rw [run_zeroValue hie hze,zEq_eq h2]⟩
    split at h1
    ·next kd' hkd =>
     have:=of_decide_eq_true h1
     rw [huk,hkd,this]
    ·cases h1
   ·cases h
  ·cases h
 ·cases h
theorem run_findKeyV {kt:TypeId} {kd:IntKind} (hk:P.underlying kt=some (.int kd)) (E:Env) (n:Int) (L:List VEnt) :
  (Instr.findKey kt (.int kd n) (L.map (VEnt.den kd E))).run P w = .ok (fndV E n L 0) w:=by
 have key:∀ (L:List VEnt) (i:Nat),Instr.findNow (.int kd) (.int kd n) (L.map (VEnt.den kd E)) i=some (fndV E n L i):=by
  intro L
  induction L with
  | nil=>intro i;rfl
  | cons e r ih =>
   intro i
   simp only [List.map_cons,Instr.findNow,VEnt.den,Instr.sameNow,if_true,fndV]
   by_cases hnm:e.1=n
   ·rw [if_pos hnm,hnm];simp
   ·have h1:(n == e.1)=false:=by simp;exact fun h=>hnm h.symm
    rw [h1,if_neg hnm]
    exact ih (i+1)
 unfold Instr.findKey
 simp only [Sem.run_bind,run_underlying hk,Result.andThen_ok,key L 0,Sem.run_pure]
theorem fndV_get {E:Env} {n:Int}:∀ {L:List VEnt} {G:List (Int×SC)} (i:Nat),L.map (fun e=>(e.1,e.2.1))=G→((fndV E n L i).map (·.2)).getD .nilFunc=(getV G n).den E
 | [],G,i,h=>by subst h;simp [fndV,getV,SC.den]
 | e :: r,G,i,h=>by
  subst h
  simp only [fndV,List.map_cons,getV]
  split
  ·rfl
  ·exact fndV_get (i+1) rfl
theorem fndV_none {E:Env} {n:Int}:∀ {L:List VEnt} {G:List (Int×SC)} (i:Nat),L.map (fun e=>(e.1,e.2.1))=G→hasV G n=false→fndV E n L i=none
 | [],G,i,h,_=>rfl
 | e :: r,G,i,h,hn=>by
  subst h
  simp only [List.map_cons,hasV] at hn
  simp only [fndV]
  split at hn
  ·cases hn
  ·next q=>rw [if_neg q];exact fndV_none (i+1) rfl hn
theorem compOp_xmk {T:TT} {op:Op} {t:Nat} (hc:compOp T op=some (.xmk t)):op = .makeMap t none:=by
 cases op
 case makeMap t' r =>
  cases r with
  | some _=>cases hc
  | none =>
   simp only [compOp] at hc
   split at hc <;> cases hc
   rfl
 all_goals
  exfalso
  simp only [compOp,reduceCtorEq] at hc
  try (repeat' (first | (split at hc) | (simp only [Option.bind_eq_some_iff,Option.map_eq_some_iff] at hc) | (obtain ⟨_,_,hc⟩:=hc)))
  all_goals first | (cases hc;done) | (simp only [Option.some.injEq,reduceCtorEq] at hc;done)
theorem compOp_xlk {T:TT} {op:Op} {t:Nat} {ok:Bool} {im ik:IX} (hc:compOp T op=some (.xlk t ok im ik)):∃ m k,op = .lookup t m k ok∧opd m=some im∧opd k=some ik:=by
 cases op
 case lookup t' m k ok' =>
  simp only [compOp,Option.bind_eq_some_iff,Option.map_eq_some_iff] at hc
  obtain ⟨im',hm,ik',hk,hc⟩:=hc
  split at hc <;> cases hc
  exact ⟨m,k,rfl,hm,hk⟩
 case makeMap t' r =>
  exfalso
  cases r with
  | some _=>cases hc
  | none =>
   simp only [compOp] at hc
   split at hc <;> cases hc
 all_goals
  exfalso
  simp only [compOp,reduceCtorEq] at hc
  try (repeat' (first | (split at hc) | (simp only [Option.bind_eq_some_iff,Option.map_eq_some_iff] at hc) | (obtain ⟨_,_,hc⟩:=hc)))
  all_goals first | (cases hc;done) | (simp only [Option.some.injEq,reduceCtorEq] at hc;done)
theorem compOp_xup {T:TT} {op:Op} {t:Nat} {im ik iv:IX} (hc:compOp T op=some (.xup t im ik iv)):∃ m k v,(op = .mapUpdate t m k v∨op = .insert t m k v)∧opd m=some im∧opd k=some ik∧opd v=some iv:=by
 cases op
 case mapUpdate t' m k v | insert t' m k v =>
  simp only [compOp,Option.bind_eq_some_iff,Option.map_eq_some_iff] at hc
  obtain ⟨im',hm,ik',hk,iv',hv,hc⟩:=hc
  split at hc <;> cases hc
  exact ⟨m,k,v,by simp,hm,hk,hv⟩
 case makeMap t' r =>
  exfalso
  cases r with
  | some _=>cases hc
  | none =>
   simp only [compOp] at hc
   split at hc <;> cases hc
 all_goals
  exfalso
  simp only [compOp,reduceCtorEq] at hc
  try (repeat' (first | (split at hc) | (simp only [Option.bind_eq_some_iff,Option.map_eq_some_iff] at hc) | (obtain ⟨_,_,hc⟩:=hc)))
  all_goals first | (cases hc;done) | (simp only [Option.some.injEq,reduceCtorEq] at hc;done)
section
variable {C:Ctx} {S:St}
theorem xmk_vc {t:Nat} {kd:IntKind} {d:Option Nat} {K:St→Prop} (hK:K ⟨S.nt,S.putT d (.c (.mp (S.nid,0,0))),mergeL [(S.nid,.one (.pr (MapV (S.nid,0,0) kd [])))] S.own,S.arrs,S.facts,S.nid+1⟩):OpVC C (.xmk t) d S K:=by
 intro o hop hd E a w hs K' Q hKK
 have hop:=compOp_xmk hop
 have hr:(Instr.makeMap t none).run C.P w = .ok (.map (some w.heap.size)) (w.alloc (.map #[] 0)):=by simp [Instr.makeMap]
 have haft:∃ v w',RunsTo ((execOp a.eval o).run C.P w) v w'∧After C.B C.W C.w0 E [] S a w (.c (.mp (S.nid,0,0))) 1 [(S.nid,.one (.pr (MapV (S.nid,0,0) kd [])))] [] v w':=by
  have e:(execOp a.eval o).run C.P w=(do pure (Next.value (← Instr.makeMap t none)):Sem Next).run C.P w:=by unfold execOp;rw [hop];rfl
  rw [e]
  refine det_after (one1 w.heap.size 0 false) (one1_one _ _ _) ⟨_,_,Or.inl (run_val hr)⟩ fun E2 hs2 hag=>?_
  have hE:=one1_at hag
  refine ⟨w.alloc (.map #[] 0),Or.inl ?_,fits_alloc (o:=.map #[] 0) ?_ _ (Or.inl rfl)⟩
  ·rw [run_val hr,den_c]
   simp only [SC.den,hE.1]
  ·simp only [Blk.den,MapV,hE.1]
   exact ⟨[],0,rfl,rfl⟩
 obtain ⟨v,w',hr2,haft⟩:=haft
 obtain ⟨E',h'⟩:=satA_after hs (fun i hi=>by cases hi) haft o.dst
 unfold Oper.wp
 subst hd
 rcases hr2 with hr2 | ⟨hr2,rfl⟩
 ·rw [hr2];exact hKK E' _ _ _ h' hK
 ·rw [hr2];exact hKK E' _ _ _ h' hK
theorem xlk_op {t:Nat} {kd:IntKind} {im ik:IX} {x:Nm} {n:Int} {G:List (Int×SC)} (hT:TOk C.P C.tab.T) (hv:mapFn C.tab.T t kd=true) (hm:S.ev im=some (.c (.mp x))) (hk:S.ev ik=some (.c (.v (.int kd n))))
  (hw:∀ E a w,Sat C.B C.W C.w0 E S a w→∃ (L:List VEnt) (clock:Nat),w.heap[E.ρ x]? = some (.map (L.map (VEnt.den kd E)).toArray clock)∧L.map (fun e=>(e.1,e.2.1))=G):OpR C (.xlk t false im ik) S (.c (getV G n)) 0 [] []:=by
 intro o hop E a w hs
 obtain ⟨m,k,hop,hom,hok⟩:=compOp_xlk hop
 obtain ⟨kt,et,hu,hkt,hz⟩:=mapFn_ok hT hv
 refine pure_after hs fun E2 hs2=>?_
 have e:(execOp a.eval o).run C.P w=(do pure (Next.value (← Instr.lookup t (a.eval m) (a.eval k) false)):Sem Next).run C.P w:=by unfold execOp;rw [hop]
 obtain ⟨L,clock,hb,hL⟩:=hw E2 a w hs2
 have hr:(Instr.lookup t (a.eval m) (a.eval k) false).run C.P w = .ok ((getV G n).den E2) w:=by
  have hfk:=run_findKeyV (w:=w) hkt E2 n L
  rw [opd_den hs2 hom hm,opd_den hs2 hok hk,den_c,den_c,den_v]
  have hck:∀ em,(Instr.checkKey em 10000 kt (.int kd n)).run C.P w = .ok () w:=fun em=>by
   have:=run_checkKey (w:=w) (kk:=.int kd) (a:=[n]) (P:=C.P) (kt:=kt) hkt rfl em
   exact this
  rw [← fndV_get (E:=E2) 0 hL]
  simp only [SC.den,Instr.lookup,Sem.run_bind,run_underlying hu,Result.andThen_ok,run_getObj hb,Sem.run_pure,hck,hfk]
  cases fndV E2 n L 0 with
  | none=>simp;exact hz w
  | some q=>simp
 rw [e,run_val hr,den_c]
theorem xlk_dvc {t:Nat} {kd:IntKind} {d:Option Nat} {U:List Nat} {done:List Rec} {S' : St} {ex:List Rec→St→Prop} {im ik:IX} {x:Nm} {n:Int} {G:List (Int×SC)} (hT:TOk C.P C.tab.T) (hv:mapFn C.tab.T t kd=true) (hm:S.ev im=some (.c (.mp x))) (hk:S.ev ik=some (.c (.v (.int kd n))))
  (hw:∀ E a w,Sat C.B C.W C.w0 E S a w→∃ (L:List VEnt) (clock:Nat),w.heap[E.ρ x]? = some (.map (L.map (VEnt.den kd E)).toArray clock)∧L.map (fun e=>(e.1,e.2.1))=G)
  (hK:ex (done++[⟨d,.c (getV G n),[],[],S.nid,0,keysL S.own,[],[]⟩]) (S'.appN ⟨d,.c (getV G n),[],[],S.nid,0,keysL S.own,[],[]⟩)):DOpVC C (.xlk t false im ik) d U S done S' ex :=
 ⟨.c (getV G n),0,[],[],xlk_op hT hv hm hk hw,trivial,trivial,fun k hk=>(by cases hk),hK⟩
theorem xup_vc {t:Nat} {kd:IntKind} {d:Option Nat} {K:St→Prop} {im ik iv:IX} {x:Nm} {n:Int} {c:SC} {G:List (Int×SC)} {p:Prop} (hT:TOk C.P C.tab.T) (hv:mapFn C.tab.T t kd=true) (hm:S.ev im=some (.c (.mp x))) (hk:S.ev ik=some (.c (.v (.int kd n)))) (hvv:S.ev iv=some (.c c))
  (hx:pkN S.own x=some (p,.pr (MapV x kd G))) (hp:p) (hn:hasV G n=false)
  (hK:K ⟨S.nt,S.putT d (.c (.v undef)),mergeL (setN S.own x (.pr (MapV x kd (G++[(n,c)])))) S.own,S.arrs,S.facts,S.nid⟩):OpVC C (.xup t im ik iv) d S K:=by
 intro o hop hd E a w hs K' Q hKK
 obtain ⟨m,k,v,hop,hom,hok,hov⟩:=compOp_xup hop
 obtain ⟨kt,et,hu,hkt,hz⟩:=mapFn_ok hT hv
 have haft:∃ v w',RunsTo ((execOp a.eval o).run C.P w) v w'∧After C.B C.W C.w0 E [] S a w (.c (.v undef)) 0 (setN S.own x (.pr (MapV x kd (G++[(n,c)])))) [] v w':=by
  have e:(execOp a.eval o).run C.P w=(do Instr.mapUpdate t (a.eval m) (a.eval k) (a.eval v);pure Next.skip:Sem Next).run C.P w:=by
   unfold execOp
   rcases hop with hop | hop <;> rw [hop]
  have key:∀ E2,Sat C.B C.W C.w0 E2 S a w→∃ w2,(Instr.mapUpdate t (a.eval m) (a.eval k) (a.eval v)).run C.P w = .ok () w2∧Fits C.B C.W E2 S w w2 (setN S.own x (.pr (MapV x kd (G++[(n,c)])))) []:=by
   intro E2 hs2
   have hmem:=hs2.mem
   obtain ⟨H,hH,_⟩:=hmem
   have h1:=hH.den x _ (pkN_at hx hp)
   simp only [Blk.den,MapV] at h1
   obtain ⟨L,clock,h2,h3⟩:=h1
   have hb:=(hH.sub x _ (pkN_at hx hp) (E2.ρ x) (.map (L.map (VEnt.den kd E2)).toArray clock) (by rw [h2];simp [sing])).1
   have hlt:E2.ρ x<w.heap.size:=(Array.getElem?_eq_some_iff.1 hb).1
   have hfk:=run_findKeyV (w:=w) hkt E2 n L
   rw [fndV_none 0 h3 hn] at hfk
   have hck:∀ em,(Instr.checkKey em 10000 kt (.int kd n)).run C.P w = .ok () w:=fun em=>by
    have:=run_checkKey (w:=w) (kk:=.int kd) (a:=[n]) (P:=C.P) (kt:=kt) hkt rfl em
    exact this
   have hset:∀ es' clock',(setObj (E2.ρ x) (.map es' clock')).run C.P w = .ok () { w with heap:=w.heap.setIfInBounds (E2.ρ x) (.map es' clock') }:=by
    intro es' clock'
    simp [setObj,Sem.run,hb]
   refine ⟨{ w with heap:=w.heap.setIfInBounds (E2.ρ x) (.map ((L.map (VEnt.den kd E2)).toArray.push ⟨.int kd n,c.den E2,clock⟩) (clock+1)) },?_,?_⟩
   ·rw [opd_den hs2 hom hm,opd_den hs2 hok hk,opd_den hs2 hov hvv,den_c,den_c,den_c,den_v]
    simp only [SC.den,Instr.mapUpdate,Sem.run_bind,run_underlying hu,Result.andThen_ok,run_getObj hb,hck,hfk]
    exact hset _ _
   ·refine fits_write (g:=E2.ρ x) (o:=.map ((L.map (VEnt.den kd E2)).toArray.push ⟨.int kd n,c.den E2,clock⟩) (clock+1)) hx hp hlt (fun H hH=>?_) ?_ _ ⟨rfl,rfl,rfl⟩ (fun j=>?_)
    ·have g1:=hH.den x _ (pkN_at hx hp)
     simp only [Blk.den,MapV] at g1
     obtain ⟨L2,c2,g2,_⟩:=g1
     have g3:=(hH.sub x _ (pkN_at hx hp) (E2.ρ x) (.map (L2.map (VEnt.den kd E2)).toArray c2) (by rw [g2];simp [sing])).1
     rw [g2,g3];rfl
    ·simp only [Blk.den,MapV]
     exact ⟨L++[(n,c,clock)],clock+1,by simp [VEnt.den],by simp [h3]⟩
    ·simp only [Array.getElem?_setIfInBounds]
     by_cases e:j=E2.ρ x
     ·subst e;simp [hlt]
     ·simp [e,Ne.symm e]
  rw [e]
  obtain ⟨w',hr,_⟩:=key E hs.sat
  refine det_after E hs.1 ⟨undef,w',Or.inr ⟨run_unit hr,rfl⟩⟩ fun E2 hs2 _=>?_
  obtain ⟨w2,hr2,hf⟩:=key E2 hs2
  exact ⟨w2,Or.inr ⟨run_unit hr2,rfl⟩,hf⟩
 obtain ⟨v,w',hr2,haft⟩:=haft
 obtain ⟨E',h'⟩:=satA_after hs (fun i hi=>by cases hi) haft o.dst
 unfold Oper.wp
 subst hd
 rcases hr2 with hr2 | ⟨hr2,rfl⟩
 ·rw [hr2];exact hKK E' _ _ _ h' hK
 ·rw [hr2];exact hKK E' _ _ _ h' hK
end
end Go.Proofs.Ytcloeignccpljaa.Z
