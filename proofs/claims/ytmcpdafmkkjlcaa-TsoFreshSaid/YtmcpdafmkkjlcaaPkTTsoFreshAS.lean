/- TsoFreshSaid: what its proof is made of. No condition. -/
import Derived.Test.YtmcpdafmkkjlcaaPkTTsoFreshAR
set_option linter.unusedSimpArgs false
set_option linter.unusedVariables false
namespace Go.Proofs.Ytmcpdafmkkjlcaa.Z
open Go Go.RowKit
section
variable {P:Program} {T:TT} {B:Nat} {W:Nat→Prop} {w0:World} {E:Env} {S:St} {a:Act} {w w1:World}
theorem fits_put {b b' : Blk} {y:Nm} {p:Prop} (hy:pkN S.own y=some (p,b)) (hp:p) (h0:w1.os=w.os∧w1.tape=w.tape∧w1.output=w.output) (hsz:w.heap.size≤w1.heap.size)
  (h:∀ H,HeapOk B W E S.own H w→∃ h',b'.den E y h'∧(∀ n,n<w.heap.size→H y n=none→w1.heap[n]? = w.heap[n]?)∧∀ n o,h' n=some o→w1.heap[n]? = some o∧(w.heap.size≤n∨H y n≠none)):Fits B W E S w w1 (setN S.own y b') []:=by
 refine ⟨fun H hH=>?_,fun _ _ x A h=>by simp [atN,look] at h⟩
 have hat:=pkN_at hy hp
 obtain ⟨h',hb,hk,hs⟩:=h H hH
 have hother:∀ x c,x≠y→atN S.own x=some c→∀ n o,H x n=some o→w1.heap[n]? = some o∧H y n=none∧n<w.heap.size:=by
  intro x c hne hx n o hn
  have h1:=(hH.sub x c hx n o hn).1
  have hlt:=hH.lt hx hn
  have hyn:H y n=none:=by
   rcases hH.disj y x b c hat hx (Ne.symm hne) n with h | h
   ·exact h
   ·rw [h] at hn;cases hn
  exact ⟨by rw [hk n hlt hyn];exact h1,hyn,hlt⟩
 have hget:∀ x c,atN (setN S.own y b') x=some c→(x=y∧c=b')∨(x≠y∧x.1=y.1∧atN S.own x=some c):=by
  intro x c hc
  rw [atN_setN hy hp] at hc
  split at hc
  ·next e1 =>
   split at hc
   ·next e2=>cases hc;exact Or.inl ⟨e2,rfl⟩
   ·next e2=>exact Or.inr ⟨e2,e1,hc⟩
  ·cases hc
 have key:∀ z d,z≠y→atN S.own z=some d→∀ n,h' n=none∨H z n=none:=by
  intro z d hz hd n
  cases e1:h' n with
  | none=>exact Or.inl rfl
  | some o =>
   right
   cases e2:H z n with
   | none=>rfl
   | some o' =>
    obtain ⟨_,h3,h4⟩:=hother z d hz hd n o' e2
    rcases (hs n o e1).2 with h5 | h5
    ·omega
    ·exact absurd h3 h5
 refine ⟨h0.1,h0.2.1,h0.2.2,hsz,fun n hn h=>hk n hn (h y b ((setN_look hy b' y.1).2 rfl) hat),fun x=>if x=y then h' else H x,?_,?_,?_⟩
 ·intro x c hc
  rcases hget x c hc with ⟨rfl,rfl⟩ | ⟨e1,e2,h⟩
  ·simpa using hb
  ·simp only [e1,if_false];exact hH.den x c h
 ·intro x z c d hc hd hne n
  rcases hget x c hc with ⟨rfl,rfl⟩ | ⟨e1,e2,h⟩
  ·rcases hget z d hd with ⟨rfl,rfl⟩ | ⟨f1,f2,h2⟩
   ·exact absurd rfl hne
   ·simp only [f1,if_true,if_false];exact key z d f1 h2 n
  ·rcases hget z d hd with ⟨rfl,rfl⟩ | ⟨f1,f2,h2⟩
   ·simp only [e1,if_true,if_false];exact (key x c e1 ‹_› n).symm
   ·simp only [e1,f1,if_false];exact hH.disj x z c d h h2 hne n
 ·intro x c hc n o hn
  rcases hget x c hc with ⟨rfl,rfl⟩ | ⟨e1,e2,h⟩
  ·simp only [if_true] at hn
   obtain ⟨g1,g2⟩:=hs n o hn
   exact ⟨g1,g2.imp id fun h=>⟨x,b,(setN_look hy c x.1).2 rfl,hat,h⟩⟩
  ·simp only [e1,if_false] at hn
   obtain ⟨g1,g2,g3⟩:=hother x c e1 h n o hn
   exact ⟨g1,Or.inr ⟨x,c,(setN_look hy b' x.1).2 e2,h,by rw [hn];simp⟩⟩
def KeepP (y z:Nm) (k s:Nat) (f:Nat→List SC) (t L:Nat) (E:Env) (h:PH):Prop :=
  k≤L ∧
  ((∃ F:Nat→List SC,(∀ e,e<k→F e=f e)∧E.χ z=(SC.sl y s 0 L none).den E∧(Blk.ar L s F t).den E y h) ∨
   (∃ (b cap:Nat) (cells:Array Value) (t' : Nat) (h1:PH) (F:Nat→List SC),E.χ z = .slice (some ⟨b,0,none⟩) L cap∧(Blk.ar k s f t).den E y h1∧h1 b=none∧L≤cap∧cap≤maxLen∧cells.size=cap * s∧ArCells E L s F cells∧h=fun n=>if n=b then some (.cells cells t' (0,0)) else h1 n))
theorem ar_weak {y:Nm} {L k s t:Nat} {F f:Nat→List SC} {h:PH} (hd:(Blk.ar L s F t).den E y h) (hk:k≤L) (hf:∀ e,e<k→F e=f e):(Blk.ar k s f t).den E y h:=by
 simp only [Blk.den] at hd ⊢
 rcases hd with ⟨_,h1,h2,h3⟩ | ⟨h1,h2,h3,cells,h4,h5,h6⟩
 ·exact Or.inl ⟨trivial,h1,by omega,h3⟩
 ·refine Or.inr ⟨h1,⟨by omega,h2.2⟩,h3,cells,h4,h5,fun e he=>?_⟩
  rw [← hf e he]
  exact h6 e (by omega)
theorem room_cells {n m k s:Nat} {f g:Nat→List SC} {cells:Array Value} {xv:Value} (g2:cells.size=k * s) (hroom:n+m≤k) (g3:ArCells E n s f cells) (rd:RdAt E w xv s m g) :
  (cells.toList.take (n * s)++cellsOf E m g++cells.toList.drop (n * s+(cellsOf E m g).length)).toArray.size=k * s ∧
  ArCells E (n+m) s (appAt n f g) (cells.toList.take (n * s)++cellsOf E m g++cells.toList.drop (n * s+(cellsOf E m g).length)).toArray:=by
 have hlen:(cellsOf E m g).length=m * s:=cellsOf_len rd.lens
 have hle:(n+m) * s≤k * s:=Nat.mul_le_mul_right _ hroom
 rw [Nat.add_mul] at hle
 refine ⟨?_,?_⟩
 ·simp only [List.size_toArray,List.length_append,List.length_take,List.length_drop,Array.length_toList,hlen]
  omega
 ·have hfl:∀ e,e<n→(f e).length=s:=fun e he=>(g3 e (by omega)).1
  have hcl:=cellsOf_len (E:=E) hfl
  refine arCells_of (appAt_len hfl rd.lens) (fun r hr j c hc=>?_) (fun r c hc=>?_)
  ·unfold appAt at hc
   split at hc
   ·next h=>exact ((g3 r (by omega)).2 j c hc).2
   ·exact rd.one _ (by omega) j c hc
  ·rw [cellsOf_app] at hc
   have hlt:=(List.getElem?_eq_some_iff.1 hc).1
   rw [List.length_append,hcl,hlen] at hlt
   simp only [List.getElem?_toArray]
   rw [List.getElem?_append_left (by simp only [List.length_append,List.length_take,Array.length_toList,hlen];omega)]
   by_cases hr:r<n * s
   ·rw [List.getElem?_append_left (by rw [hcl];exact hr)] at hc
    obtain ⟨e1,j,c1,he1,hj,rfl,hc1,rfl⟩:=cellsOf_inv hfl hc
    rw [List.getElem?_append_left (by simp only [List.length_take,Array.length_toList];omega),List.getElem?_take,if_pos hr,Array.getElem?_toList]
    exact ((g3 e1 (by omega)).2 j c1 hc1).1
   ·rw [List.getElem?_append_right (by rw [hcl];omega),hcl] at hc
    rw [List.getElem?_append_right (by simp only [List.length_take,Array.length_toList];omega)]
    simp only [List.length_take,Array.length_toList]
    rw [Nat.min_eq_left (by omega)]
    exact hc
theorem rd_cells {b n s t cap:Nat} {f:Nat→List SC} {cells:Array Value} (hb:w.heap[b]? = some (.cells cells t (0,0))) (hc:ArCells E n s f cells):RdAt E w (.slice (some ⟨b,0,none⟩) n cap) s n f:=by
 refine ⟨_,_,rfl,Or.inr ⟨b,0,rfl,fun e he=>⟨(hc e he).1,fun j u hu=>?_⟩⟩⟩
 rw [Nat.zero_add,cell_of_row w _ _ _ _ (0,0) hb]
 exact (hc e he).2 j u hu
theorem keep_run {t u ty e e' : Nat} {i:TypeInfo} {zv xv:Value} {y z:Nm} {k L m ty0:Nat} {f g:Nat→List SC} {own:Own} {H:Nm→PH} {z' : Nm} (hut:P.underlying t=some (.slice e)) (huu:P.underlying u=some (.slice e')) (hi:P.info? e=some i) (hz:i.zero=some zv) (hzc:zv.cells.size=i.size)
  (hH:HeapOk B W E own H w) (hat:atN own y=some (.pr (KeepP y z k i.size f ty0 L))) (rd:RdAt E w xv i.size m g) (hm:0<m) (hb:(L+m+(L+m) / 4+192) * i.bytes≤281474976710656) (hml:L+m≤maxLen) :
  ∃ v2 w2,(Builtin.append_ #[t,u] ty #[E.χ z,xv]).run P w = .ok v2 w2∧v2.oneCell' = true∧(w2.os=w.os∧w2.tape=w.tape∧w2.output=w.output)∧w.heap.size≤w2.heap.size ∧
   (E.χ z' = v2→∃ h',KeepP y z' k i.size f ty0 (L+m) E h'∧(∀ n,n<w.heap.size→H y n=none→w2.heap[n]? = w.heap[n]?)∧∀ n o,h' n=some o→w2.heap[n]? = some o∧(w.heap.size≤n∨H y n≠none)):=by
 have hden:=hH.den _ _ hat
 simp only [Blk.den] at hden
 obtain ⟨hkL,hden⟩:=hden
 have hsub:=hH.sub _ _ hat
 have hlt:∀ n o,H y n=some o→n<w.heap.size:=fun n o hn=>hH.lt hat hn
 have hnew:H y w.heap.size=none:=by
  cases hq:H y w.heap.size with
  | none=>rfl
  | some o=>exact absurd (hlt _ o hq) (Nat.lt_irrefl _)
 -- a new block
 have grow:∀ (cap:Nat) (ba:Option Addr) (F:Nat→List SC),E.χ z = .slice ba L cap→RdAt E w (.slice ba L cap) i.size L F→cap<L+m→(∃ h1:PH,(Blk.ar k i.size f ty0).den E y h1∧∀ n o,h1 n=some o→H y n=some o) →
   ∃ v2 w2,(Builtin.append_ #[t,u] ty #[E.χ z,xv]).run P w = .ok v2 w2∧v2.oneCell' = true∧(w2.os=w.os∧w2.tape=w.tape∧w2.output=w.output)∧w.heap.size≤w2.heap.size ∧
   (E.χ z' = v2→∃ h',KeepP y z' k i.size f ty0 (L+m) E h'∧(∀ n,n<w.heap.size→H y n=none→w2.heap[n]? = w.heap[n]?)∧∀ n o,h' n=some o→w2.heap[n]? = some o∧(w.heap.size≤n∨H y n≠none)):=by
  rintro cap ba F hχ hr hroom ⟨h1,hd1,hs1⟩
  obtain ⟨cells,hrun,hcs,hat2⟩:=app_grow (E:=E) (w:=w) (ty:=ty) (u:=u) hut huu hi hz hr rd (by omega) (Or.inl hb) hml
  rw [← hχ] at hrun
  have hge:=grownCap_ge w (L+m) cap e
  have hcm:=grownCap_le_maxLen w (L+m) cap e (by omega)
  have hh:∀ n,n<w.heap.size→(w.drew.alloc (.cells cells e)).heap[n]? = w.heap[n]?:=fun n hn=>Below.heap_alloc w.drew _ _ hn
  have hl1:∀ n o,h1 n=some o→n<w.heap.size:=fun n o hn=>hlt n o (hs1 n o hn)
  refine ⟨_,_,hrun,rfl,⟨rfl,rfl,rfl⟩,by simp,fun hz'=>⟨fun n=>if n=w.heap.size then some (.cells cells e (0,0)) else h1 n,⟨by omega,Or.inr ⟨w.heap.size,_,cells,e,h1,appAt L F g,hz',hd1,?_,hge,hcm,hcs hzc,hat2,rfl⟩⟩,fun n hn _=>hh n hn,fun n o hn=>?_⟩⟩
  ·cases hq:h1 w.heap.size with
   | none=>rfl
   | some o=>exact absurd (hl1 _ o hq) (Nat.lt_irrefl _)
  ·simp only at hn
   split at hn
   ·next e1 =>
    subst e1
    cases hn
    exact ⟨heap_alloc_new w.drew _,Or.inl (Nat.le_refl _)⟩
   ·have h2:=hs1 n o hn
    refine ⟨?_,Or.inr (by rw [h2];simp)⟩
    rw [hh n (hlt n o h2)]
    exact (hsub n o h2).1
 rcases hden with ⟨F,hF,hχ,hd⟩ | ⟨b,cap,cells,t',h1,F,hχ,hd,hb1,hLc,hcm,hsz,hcells,hh⟩
 ·have hw:(Blk.ar k i.size f ty0).den E y (H y):=ar_weak hd hkL hF
  rw [den_sl] at hχ
  simp only [Nat.zero_mul,Option.getD_none,Nat.sub_zero] at hχ
  simp only [Blk.den] at hd
  rcases hd with ⟨_,g1,g2,g3⟩ | ⟨hν,⟨g1,g1'⟩,g2,cells,g3,g4,g5⟩
  ·refine grow _ _ F hχ ⟨_,_,rfl,Or.inl g2⟩ (by omega) ⟨_,hw,fun _ _ h=>h⟩
  ·have hb0:w.heap[E.ρ y]? = some (.cells cells ty0 (0,0)):=(hsub (E.ρ y) _ (by rw [g3];simp [sing])).1
   rw [hν] at hχ
   simp only [Bool.false_eq_true,if_false] at hχ
   by_cases hroom:L+m≤E.κ y
   ·have hrun:=app_room (E:=E) (ty:=ty) hut huu hi hb0 g4 rd hroom
    obtain ⟨q1,q2⟩:=room_cells g4 hroom g5 rd
    generalize (cells.toList.take (L * i.size)++cellsOf E m g++cells.toList.drop (L * i.size+(cellsOf E m g).length)).toArray=cn at hrun q1 q2
    rw [← hχ] at hrun
    refine ⟨_,_,hrun,rfl,⟨rfl,rfl,rfl⟩,by simp [World.setRow],fun hz'=>⟨sing (E.ρ y) (.cells cn ty0 (0,0)),⟨by omega,Or.inl ⟨appAt L F g,fun e he=>?_,?_,?_⟩⟩,fun n hn hyn=>?_,fun n o hn=>?_⟩⟩
    ·simp only [appAt,if_pos (show e<L by omega)];exact hF e he
    ·rw [hz',den_sl,hν];simp
    ·simp only [Blk.den];exact Or.inr ⟨hν,⟨by omega,g1'⟩,g2,_,rfl,q1,q2⟩
    ·refine setRow_other _ _ _ _ fun e2=>?_
     rw [g3,e2] at hyn
     simp [sing] at hyn
    ·obtain ⟨rfl,rfl⟩:=sing_some hn
     exact ⟨setRow_heap w _ _ _ _ _ hb0,Or.inr (by rw [g3];simp [sing])⟩
   ·exact grow _ _ F hχ (rd_cells hb0 g5) (by omega) ⟨_,hw,fun _ _ h=>h⟩
 ·have hyb:H y b=some (.cells cells t' (0,0)):=by rw [hh];simp
  have hb0:=(hsub b _ hyb).1
  have h1s:∀ n o,h1 n=some o→n≠b∧H y n=some o:=fun n o hn=>by
   have hne:n≠b:=fun e=>by subst e;rw [hb1] at hn;cases hn
   refine ⟨hne,?_⟩
   rw [hh]
   simp only [if_neg hne]
   exact hn
  by_cases hroom:L+m≤cap
  ·have hrun:=app_room (E:=E) (ty:=ty) hut huu hi hb0 hsz rd hroom
   obtain ⟨q1,q2⟩:=room_cells hsz hroom hcells rd
   generalize (cells.toList.take (L * i.size)++cellsOf E m g++cells.toList.drop (L * i.size+(cellsOf E m g).length)).toArray=cn at hrun q1 q2
   rw [← hχ] at hrun
   refine ⟨_,_,hrun,rfl,⟨rfl,rfl,rfl⟩,by simp [World.setRow],fun hz'=>⟨fun n=>if n=b then some (.cells cn t' (0,0)) else h1 n,⟨by omega,Or.inr ⟨b,cap,cn,t',h1,appAt L F g,hz',hd,hb1,hroom,hcm,q1,q2,rfl⟩⟩,fun n hn hyn=>?_,fun n o hn=>?_⟩⟩
   ·refine setRow_other _ _ _ _ fun e2=>?_
    rw [e2,hyb] at hyn
    cases hyn
   ·simp only at hn
    split at hn
    ·next e1 =>
     subst e1
     cases hn
     exact ⟨setRow_heap w _ _ _ _ _ hb0,Or.inr (by rw [hyb];simp)⟩
    ·obtain ⟨p1,p2⟩:=h1s n o hn
     exact ⟨by rw [setRow_other _ _ _ _ p1];exact (hsub n o p2).1,Or.inr (by rw [p2];simp)⟩
  ·exact grow _ _ F hχ (rd_cells hb0 hcells) (by omega) ⟨h1,hd,fun n o hn=>(h1s n o hn).2⟩
theorem compOp_app {op:Op} {t size bytes:Nat} {z0:List SC} {is ix:IX} {iop:IOp} (hc:compOp T op=some iop) (hi:iop = .app t size bytes z0 is ix) :
  ∃ c s x t' u ti tu e' te,op = .call c∧c.callee = .builtin .append∧c.args.toList=[s,x]∧c.argTypes.toList=[t',u]∧look T t' = some ti∧look T u=some tu∧ti.desc = .slice t∧tu.desc = .slice e'∧look T t=some te∧opd s=some is∧opd x=some ix ∧
   size=te.size∧bytes=te.bytes∧z0=scs te.zero.cells:=by
 cases op
 case call c =>
  simp only [compOp] at hc
  split at hc
  case h_5 hcl =>
   split at hc
   ·next s x t' u hxs hts =>
    simp only [Option.bind_eq_some_iff] at hc
    obtain ⟨ti,hti,tu,htu,hc⟩:=hc
    split at hc
    ·next e e' he he' =>
     simp only [Option.bind_eq_some_iff,Option.map_eq_some_iff] at hc
     obtain ⟨te,hte,is',his,ix',hx,hc⟩:=hc
     subst hc
     cases hi
     exact ⟨c,s,x,t',u,ti,tu,e',te,rfl,hcl,hxs,hts,hti,htu,he,he',hte,his,hx,rfl,rfl,rfl⟩
    ·cases hc
   ·cases hc
  all_goals
   exfalso
   try (repeat' (first | (split at hc) | (simp only [Option.bind_eq_some_iff,Option.map_eq_some_iff] at hc) | (obtain ⟨_,_,hc⟩:=hc)))
   all_goals first | (cases hc;done) | (subst hc;cases hi;done) | (simp only [Option.some.injEq] at hc;subst hc;cases hi;done) | (cases hi;done)
 case makeMap t r =>
  exfalso
  cases r with
  | some _=>cases hc
  | none =>
   simp only [compOp,Option.map_eq_some_iff] at hc
   obtain ⟨_,_,rfl⟩:=hc
   cases hi
 all_goals
  exfalso
  simp only [compOp,reduceCtorEq] at hc
  try (repeat' (first | (split at hc) | (simp only [Option.bind_eq_some_iff,Option.map_eq_some_iff] at hc) | (obtain ⟨_,_,hc⟩:=hc)))
  all_goals first | (cases hc;done) | (subst hc;cases hi;done) | (simp only [Option.some.injEq] at hc;subst hc;cases hi;done) | (cases hi;done)
theorem keep_after {o:Oper} {t size bytes:Nat} {z0:List SC} {is ix:IX} {y z:Nm} {k L m ty0:Nat} {f g:Nat→List SC} {xv:SV} {q p:Prop} (hT:TOk P T) (hop:compOp T o.op=some (.app t size bytes z0 is ix)) (hs:Sat B W w0 E S a w)
  (hsv:S.ev is=some (.c (.xv z))) (hxv:S.ev ix=some xv) (hsrc:slSrc S size xv=some (q,m,g)) (hq:q) (hy:pkN S.own y=some (p,.pr (KeepP y z k size f ty0 L))) (hp:p)
  (hm:0<m) (hz0:len' z0=size) (hb:(L+m+(L+m) / 4+192) * bytes≤281474976710656) (hml:L+m≤maxLen) :
  ∃ v w',RunsTo ((execOp a.eval o).run P w) v w'∧After B W w0 E [] S a w (.c (.xv (S.nid,0,0))) 1 (setN S.own y (.pr (KeepP y (S.nid,0,0) k size f ty0 (L+m)))) [] v w':=by
 obtain ⟨c,s,x,t',u,ti,tu,e',te,hcall,hcl,hxs,hts,hti,htu,he,he',hte,hsi,hxi,rfl,rfl,rfl⟩:=compOp_app hop rfl
 obtain ⟨hut,_⟩:=ti_parts hT hti
 obtain ⟨huu,_⟩:=ti_parts hT htu
 obtain ⟨_,i,hi,hz,hsz,hby⟩:=ti_parts hT hte
 rw [he] at hut
 rw [he'] at huu
 have hzl:te.zero.cells.size=i.size:=by rw [len'_eq] at hz0;rw [hsz];simpa [scs] using hz0
 have ea:c.args.map a.eval = #[a.eval s,a.eval x]:=by apply Array.ext';simp [hxs]
 have et:c.argTypes = #[t',u]:=by apply Array.ext';simp [hts]
 have hrun:(execOp a.eval o).run P w=(do pure (Next.value (← Builtin.append_ #[t',u] o.type #[a.eval s,a.eval x])):Sem Next).run P w:=by
  have bi:(do let d ← resolve a.eval c o.type;invoke d.target d.args:Sem Next).run P w=(builtin .append c.argTypes o.type (c.args.map fun | .const _=>true | _=>false) (c.args.map a.eval)).run P w:=by
   simp only [resolve,hcl,Sem.run_bind,Sem.run_pure,Result.andThen_ok,invoke]
   rfl
  unfold execOp
  rw [hcall]
  refine bi.trans ?_
  rw [ea,et]
  rfl
 rw [hrun]
 rw [← hsz] at hsrc hy ⊢
 rw [← hby] at hb
 have key:∀ E2,Sat B W w0 E2 S a w→∀ H,HeapOk B W E2 S.own H w→_:=fun E2 hs2 H hH =>
  keep_run (z':=(S.nid,0,0)) (ty:=o.type) hut huu hi hz hzl hH (pkN_at hy hp) (slSrc_ok hsrc hq hs2) hm hb hml
 have ev:∀ E2,Sat B W w0 E2 S a w→a.eval s=E2.χ z∧a.eval x=xv.den E2:=fun E2 hs2=>⟨by rw [opd_den hs2 hsi hsv,den_c];simp only [SC.den],opd_den hs2 hxi hxv⟩
 obtain ⟨H,hH,_⟩:=hs.mem
 obtain ⟨v,w',h1,h2,h3,h4,_⟩:=key E hs H hH
 rw [← (ev E hs).1,← (ev E hs).2] at h1
 refine det_after ⟨fun _=>0,fun _=>0,fun _=>false,fun _=>v⟩ (fun _=>h2) ⟨v,w',Or.inl (run_val h1)⟩ fun E2 hs2 hag=>⟨w',Or.inl ?_,?_⟩
 ·rw [run_val h1,den_c]
  simp only [SC.den]
  rw [(hag (S.nid,0,0) ⟨Nat.le_refl _,by simp⟩).2.2.2]
 ·refine fits_put hy hp h3 h4 fun H2 hH2=>?_
  obtain ⟨v2,w2,g1,_,_,_,g5⟩:=key E2 hs2 H2 hH2
  rw [← (ev E2 hs2).1,← (ev E2 hs2).2,h1] at g1
  cases g1
  obtain ⟨h',k1,k2,k3⟩:=g5 (hag (S.nid,0,0) ⟨Nat.le_refl _,by simp⟩).2.2.2
  exact ⟨h',by simp only [Blk.den];exact k1,k2,k3⟩
end
section
variable {C:Ctx} {S:St}
theorem keep_app {t size bytes:Nat} {z0:List SC} {is ix:IX} {d:Option Nat} {K:St→Prop} {y z:Nm} {k L m ty0:Nat} {f g:Nat→List SC} {xv:SV} {q p:Prop}
  (hT:TOk C.P C.tab.T) (hsv:S.ev is=some (.c (.xv z))) (hxv:S.ev ix=some xv) (hsrc:slSrc S size xv=some (q,m,g)) (hq:q) (hy:pkN S.own y=some (p,.pr (KeepP y z k size f ty0 L))) (hp:p)
  (hm:0<m) (hz0:len' z0=size) (hb:(L+m+(L+m) / 4+192) * bytes≤281474976710656) (hml:L+m≤maxLen)
  (hK:K ⟨S.nt,S.putT d (.c (.xv (S.nid,0,0))),mergeL (setN S.own y (.pr (KeepP y (S.nid,0,0) k size f ty0 (L+m)))) S.own,S.arrs,S.facts,S.nid+1⟩) :
  OpVC C (.app t size bytes z0 is ix) d S K:=by
 intro o hop hd E a w hs K' Q hKK
 obtain ⟨v,w',hr,haft⟩:=keep_after hT hop hs.sat hsv hxv hsrc hq hy hp hm hz0 hb hml
 obtain ⟨E',h'⟩:=satA_after hs (fun i hi=>by cases hi) haft o.dst
 unfold Oper.wp
 subst hd
 rcases hr with hr | ⟨hr,rfl⟩
 ·rw [hr];exact hKK E' _ _ _ h' hK
 ·rw [hr];exact hKK E' _ _ _ h' hK
theorem act_put_same {a:Act} {t:Nat} {v:Value} (h:t<a.tmps.size) (e:a.tmps.getD t undef=v):a.put (some t) v=a:=by
 have:a.tmps.setIfInBounds t v=a.tmps:=by
  apply Array.ext_getElem?
  intro i
  rw [Array.getElem?_setIfInBounds]
  split
  ·next q =>
   subst q
   rw [← e,Array.getD_eq_getD_getElem?,Array.getElem?_eq_getElem h];rfl
  ·rfl
 show ({ a with tmps:=a.tmps.setIfInBounds t v }:Act)=a
 rw [this]
theorem keep_in {t:Nat} {y:Nm} {n s ty:Nat} {f:Nat→List SC} {p:Prop} (ht:look S.tmps t=some (.c (.sl y s 0 n none))) (hy:pkN S.own y=some (p,.ar n s f ty)) (hp:p) :
  Le C S ⟨S.nt,S.putT (some t) (.c (.xv (S.nid,0,0))),mergeL (setN S.own y (.pr (KeepP y (S.nid,0,0) n s f ty n))) S.own,S.arrs,S.facts,S.nid+1⟩:=by
 intro E a w hs
 obtain ⟨h1,h2⟩:=hs.sat.tmps t _ ht
 have haft:After C.B C.W C.w0 E [] S a w (.c (.xv (S.nid,0,0))) 1 (setN S.own y (.pr (KeepP y (S.nid,0,0) n s f ty n))) [] ((SV.c (.sl y s 0 n none)).den E) w:=by
  refine ⟨⟨fun _=>0,fun _=>0,fun _=>false,fun _=>(SV.c (.sl y s 0 n none)).den E⟩,fun _=>by rw [den_c,den_sl];rfl,fun E2 hs2 _ hag=>?_⟩
  have e1:=(hag (S.nid,0,0) ⟨Nat.le_refl _,by simp⟩).2.2.2
  have e2:(SV.c (.sl y s 0 n none)).den E=(SV.c (.sl y s 0 n none)).den E2:=h2.symm.trans (hs2.tmps t _ ht).2
  refine ⟨by rw [den_c (x:=.xv _)];simp only [SC.den];rw [e1],(fits_put hy hp ⟨rfl,rfl,rfl⟩ (Nat.le_refl _) fun H hH=>⟨H y,?_,fun n _ _=>rfl,fun n o hn=>⟨(hH.sub _ _ (pkN_at hy hp) n o hn).1,Or.inr (by rw [hn];simp)⟩⟩).G⟩
  have hd:=hH.den _ _ (pkN_at hy hp)
  simp only [Blk.den] at hd ⊢
  exact ⟨Nat.le_refl _,Or.inl ⟨f,fun _ _=>rfl,by rw [e1];simp only;rw [e2,den_c],by simp only [Blk.den];exact hd⟩⟩
 obtain ⟨E',h'⟩:=satA_after hs (fun i hi=>by cases hi) haft (some t)
 rw [act_put_same (by rw [hs.sat.size];exact h1) h2] at h'
 exact ⟨E',h'⟩
theorem keep_out {y z:Nm} {k s ty L:Nat} {f:Nat→List SC} {p:Prop} (hy:pkN S.own y=some (p,.pr (KeepP y z k s f ty L))) (hp:p) :
  Le C S ⟨S.nt,S.tmps,mergeL (setN S.own y (.ar k s f ty)) S.own,S.arrs,S.facts,S.nid⟩:=by
 intro E a w hs
 have haft:After C.B C.W C.w0 E [] S a w (.c (.v undef)) 0 (setN S.own y (.ar k s f ty)) [] undef w:=by
  refine ⟨⟨fun _=>0,fun _=>0,fun _=>false,fun _=>.bool true⟩,fun _=>rfl,fun E2 hs2 _ hag=>⟨by rw [den_c,den_v],(fits_put hy hp ⟨rfl,rfl,rfl⟩ (Nat.le_refl _) fun H hH=>?_).G⟩⟩
  have hd:=hH.den _ _ (pkN_at hy hp)
  have hsub:=hH.sub _ _ (pkN_at hy hp)
  rw [show (Blk.pr (KeepP y z k s f ty L)).den E2 y (H y)=KeepP y z k s f ty L E2 (H y) from by simp only [Blk.den]] at hd
  obtain ⟨hkL,⟨F,hF,hχ,hd⟩ | ⟨b,cap,cells,t',h1,F,hχ,hd,hb1,hLc,hcm,hsz,hcells,hh⟩⟩:=hd
  ·exact ⟨H y,ar_weak hd hkL hF,fun n _ _=>rfl,fun n o hn=>⟨(hsub n o hn).1,Or.inr (by rw [hn];simp)⟩⟩
  ·refine ⟨h1,hd,fun n _ _=>rfl,fun n o hn=>?_⟩
   have hne:n≠b:=fun e=>by subst e;rw [hb1] at hn;cases hn
   have h2:H y n=some o:=by
    rw [hh]
    simp only [if_neg hne]
    exact hn
   exact ⟨(hsub n o h2).1,Or.inr (by rw [h2];simp)⟩
 obtain ⟨E',h'⟩:=satA_after hs (fun i hi=>by cases hi) haft none
 exact ⟨E',h'⟩
theorem keep_le {p:Nat→Prop} {σ:Nm→Nm} {y y' z z' : Nm} {k s ty L:Nat} {f f' : Nat→List SC} (hy:y=σ y') (hz:z=σ z') (hpy:p y'.1) (hpz:p z'.1) (hf:∀ e,e<k→f e=SC.renL σ (f' e)∧SC.okL p (f' e)):BlkLe p σ (.pr (KeepP y z k s f ty L)) (.pr (KeepP y' z' k s f' ty L)):=by
 subst hy hz
 intro E E2 hS h hK
 have hsy:=hS y' hpy
 have hsz:=hS z' hpz
 have vals:∀ (F:Nat→List SC) (e:Nat),((F e).map fun c=>SC.v (c.den E)).length=(F e).length:=fun F e=>by simp
 have cellsR:∀ {n:Nat} {F:Nat→List SC} {cells:Array Value},ArCells E n s F cells→ArCells E2 n s (fun e=>(F e).map fun c=>SC.v (c.den E)) cells:=by
  intro n F cells hc e he
  obtain ⟨g1,g2⟩:=hc e he
  refine ⟨by simpa using g1,fun j u hu=>?_⟩
  simp only [List.getElem?_map,Option.map_eq_some_iff] at hu
  obtain ⟨c,hc,rfl⟩:=hu
  rw [den_v]
  exact g2 j c hc
 obtain ⟨hkL,⟨F,hF,hχ,hd⟩ | ⟨b,cap,cells,t',h1,F,hχ,hd,hb1,hLc,hcm,hsz',hcells,hh⟩⟩:=hK
 ·refine ⟨hkL,Or.inl ⟨fun e=>if e<k then f' e else (F e).map fun c=>SC.v (c.den E),fun e he=>by simp only [if_pos he],?_,?_⟩⟩
  ·rw [hsz.2.2.2,hχ,den_sl,den_sl,hsy.1,hsy.2.1,hsy.2.2.1]
  ·simp only [Blk.den] at hd ⊢
   rw [hsy.1,hsy.2.1,hsy.2.2.1]
   rcases hd with g | ⟨g1,g2,g3,cells,g4,g5,g6⟩
   ·exact Or.inl g
   ·refine Or.inr ⟨g1,g2,g3,cells,g4,g5,fun e he=>?_⟩
    by_cases hek:e<k
    ·simp only [if_pos hek]
     obtain ⟨h5,h6⟩:=hf e hek
     obtain ⟨f1,f2⟩:=g6 e he
     rw [hF e hek,h5] at f1 f2
     refine ⟨by rw [renL_eq,List.length_map] at f1;exact f1,fun j u hu=>?_⟩
     have:=f2 j _ (mem_renL hu)
     rw [den_ren hS u (okL_mem h6 hu)]
     exact this
    ·simp only [if_neg hek]
     exact cellsR (n:=L) (fun e he=>g6 e he) e he
 ·refine ⟨hkL,Or.inr ⟨b,cap,cells,t',h1,fun e=>(F e).map fun c=>SC.v (c.den E),by rw [hsz.2.2.2,hχ],?_,hb1,hLc,hcm,hsz',cellsR hcells,hh⟩⟩
  exact blk_le hS hpy (b:=.ar k s f ty) (b':=.ar k s f' ty) ⟨Nat.le_refl _,rfl,rfl,hf⟩ hd
end
end Go.Proofs.Ytmcpdafmkkjlcaa.Z
namespace Go.Proofs.Ytmcpdafmkkjlcaa.Z
open Go Go.RowKit
def vW (i:Nat):Int:=IntKind.i64.wrap (1000+(i:Int))
def vR (i:Nat):Int:=IntKind.i64.wrap (2000+(i:Int))
def aW (fl:List Fn) (c:Nat→Nat) (k e:Nat):List SC:=[.v (.int .i64 (if e<c k then vW k else (fl.getD k fn0).words.getD e 0))]
def aR (fl:List Fn) (c:Nat→Nat) (k e:Nat):List SC:=[.v (.int .i64 (if e<c k then vR k else ((fl.getD k fn0).regs.getD e r40).a)),.v (.int .i64 ((fl.getD k fn0).regs.getD e r40).b),.v (.int .i64 ((fl.getD k fn0).regs.getD e r40).c),.v (.int .i64 ((fl.getD k fn0).regs.getD e r40).d)]
def bW (fl:List Fn) (c:Nat→Nat) (k:Nat):Blk:=.ar (fl.getD k fn0).words.length 1 (aW fl c k) 3
def bR (fl:List Fn) (c:Nat→Nat) (k:Nat):Blk:=.ar (fl.getD k fn0).regs.length 4 (aR fl c k) 68
theorem ar_le {p:Nat→Prop} {σ:Nm→Nm} {n s ty:Nat} {f g:Nat→List SC} (h:∀ e,e<n→f e=SC.renL σ (g e)∧SC.okL p (g e)):BlkLe p σ (.ar n s f ty) (.ar n s g ty):=⟨Nat.le_refl _,rfl,rfl,h⟩
theorem aW_v {p:Nat→Prop} {σ:Nm→Nm} (fl:List Fn) (c:Nat→Nat) (k e:Nat):aW fl c k e=SC.renL σ (aW fl c k e)∧SC.okL p (aW fl c k e):=⟨by simp [aW,SC.renL,SC.ren],by simp [aW,SC.okL,SC.okN]⟩
theorem aR_v {p:Nat→Prop} {σ:Nm→Nm} (fl:List Fn) (c:Nat→Nat) (k e:Nat):aR fl c k e=SC.renL σ (aR fl c k e)∧SC.okL p (aR fl c k e):=⟨by simp [aR,SC.renL,SC.ren],by simp [aR,SC.okL,SC.okN]⟩
theorem bW_le {p:Nat→Prop} {σ:Nm→Nm} {fl:List Fn} {c:Nat→Nat} {k ty:Nat} {f:Nat→List SC} (h:∀ e,e<(fl.getD k fn0).words.length→f e=aW fl c k e):BlkLe p σ (.ar (fl.getD k fn0).words.length 1 f 3) (bW fl c k):=ar_le fun e he=>by rw [h e he];exact aW_v fl c k e
theorem bR_le {p:Nat→Prop} {σ:Nm→Nm} {fl:List Fn} {c:Nat→Nat} {k ty:Nat} {f:Nat→List SC} (h:∀ e,e<(fl.getD k fn0).regs.length→f e=aR fl c k e):BlkLe p σ (.ar (fl.getD k fn0).regs.length 4 f 68) (bR fl c k):=ar_le fun e he=>by rw [h e he];exact aR_v fl c k e
theorem bW_same {p:Nat→Prop} {σ:Nm→Nm} {fl:List Fn} {c c' : Nat→Nat} {k:Nat} (h:∀ e,e<(fl.getD k fn0).words.length→aW fl c k e=aW fl c' k e):BlkLe p σ (bW fl c k) (bW fl c' k):=bW_le (ty:=0) h
theorem bR_same {p:Nat→Prop} {σ:Nm→Nm} {fl:List Fn} {c c' : Nat→Nat} {k:Nat} (h:∀ e,e<(fl.getD k fn0).regs.length→aR fl c k e=aR fl c' k e):BlkLe p σ (bR fl c k) (bR fl c' k):=bR_le (ty:=0) h
theorem finsL_len {L:Lt} {o:Int} {l:List Sp} (hL:checkB L=true) (hb:bfs L o=some l):(finsL L (l.map (·.s))).length≤30000:=by
 have hk:=bfs_ok hL hb
 have hw:∀ s∈l.map (·.s),WfT L o s:=fun s hs=>by
  rw [List.mem_map] at hs
  obtain ⟨x,hx,rfl⟩:=hs
  exact hk.wf x hx
 have hp:=(finsL_ok hw hk.nd).1
 rw [hp.length_eq,List.length_map]
 have:=List.length_filter_le (finB L) (l.map (·.s))
 have:=hk.len.2
 rw [List.length_map] at *
 omega
theorem fins_shapeF {L:Lt} {o:Int} (hL:checkB L=true) {l:List Sp} (h:bfs L o=some l) {f:Fn} (hf:f∈finsL L (l.map (·.s))):f.words.length=L.words.length∧f.regs.length=L.thr.length:=by
 have hnd:=bfs_ok hL h
 have hw:∀ s∈l.map (·.s),WfT L o s:=fun s hs=>by
  rw [List.mem_map] at hs
  obtain ⟨x,hx,rfl⟩:=hs
  exact hnd.wf x hx
 have h1:=(finsL_ok hw hnd.nd).1.mem_iff.1 hf
 rw [List.mem_map] at h1
 obtain ⟨s,hs,rfl⟩:=h1
 have h2:=hw s (List.mem_filter.1 hs).1
 exact ⟨h2.wf.w,h2.wf.r⟩
def frB (L:Lt) (fl:List Fn):Own:=(3,.one (.bk [.xv (0,0,0),.xv (1,0,0)] 25)) :: (foO 7 fl++((15,.one (.bk (stC 10 (beginS L)) 32)) :: (stO 10 (beginS L)++((21,.one (.bk (stC 16 (beginS L)) 32)) :: stO 16 (beginS L)))))
def frS (L:Lt) (fl:List Fn) (f5 f6:Nat→Blk):Own:=(4,.one (.ar fl.length 2 (foC 4 fl) 67)) :: (5,.fam fl.length f5) :: (6,.fam fl.length f6) :: frB L fl
theorem frB_le {p:Nat→Prop} {τ:Nat→Nat} {own:Own} {L:Lt} {fl:List Fn} (hp:∀ i,i<22→p i) (hτ:∀ i,i<22→τ i=i) (h3:look own 3=look (frB L fl) 3) (h7:look own 7=look (frB L fl) 7) (h8:look own 8=look (frB L fl) 8) (h9:look own 9=look (frB L fl) 9) (h15:look own 15=look (frB L fl) 15)
  (h10:look own 10=look (frB L fl) 10) (h11:look own 11=look (frB L fl) 11) (h12:look own 12=look (frB L fl) 12) (h13:look own 13=look (frB L fl) 13) (h14:look own 14=look (frB L fl) 14) (h21:look own 21=look (frB L fl) 21)
  (h16:look own 16=look (frB L fl) 16) (h17:look own 17=look (frB L fl) 17) (h18:look own 18=look (frB L fl) 18) (h19:look own 19=look (frB L fl) 19) (h20:look own 20=look (frB L fl) 20):OwnLe p (idσ τ) own (frB L fl):=by
 have q:∀ i,i<22→p i∧τ i=i:=fun i hi=>⟨hp i hi,hτ i hi⟩
 simp only [frB,foO,stO,List.cons_append,List.nil_append,look,Nat.reduceEqDiff,Nat.reduceAdd,reduceIte] at h3 h7 h8 h9 h10 h11 h12 h13 h14 h15 h16 h17 h18 h19 h20 h21
 have a0:=q 0 (by decide);have a1:=q 1 (by decide);have a3:=q 3 (by decide);have a7:=q 7 (by decide);have a8:=q 8 (by decide);have a9:=q 9 (by decide);have a10:=q 10 (by decide);have a11:=q 11 (by decide);have a12:=q 12 (by decide);have a13:=q 13 (by decide);have a14:=q 14 (by decide)
 have a15:=q 15 (by decide);have a16:=q 16 (by decide);have a17:=q 17 (by decide);have a18:=q 18 (by decide);have a19:=q 19 (by decide);have a20:=q 20 (by decide);have a21:=q 21 (by decide)
 simp +contextual [frB,foO,foC,foW,foR,stO,stC,bfC,bfO,OwnLe,BlkLeO,BlkLe,atN,Fm.get,idσ,SC.renL,SC.ren,SC.okL,SC.okN,ren_ats,ok_ats,a0,a1,a3,a7,a8,a9,a10,a11,a12,a13,a14,a15,a16,a17,a18,a19,a20,a21,h3,h7,h8,h9,h10,h11,h12,h13,h14,h15,h16,h17,h18,h19,h20,h21]
theorem frS_le {p:Nat→Prop} {τ:Nat→Nat} {own:Own} {L:Lt} {fl:List Fn} {f5 f6 g5 g6:Nat→Blk} (hp:∀ i,i<22→p i) (hτ:∀ i,i<22→τ i=i) (h4:look own 4=some (.one (.ar fl.length 2 (foC 4 fl) 67))) (h5:look own 5=some (.fam fl.length g5)) (h6:look own 6=some (.fam fl.length g6))
  (e5:∀ k,k<fl.length→BlkLe p (idσ τ) (g5 k) (f5 k)) (e6:∀ k,k<fl.length→BlkLe p (idσ τ) (g6 k) (f6 k)) (hB:OwnLe p (idσ τ) own (frB L fl)):OwnLe p (idσ τ) own (frS L fl f5 f6):=by
 have t4:=hτ 4 (by decide);have t5:=hτ 5 (by decide);have t6:=hτ 6 (by decide)
 refine ⟨⟨hp 4 (by decide),?_⟩,⟨hp 5 (by decide),fun k hk=>?_⟩,⟨hp 6 (by decide),fun k hk=>?_⟩,hB⟩
 ·simp only [idσ,t4,atN,h4,Fm.get,and_self,if_true]
  exact ⟨Nat.le_refl _,rfl,rfl,fun e _=>⟨by simp [foC,SC.renL,SC.ren,idσ,t5,t6],by simp [foC,SC.okL,SC.okN,hp 5 (by decide),hp 6 (by decide)]⟩⟩
 ·simp only [idσ,t5,atN,h5,Fm.get,hk,and_self,if_true];exact e5 k hk
 ·simp only [idσ,t6,atN,h6,Fm.get,hk,and_self,if_true];exact e6 k hk
def frT (o:Int) (n:Nat):List (Nat×SV):=[(1,.c (.v (.int .i64 o))),(2,.c (.ptr (3,0,0) 0)),(5,.c (.sl (4,0,0) 2 0 n none)),(6,.c (.v (.int .i64 0))),(7,.c (.sl (7,0,0) 2 0 n none)),(9,.c (.ptr (15,0,0) 0)),(10,.c (.v (.int .i64 0))),(11,.c (.ptr (21,0,0) 0))]
def cJ (m:Nat→Nat) (i j k:Nat):Nat:=if k<i then m k else if k=i then j else 0
theorem cJ_full {m:Nat→Nat} {i:Nat}:cJ m i (m i)=cJ m (i+1) 0:=by
 funext k
 unfold cJ
 by_cases h1:k<i
 ·rw [if_pos h1,if_pos (by omega)]
 ·by_cases h2:k=i
  ·subst h2;rw [if_neg h1,if_pos rfl,if_pos (by omega)]
  ·rw [if_neg h1,if_neg h2,if_neg (by omega)];split <;> rfl
theorem aW_set {fl:List Fn} {m:Nat→Nat} {i j e:Nat}:setAt j (aW fl (cJ m i j) i) (SC.v (.int .i64 (IntKind.i64.wrap (1000+(i:Int)))) :: drop' 1 (aW fl (cJ m i j) i j)) e=aW fl (cJ m i (j+1)) i e:=by
 unfold setAt
 split
 ·next h=>subst h;simp [aW,cJ,vW,drop']
 ·next h =>
  simp only [aW,cJ,Nat.lt_irrefl,if_false,if_true]
  rcases Nat.lt_or_ge e j with h2 | h2
  ·rw [if_pos h2,if_pos (by omega)]
  ·rw [if_neg (by omega),if_neg (by omega)]
theorem aR_set {fl:List Fn} {m:Nat→Nat} {i j e:Nat}:setAt j (aR fl (cJ m i j) i) (SC.v (.int .i64 (IntKind.i64.wrap (2000+(i:Int)))) :: drop' 1 (aR fl (cJ m i j) i j)) e=aR fl (cJ m i (j+1)) i e:=by
 unfold setAt
 split
 ·next h=>subst h;simp [aR,cJ,vR,drop']
 ·next h =>
  simp only [aR,cJ,Nat.lt_irrefl,if_false,if_true]
  rcases Nat.lt_or_ge e j with h2 | h2
  ·rw [if_pos h2,if_pos (by omega)]
  ·rw [if_neg (by omega),if_neg (by omega)]
theorem aW_ne {fl:List Fn} {m:Nat→Nat} {i j j' k e:Nat} (h:k≠i):aW fl (cJ m i j) k e=aW fl (cJ m i j') k e:=by simp [aW,cJ,h]
theorem aR_ne {fl:List Fn} {m:Nat→Nat} {i j j' k e:Nat} (h:k≠i):aR fl (cJ m i j) k e=aR fl (cJ m i j') k e:=by simp [aR,cJ,h]
def nW (fl:List Fn) (k:Nat):Nat:=(fl.getD k fn0).words.length
def nR (fl:List Fn) (k:Nat):Nat:=(fl.getD k fn0).regs.length
def a7 (xs:List Int) (c e:Nat):List SC:=[.v (.int .i64 (if e<c then 77 else xs.getD e 0))]
theorem a7_set {xs:List Int} {j e:Nat}:setAt j (a7 xs j) [SC.v (.int .i64 77)] e=a7 xs (j+1) e:=by
 unfold setAt
 split
 ·next h=>subst h;simp [a7]
 ·next h =>
  simp only [a7]
  rcases Nat.lt_or_ge e j with h2 | h2
  ·rw [if_pos h2,if_pos (by omega)]
  ·rw [if_neg (by omega),if_neg (by omega)]
def frE (L:Lt) (fl:List Fn) (c d:Nat):Own:=(10,.one (.ar (beginS L).words.length 1 (a7 (beginS L).words c) 3)) :: (12,.one (.ar (beginS L).places.length 1 (a7 (beginS L).places d) 3)) :: (3,.one (.bk [.xv (0,0,0),.xv (1,0,0)] 25)) ::
 (foO 7 fl++((15,.one (.bk (stC 10 (beginS L)) 32)) :: ((21,.one (.bk (stC 16 (beginS L)) 32)) :: stO 16 (beginS L))))
theorem frE_le {own:Own} {L:Lt} {fl:List Fn} {c d:Nat} {f10 f12:Nat→List SC} (h10:look own 10=some (.one (.ar (beginS L).words.length 1 f10 3))) (h12:look own 12=some (.one (.ar (beginS L).places.length 1 f12 3)))
  (e10:∀ e,e<(beginS L).words.length→f10 e=a7 (beginS L).words c e) (e12:∀ e,e<(beginS L).places.length→f12 e=a7 (beginS L).places d e)
  (h3:look own 3=look (frE L fl c d) 3) (h7:look own 7=look (frE L fl c d) 7) (h8:look own 8=look (frE L fl c d) 8) (h9:look own 9=look (frE L fl c d) 9) (h15:look own 15=look (frE L fl c d) 15) (h21:look own 21=look (frE L fl c d) 21)
  (h16:look own 16=look (frE L fl c d) 16) (h17:look own 17=look (frE L fl c d) 17) (h18:look own 18=look (frE L fl c d) 18) (h19:look own 19=look (frE L fl c d) 19) (h20:look own 20=look (frE L fl c d) 20):OwnLe (· < 22) (idσ id) own (frE L fl c d):=by
 simp only [frE,foO,stO,List.cons_append,List.nil_append,look,Nat.reduceEqDiff,Nat.reduceAdd,reduceIte] at h3 h7 h8 h9 h15 h16 h17 h18 h19 h20 h21
 refine ⟨⟨show 10<22 by decide,?_⟩,⟨show 12<22 by decide,?_⟩,?_⟩
 ·simp only [atN,idσ,id,h10,Fm.get,and_self,if_true]
  exact ar_le fun e he=>by rw [e10 e he];exact ⟨by simp [a7,SC.renL,SC.ren],by simp [a7,SC.okL,SC.okN]⟩
 ·simp only [atN,idσ,id,h12,Fm.get,and_self,if_true]
  exact ar_le fun e he=>by rw [e12 e he];exact ⟨by simp [a7,SC.renL,SC.ren],by simp [a7,SC.okL,SC.okN]⟩
 ·simp +contextual [foO,foC,foW,foR,stO,stC,bfC,bfO,OwnLe,BlkLeO,BlkLe,atN,Fm.get,idσ,SC.renL,SC.ren,SC.okL,SC.okN,ren_ats,ok_ats,h3,h7,h8,h9,h15,h16,h17,h18,h19,h20,h21]
theorem loop_tmF {C:Ctx} {nt nid:Nat} {t:List (Nat×SV)} {own:Own} {arrs:List (Nat×Fm ArrF)} {facts:List (Env→World→Prop)} {c:IR} {k:List KI} {ex:List KI→St→Prop} (T:Nat→List (Nat×SV)) (n:Nat) (h0:TmpsSub t (T 0))
  (hs:∀ (j:Nat) (hj:j≤n),ex (.code c :: .back { j:Nat // j≤n } (fun j=>⟨nt,T j.1,own,arrs,facts,nid⟩) (fun j=>n - j.1) ⟨j,hj⟩ :: k) ⟨nt,T j,own,arrs,facts,nid⟩):LoopVC C c k ⟨nt,t,own,arrs,facts,nid⟩ ex :=
 loopI (ι:={ j:Nat // j≤n }) (fun j=>⟨nt,T j.1,own,arrs,facts,nid⟩) (fun j=>n - j.1) ⟨0,Nat.zero_le _⟩ (le_tmps h0) (fun ⟨j,hj⟩=>hs j hj)
theorem fit_sm {n:Nat} (b:Nat) (hb:b≤100) (h:n≤1000):(n+n / 4+192) * b≤281474976710656:=by
 have h1:n / 4≤n:=Nat.div_le_self _ _
 have h2:(n+n / 4+192) * b≤3000 * 100:=Nat.mul_le_mul (by omega) hb
 exact Nat.le_trans h2 (by decide)
def kW (fl:List Fn) (i j x:Nat):Blk:=if x=i then .pr (KeepP (5,i,0) (22,0,0) (fl.getD i fn0).words.length 1 (aW fl (cJ (nW fl) fl.length 0) i) 3 ((fl.getD i fn0).words.length+j)) else bW fl (cJ (nW fl) fl.length 0) x
def kR (fl:List Fn) (i j x:Nat):Blk:=if x=i then .pr (KeepP (6,i,0) (23,0,0) (fl.getD i fn0).regs.length 4 (aR fl (cJ (nR fl) fl.length 0) i) 68 ((fl.getD i fn0).regs.length+j)) else bR fl (cJ (nR fl) fl.length 0) x
def ir6:IR:=(.seq (.ops [⟨(some 2),(.box 25 (.t 0)),none⟩,⟨(some 4),(.mv (.k (.c (.v (.bool false))))),none⟩]) (.kill [0,3,4,5,6,7,8,9,10,11] (.seq (.seq (.ops [⟨(some 29),(.call 29 []),none⟩,⟨(some 30),(.un .not (.t 29)),none⟩]) (.kill [29] (.cond (.t 30) (.seq (.ops [⟨(some 4),(.mv (.k (.c (.v (.bool false))))),none⟩]) (.kill [1,2,30] .ret)) .skip))) (.kill [4,30] (.seq (.ops [⟨(some 32),(.ld true 2 (.t 2)),none⟩,⟨(some 33),(.mv (.t 1)),none⟩,⟨(some 34),(.call 26 [(.t 32),(.t 33)]),none⟩,⟨(some 31),(.mv (.t 34)),none⟩,⟨(some 35),(.ext 0 (.t 31)),none⟩,⟨(some 36),(.ext 1 (.t 31)),none⟩,⟨(some 5),(.mv (.t 35)),none⟩,⟨(some 6),(.mv (.t 36)),none⟩]) (.kill [31,32,33,34,35,36] (.seq (.ops [⟨(some 38),(.ld true 2 (.t 2)),none⟩,⟨(some 39),(.mv (.t 1)),none⟩,⟨(some 40),(.call 26 [(.t 38),(.t 39)]),none⟩,⟨(some 37),(.mv (.t 40)),none⟩,⟨(some 41),(.ext 0 (.t 37)),none⟩,⟨(some 42),(.ext 1 (.t 37)),none⟩,⟨(some 7),(.mv (.t 41)),none⟩,⟨(some 8),(.mv (.t 42)),none⟩]) (.kill [37,38,39,40,41,42] (.seq (.ops [⟨(some 44),(.ld true 2 (.t 2)),none⟩,⟨(some 45),(.call 19 [(.t 44)]),none⟩,⟨(some 43),(.mv (.t 45)),none⟩,⟨(some 46),(.ext 0 (.t 43)),none⟩,⟨(some 47),(.ext 1 (.t 43)),none⟩,⟨(some 9),(.new 32 [(.v (.slice none 0 0)),(.v (.slice none 0 0)),(.v (.slice none 0 0)),(.v (.slice none 0 0))]),none⟩,⟨none,(.st 4 (.t 9) (.t 46)),none⟩,⟨(some 10),(.mv (.t 47)),none⟩]) (.kill [43,44,45,46,47] (.seq (.ops [⟨(some 49),(.ld true 2 (.t 2)),none⟩,⟨(some 50),(.call 19 [(.t 49)]),none⟩,⟨(some 48),(.mv (.t 50)),none⟩,⟨(some 51),(.ext 0 (.t 48)),none⟩,⟨(some 52),(.ext 1 (.t 48)),none⟩,⟨(some 11),(.new 32 [(.v (.slice none 0 0)),(.v (.slice none 0 0)),(.v (.slice none 0 0)),(.v (.slice none 0 0))]),none⟩,⟨none,(.st 4 (.t 11) (.t 51)),none⟩,⟨(some 12),(.mv (.t 52)),none⟩]) (.kill [48,49,50,51,52] (.seq (.seq (.ops [⟨(some 53),(.mv (.t 6)),none⟩,⟨(some 54),(.mv (.t 8)),none⟩,⟨(some 55),(.bin .neq (.t 53) (.t 54)),none⟩,⟨(some 56),(.mv (.t 55)),none⟩,⟨(some 57),(.mv (.t 10)),(some (56,false))⟩,⟨(some 58),(.mv (.t 12)),(some (56,false))⟩,⟨(some 59),(.bin .neq (.t 57) (.t 58)),(some (56,false))⟩,⟨(some 60),(.pick (.t 56) (.k (.c (.v (.bool true)))) (.t 59)),none⟩,⟨(some 61),(.mv (.t 60)),none⟩,⟨(some 62),(.mv (.t 5)),(some (61,false))⟩,⟨(some 63),(.mv (.t 7)),(some (61,false))⟩,⟨(some 64),(.call 28 [(.t 62),(.t 63)]),(some (61,false))⟩,⟨(some 65),(.un .not (.t 64)),(some (61,false))⟩,⟨(some 66),(.pick (.t 61) (.k (.c (.v (.bool true)))) (.t 65)),none⟩,⟨(some 67),(.mv (.t 66)),none⟩,⟨(some 68),(.ld true 4 (.t 9)),(some (67,false))⟩,⟨(some 69),(.ld true 4 (.t 11)),(some (67,false))⟩,⟨(some 70),(.call 13 [(.t 68),(.t 69)]),(some (67,false))⟩,⟨(some 71),(.un .not (.t 70)),(some (67,false))⟩,⟨(some 72),(.pick (.t 67) (.k (.c (.v (.bool true)))) (.t 71)),none⟩]) (.kill [8,12,53,54,55,56,57,58,59,60,61,62,63,64,65,66,67,68,69,70,71] (.cond (.t 72) (.seq (.ops [⟨(some 4),(.mv (.k (.c (.v (.bool false))))),none⟩]) (.kill [1,2,5,6,7,9,10,11,72] .ret)) .skip))) (.kill [4,72] (.seq (.seq (.ops [⟨(some 13),(.mv (.k (.c (.v (.int .i64 0))))),none⟩]) (.blk 0 (.loop (.seq (.seq (.ops [⟨(some 73),(.mv (.t 13)),none⟩,⟨(some 74),(.mv (.t 5)),none⟩,⟨(some 75),(.len (.t 74)),none⟩,⟨(some 76),(.bin .lss (.t 73) (.t 75)),none⟩]) (.kill [14,15,73,74,75,77,78,79,80,81,82,83,84,85,86,87,88,89,90,91,92,93,94,95,96,97,98,99,100,101,102,103,104,105,106,107,108,109,110,111,112,113,114,115,116,117] (.cond (.t 76) .skip (.exit 0)))) (.kill [76] (.seq (.blk 1 (.seq (.seq (.ops [⟨(some 14),(.mv (.k (.c (.v (.int .i64 0))))),none⟩]) (.blk 2 (.loop (.seq (.seq (.ops [⟨(some 79),(.mv (.t 14)),none⟩,⟨(some 80),(.mv (.t 5)),none⟩,⟨(some 81),(.mv (.t 13)),none⟩,⟨(some 82),(.ia 2 (.t 80) (.t 81)),none⟩,⟨(some 83),(.fa 0 (.t 82)),none⟩,⟨(some 84),(.ld false 1 (.t 83)),none⟩,⟨(some 85),(.len (.t 84)),none⟩,⟨(some 86),(.bin .lss (.t 79) (.t 85)),none⟩]) (.kill [79,80,81,82,83,84,85,87,88,89,90,91,92,93,94,95,96,97] (.cond (.t 86) .skip (.exit 2)))) (.kill [86] (.seq (.blk 3 (.ops [⟨(some 89),(.mv (.t 5)),none⟩,⟨(some 90),(.mv (.t 13)),none⟩,⟨(some 91),(.ia 2 (.t 89) (.t 90)),none⟩,⟨(some 92),(.fa 0 (.t 91)),none⟩,⟨(some 93),(.ld false 1 (.t 92)),none⟩,⟨(some 94),(.mv (.t 14)),none⟩,⟨(some 95),(.mv (.t 13)),none⟩,⟨(some 96),(.bin .add (.k (.c (.v (.int .i64 1000)))) (.t 95)),none⟩,⟨(some 97),(.ia 1 (.t 93) (.t 94)),none⟩,⟨none,(.st 1 (.t 97) (.t 96)),none⟩])) (.kill [89,90,91,92,93,94,95,96,97] (.ops [⟨(some 87),(.mv (.t 14)),none⟩,⟨(some 88),(.bin .add (.t 87) (.k (.c (.v (.int .i64 1))))),none⟩,⟨(some 14),(.mv (.t 88)),none⟩])))))))) (.kill [14,79,80,81,82,83,84,85,86,87,88,89,90,91,92,93,94,95,96,97] (.seq (.ops [⟨(some 15),(.mv (.k (.c (.v (.int .i64 0))))),none⟩]) (.blk 4 (.loop (.seq (.seq (.ops [⟨(some 98),(.mv (.t 15)),none⟩,⟨(some 99),(.mv (.t 5)),none⟩,⟨(some 100),(.mv (.t 13)),none⟩,⟨(some 101),(.ia 2 (.t 99) (.t 100)),none⟩,⟨(some 102),(.fa 1 (.t 101)),none⟩,⟨(some 103),(.ld false 1 (.t 102)),none⟩,⟨(some 104),(.len (.t 103)),none⟩,⟨(some 105),(.bin .lss (.t 98) (.t 104)),none⟩]) (.kill [98,99,100,101,102,103,104,106,107,108,109,110,111,112,113,114,115,116,117] (.cond (.t 105) .skip (.exit 4)))) (.kill [105] (.seq (.blk 5 (.ops [⟨(some 108),(.mv (.t 5)),none⟩,⟨(some 109),(.mv (.t 13)),none⟩,⟨(some 110),(.ia 2 (.t 108) (.t 109)),none⟩,⟨(some 111),(.fa 1 (.t 110)),none⟩,⟨(some 112),(.ld false 1 (.t 111)),none⟩,⟨(some 113),(.mv (.t 15)),none⟩,⟨(some 114),(.mv (.t 13)),none⟩,⟨(some 115),(.bin .add (.k (.c (.v (.int .i64 2000)))) (.t 114)),none⟩,⟨(some 116),(.ia 4 (.t 112) (.t 113)),none⟩,⟨(some 117),(.iar 4 1 (.t 116) (.k (.c (.v (.int .i64 0))))),none⟩,⟨none,(.st 1 (.t 117) (.t 115)),none⟩])) (.kill [108,109,110,111,112,113,114,115,116,117] (.ops [⟨(some 106),(.mv (.t 15)),none⟩,⟨(some 107),(.bin .add (.t 106) (.k (.c (.v (.int .i64 1))))),none⟩,⟨(some 15),(.mv (.t 107)),none⟩]))))))))))) (.kill [14,15,79,80,81,82,83,84,85,86,87,88,89,90,91,92,93,94,95,96,97,98,99,100,101,102,103,104,105,106,107,108,109,110,111,112,113,114,115,116,117] (.ops [⟨(some 77),(.mv (.t 13)),none⟩,⟨(some 78),(.bin .add (.t 77) (.k (.c (.v (.int .i64 1))))),none⟩,⟨(some 13),(.mv (.t 78)),none⟩])))))))) (.kill [13,14,15,73,74,75,76,77,78,79,80,81,82,83,84,85,86,87,88,89,90,91,92,93,94,95,96,97,98,99,100,101,102,103,104,105,106,107,108,109,110,111,112,113,114,115,116,117] (.seq (.seq (.ops [⟨(some 16),(.mv (.k (.c (.v (.int .i64 0))))),none⟩]) (.blk 6 (.loop (.seq (.seq (.ops [⟨(some 118),(.mv (.t 16)),none⟩,⟨(some 119),(.mv (.t 5)),none⟩,⟨(some 120),(.len (.t 119)),none⟩,⟨(some 121),(.bin .lss (.t 118) (.t 120)),none⟩]) (.kill [17,18,19,118,119,120,122,123,124,125,126,127,128,129,130,131,132,133,134,135,136,137,138,139,140,141,142,143,144,145,146,147,148] (.cond (.t 121) .skip (.exit 6)))) (.kill [121] (.seq (.blk 7 (.seq (.ops [⟨(some 124),(.mv (.t 5)),none⟩,⟨(some 125),(.mv (.t 16)),none⟩,⟨(some 126),(.ia 2 (.t 124) (.t 125)),none⟩,⟨(some 127),(.fa 0 (.t 126)),none⟩,⟨(some 128),(.ld false 1 (.t 127)),none⟩,⟨(some 17),(.mv (.t 128)),none⟩]) (.kill [124,125,126,127,128] (.seq (.ops [⟨(some 129),(.mv (.t 5)),none⟩,⟨(some 130),(.mv (.t 16)),none⟩,⟨(some 131),(.ia 2 (.t 129) (.t 130)),none⟩,⟨(some 132),(.fa 1 (.t 131)),none⟩,⟨(some 133),(.ld false 1 (.t 132)),none⟩,⟨(some 18),(.mv (.t 133)),none⟩]) (.kill [129,130,131,132,133] (.seq (.ops [⟨(some 19),(.mv (.k (.c (.v (.int .i64 0))))),none⟩]) (.blk 8 (.loop (.seq (.seq (.ops [⟨(some 134),(.mv (.t 19)),none⟩,⟨(some 135),(.bin .lss (.t 134) (.k (.c (.v (.int .i64 20))))),none⟩]) (.kill [134,136,137,138,139,140,141,142,143,144,145,146,147,148] (.cond (.t 135) .skip (.exit 8)))) (.kill [135] (.seq (.blk 9 (.seq (.ops [⟨(some 138),(.mv (.t 17)),none⟩,⟨(some 139),(.mv (.t 16)),none⟩,⟨(some 140),(.bin .add (.k (.c (.v (.int .i64 5000)))) (.t 139)),none⟩,⟨(some 141),(.mkSl 3 1 1 [(.v (.int .i64 0))] [(0,(1,(.t 140)))]),none⟩,⟨(some 142),(.app 3 1 8 [(.v (.int .i64 0))] (.t 138) (.t 141)),none⟩,⟨(some 17),(.mv (.t 142)),none⟩]) (.kill [138,139,140,141,142] (.ops [⟨(some 143),(.mv (.t 18)),none⟩,⟨(some 144),(.mv (.t 16)),none⟩,⟨(some 145),(.bin .add (.k (.c (.v (.int .i64 6000)))) (.t 144)),none⟩,⟨(some 146),(.build [(.v (.int .i64 0)),(.v (.int .i64 0)),(.v (.int .i64 0)),(.v (.int .i64 0))] [(0,(1,(.t 145)))]),none⟩,⟨(some 147),(.mkSl 68 1 4 [(.v (.int .i64 0)),(.v (.int .i64 0)),(.v (.int .i64 0)),(.v (.int .i64 0))] [(0,(4,(.t 146)))]),none⟩,⟨(some 148),(.app 68 4 32 [(.v (.int .i64 0)),(.v (.int .i64 0)),(.v (.int .i64 0)),(.v (.int .i64 0))] (.t 143) (.t 147)),none⟩,⟨(some 18),(.mv (.t 148)),none⟩])))) (.kill [138,139,140,141,142,143,144,145,146,147,148] (.ops [⟨(some 136),(.mv (.t 19)),none⟩,⟨(some 137),(.bin .add (.t 136) (.k (.c (.v (.int .i64 1))))),none⟩,⟨(some 19),(.mv (.t 137)),none⟩]))))))))))))) (.kill [17,18,19,124,125,126,127,128,129,130,131,132,133,134,135,136,137,138,139,140,141,142,143,144,145,146,147,148] (.ops [⟨(some 122),(.mv (.t 16)),none⟩,⟨(some 123),(.bin .add (.t 122) (.k (.c (.v (.int .i64 1))))),none⟩,⟨(some 16),(.mv (.t 123)),none⟩])))))))) (.kill [16,17,18,19,118,119,120,121,122,123,124,125,126,127,128,129,130,131,132,133,134,135,136,137,138,139,140,141,142,143,144,145,146,147,148] (.seq (.seq (.ops [⟨(some 20),(.mv (.k (.c (.v (.int .i64 0))))),none⟩]) (.blk 10 (.loop (.seq (.seq (.ops [⟨(some 149),(.mv (.t 20)),none⟩,⟨(some 150),(.mv (.t 5)),none⟩,⟨(some 151),(.len (.t 150)),none⟩,⟨(some 152),(.bin .lss (.t 149) (.t 151)),none⟩]) (.kill [4,21,22,149,150,151,153,154,155,156,157,158,159,160,161,162,163,164,165,166,167,168,169,170,171,172,173,174,175,176,177,178,179,180,181,182,183,184,185,186,187,188,189,190,191,192,193,194,195,196,197] (.cond (.t 152) .skip (.exit 10)))) (.kill [152] (.seq (.blk 11 (.seq (.seq (.ops [⟨(some 21),(.mv (.k (.c (.v (.int .i64 0))))),none⟩]) (.blk 12 (.loop (.seq (.seq (.ops [⟨(some 155),(.mv (.t 21)),none⟩,⟨(some 156),(.mv (.t 5)),none⟩,⟨(some 157),(.mv (.t 20)),none⟩,⟨(some 158),(.ia 2 (.t 156) (.t 157)),none⟩,⟨(some 159),(.fa 0 (.t 158)),none⟩,⟨(some 160),(.ld false 1 (.t 159)),none⟩,⟨(some 161),(.len (.t 160)),none⟩,⟨(some 162),(.bin .lss (.t 155) (.t 161)),none⟩]) (.kill [4,155,156,157,158,159,160,161,163,164,165,166,167,168,169,170,171,172,173,174,175] (.cond (.t 162) .skip (.exit 12)))) (.kill [162] (.seq (.blk 13 (.seq (.ops [⟨(some 165),(.mv (.t 5)),none⟩,⟨(some 166),(.mv (.t 20)),none⟩,⟨(some 167),(.ia 2 (.t 165) (.t 166)),none⟩,⟨(some 168),(.fa 0 (.t 167)),none⟩,⟨(some 169),(.ld false 1 (.t 168)),none⟩,⟨(some 170),(.mv (.t 21)),none⟩,⟨(some 171),(.ia 1 (.t 169) (.t 170)),none⟩,⟨(some 172),(.ld false 1 (.t 171)),none⟩,⟨(some 173),(.mv (.t 20)),none⟩,⟨(some 174),(.bin .add (.k (.c (.v (.int .i64 1000)))) (.t 173)),none⟩,⟨(some 175),(.bin .neq (.t 172) (.t 174)),none⟩]) (.kill [165,166,167,168,169,170,171,172,173,174] (.cond (.t 175) (.seq (.ops [⟨(some 4),(.mv (.k (.c (.v (.bool false))))),none⟩]) (.kill [1,2,5,6,7,9,10,11,20,21,175] .ret)) .skip)))) (.kill [4,165,166,167,168,169,170,171,172,173,174,175] (.ops [⟨(some 163),(.mv (.t 21)),none⟩,⟨(some 164),(.bin .add (.t 163) (.k (.c (.v (.int .i64 1))))),none⟩,⟨(some 21),(.mv (.t 164)),none⟩])))))))) (.kill [4,21,155,156,157,158,159,160,161,162,163,164,165,166,167,168,169,170,171,172,173,174,175] (.seq (.ops [⟨(some 22),(.mv (.k (.c (.v (.int .i64 0))))),none⟩]) (.blk 14 (.loop (.seq (.seq (.ops [⟨(some 176),(.mv (.t 22)),none⟩,⟨(some 177),(.mv (.t 5)),none⟩,⟨(some 178),(.mv (.t 20)),none⟩,⟨(some 179),(.ia 2 (.t 177) (.t 178)),none⟩,⟨(some 180),(.fa 1 (.t 179)),none⟩,⟨(some 181),(.ld false 1 (.t 180)),none⟩,⟨(some 182),(.len (.t 181)),none⟩,⟨(some 183),(.bin .lss (.t 176) (.t 182)),none⟩]) (.kill [4,176,177,178,179,180,181,182,184,185,186,187,188,189,190,191,192,193,194,195,196,197] (.cond (.t 183) .skip (.exit 14)))) (.kill [183] (.seq (.blk 15 (.seq (.ops [⟨(some 186),(.mv (.t 5)),none⟩,⟨(some 187),(.mv (.t 20)),none⟩,⟨(some 188),(.ia 2 (.t 186) (.t 187)),none⟩,⟨(some 189),(.fa 1 (.t 188)),none⟩,⟨(some 190),(.ld false 1 (.t 189)),none⟩,⟨(some 191),(.mv (.t 22)),none⟩,⟨(some 192),(.ia 4 (.t 190) (.t 191)),none⟩,⟨(some 193),(.iar 4 1 (.t 192) (.k (.c (.v (.int .i64 0))))),none⟩,⟨(some 194),(.ld false 1 (.t 193)),none⟩,⟨(some 195),(.mv (.t 20)),none⟩,⟨(some 196),(.bin .add (.k (.c (.v (.int .i64 2000)))) (.t 195)),none⟩,⟨(some 197),(.bin .neq (.t 194) (.t 196)),none⟩]) (.kill [186,187,188,189,190,191,192,193,194,195,196] (.cond (.t 197) (.seq (.ops [⟨(some 4),(.mv (.k (.c (.v (.bool false))))),none⟩]) (.kill [1,2,5,6,7,9,10,11,20,22,197] .ret)) .skip)))) (.kill [4,186,187,188,189,190,191,192,193,194,195,196,197] (.ops [⟨(some 184),(.mv (.t 22)),none⟩,⟨(some 185),(.bin .add (.t 184) (.k (.c (.v (.int .i64 1))))),none⟩,⟨(some 22),(.mv (.t 185)),none⟩]))))))))))) (.kill [4,21,22,155,156,157,158,159,160,161,162,163,164,165,166,167,168,169,170,171,172,173,174,175,176,177,178,179,180,181,182,183,184,185,186,187,188,189,190,191,192,193,194,195,196,197] (.ops [⟨(some 153),(.mv (.t 20)),none⟩,⟨(some 154),(.bin .add (.t 153) (.k (.c (.v (.int .i64 1))))),none⟩,⟨(some 20),(.mv (.t 154)),none⟩])))))))) (.kill [4,5,20,21,22,149,150,151,152,153,154,155,156,157,158,159,160,161,162,163,164,165,166,167,168,169,170,171,172,173,174,175,176,177,178,179,180,181,182,183,184,185,186,187,188,189,190,191,192,193,194,195,196,197] (.seq (.seq (.ops [⟨(some 23),(.mv (.k (.c (.v (.int .i64 0))))),none⟩]) (.blk 16 (.loop (.seq (.seq (.ops [⟨(some 198),(.mv (.t 23)),none⟩,⟨(some 199),(.fa 0 (.t 9)),none⟩,⟨(some 200),(.ld false 1 (.t 199)),none⟩,⟨(some 201),(.len (.t 200)),none⟩,⟨(some 202),(.bin .lss (.t 198) (.t 201)),none⟩]) (.kill [198,199,200,201,203,204,205,206,207,208] (.cond (.t 202) .skip (.exit 16)))) (.kill [202] (.seq (.blk 17 (.ops [⟨(some 205),(.fa 0 (.t 9)),none⟩,⟨(some 206),(.ld false 1 (.t 205)),none⟩,⟨(some 207),(.mv (.t 23)),none⟩,⟨(some 208),(.ia 1 (.t 206) (.t 207)),none⟩,⟨none,(.st 1 (.t 208) (.k (.c (.v (.int .i64 77))))),none⟩])) (.kill [205,206,207,208] (.ops [⟨(some 203),(.mv (.t 23)),none⟩,⟨(some 204),(.bin .add (.t 203) (.k (.c (.v (.int .i64 1))))),none⟩,⟨(some 23),(.mv (.t 204)),none⟩])))))))) (.kill [23,198,199,200,201,202,203,204,205,206,207,208] (.seq (.seq (.ops [⟨(some 24),(.mv (.k (.c (.v (.int .i64 0))))),none⟩]) (.blk 18 (.loop (.seq (.seq (.ops [⟨(some 209),(.mv (.t 24)),none⟩,⟨(some 210),(.fa 2 (.t 9)),none⟩,⟨(some 211),(.ld false 1 (.t 210)),none⟩,⟨(some 212),(.len (.t 211)),none⟩,⟨(some 213),(.bin .lss (.t 209) (.t 212)),none⟩]) (.kill [209,210,211,212,214,215,216,217,218,219] (.cond (.t 213) .skip (.exit 18)))) (.kill [213] (.seq (.blk 19 (.ops [⟨(some 216),(.fa 2 (.t 9)),none⟩,⟨(some 217),(.ld false 1 (.t 216)),none⟩,⟨(some 218),(.mv (.t 24)),none⟩,⟨(some 219),(.ia 1 (.t 217) (.t 218)),none⟩,⟨none,(.st 1 (.t 219) (.k (.c (.v (.int .i64 77))))),none⟩])) (.kill [216,217,218,219] (.ops [⟨(some 214),(.mv (.t 24)),none⟩,⟨(some 215),(.bin .add (.t 214) (.k (.c (.v (.int .i64 1))))),none⟩,⟨(some 24),(.mv (.t 215)),none⟩])))))))) (.kill [9,24,209,210,211,212,213,214,215,216,217,218,219] (.seq (.ops [⟨(some 221),(.ld true 2 (.t 2)),none⟩,⟨(some 222),(.mv (.t 1)),none⟩,⟨(some 223),(.call 27 [(.t 221),(.t 222)]),none⟩,⟨(some 220),(.mv (.t 223)),none⟩,⟨(some 224),(.ext 0 (.t 220)),none⟩,⟨(some 225),(.ext 1 (.t 220)),none⟩,⟨(some 25),(.mv (.t 224)),none⟩,⟨(some 26),(.mv (.t 225)),none⟩]) (.kill [26,220,221,222,223,224,225] (.seq (.ops [⟨(some 227),(.ld true 2 (.t 2)),none⟩,⟨(some 228),(.mv (.t 1)),none⟩,⟨(some 229),(.call 26 [(.t 227),(.t 228)]),none⟩,⟨(some 226),(.mv (.t 229)),none⟩,⟨(some 230),(.ext 0 (.t 226)),none⟩,⟨(some 231),(.ext 1 (.t 226)),none⟩,⟨(some 27),(.mv (.t 230)),none⟩,⟨(some 28),(.mv (.t 231)),none⟩]) (.kill [1,226,227,228,229,230,231] (.seq (.draw [(⟨(some 232),(.mv (.t 28)),none⟩,([],[233])),(⟨(some 233),(.mv (.t 6)),none⟩,([0],[232])),(⟨(some 234),(.bin .eql (.t 232) (.t 233)),none⟩,([],[])),(⟨(some 235),(.mv (.t 234)),none⟩,([],[])),(⟨(some 236),(.mv (.t 7)),(some (235,true))⟩,([],[237])),(⟨(some 237),(.mv (.t 25)),(some (235,true))⟩,([4],[236])),(⟨(some 238),(.call 28 [(.t 236),(.t 237)]),(some (235,true))⟩,([],[])),(⟨(some 239),(.pick (.t 235) (.t 238) (.k (.c (.v (.bool false))))),none⟩,([],[])),(⟨(some 240),(.mv (.t 239)),none⟩,([],[])),(⟨(some 241),(.mv (.t 27)),(some (240,true))⟩,([],[242])),(⟨(some 242),(.mv (.t 25)),(some (240,true))⟩,([9],[241])),(⟨(some 243),(.call 28 [(.t 241),(.t 242)]),(some (240,true))⟩,([],[])),(⟨(some 244),(.pick (.t 240) (.t 243) (.k (.c (.v (.bool false))))),none⟩,([],[])),(⟨(some 245),(.mv (.t 244)),none⟩,([],[])),(⟨(some 246),(.mv (.t 10)),(some (245,true))⟩,([],[])),(⟨(some 247),(.call 14 [(.t 246)]),(some (245,true))⟩,([],[])),(⟨(some 248),(.bin .neq (.t 247) (.k (.c (.v (.int .i64 0))))),(some (245,true))⟩,([],[])),(⟨(some 249),(.mv (.t 248)),(some (245,true))⟩,([],[])),(⟨(some 250),(.ld true 4 (.t 11)),(some (249,false))⟩,([],[251,252])),(⟨(some 251),(.ld true 2 (.t 2)),(some (249,false))⟩,([18],[250])),(⟨(some 252),(.call 20 [(.t 251)]),(some (249,false))⟩,([18],[250])),(⟨(some 253),(.call 13 [(.t 250),(.t 252)]),(some (249,false))⟩,([],[])),(⟨(some 254),(.pick (.t 249) (.k (.c (.v (.bool true)))) (.t 253)),(some (245,true))⟩,([],[])),(⟨(some 255),(.pick (.t 245) (.t 254) (.k (.c (.v (.bool false))))),none⟩,([],[])),(⟨(some 4),(.mv (.t 255)),none⟩,([],[]))]) (.kill [2,6,7,10,11,25,27,28,232,233,234,235,236,237,238,239,240,241,242,243,244,245,246,247,248,249,250,251,252,253,254,255] .ret))))))))))))))))))))))))))))))
def rs6:List RS:=[(.t 4)]
def nt6:Nat:=256
set_option maxRecDepth 100000 in
set_option maxHeartbeats 4000000 in
theorem fresh_some (w:World) (v:Value) (L:Lt) (o:Int) (hok:LtOk L) (hL:checkB L=true) (ho:1≤o∧o≤3) {l:List Sp} (hb:bfs L o=some l) (h:LtR w v L):Calls Try.prog 6 #[v,.int .i64 o] w (RetV w (.bool true)):=by
 refine enterLt (A:=[]) (c:=ir6) (rs:=rs6) (nt:=nt6) h [.agg (ltS 0),.c (.v (.int .i64 o))] _ Try.func6 rfl (by kernel_rfl) (by kernel_rfl) rfl (fun E' h0=>by simp only [List.map_cons,List.map_nil,h0];rfl) (of_decide_eq_true rfl) ?_
 simp (maxSteps:=2000000) only [ir6,nt6,rs6,go_sem,↓runOp,↓reduceIte,Nat.reduceLT,Nat.reduceAdd,Nat.reduceEqDiff,reduceCtorEq,ltA,ltS]
 refine callV (.c (.v (.bool true))) _ (fun E=>rfl) (fun E a w' hs=>awake_calls w') ?_
 simp (maxSteps:=2000000) only [go_sem,↓condS,↓runOp,↓reduceIte,Nat.reduceLT,Nat.reduceLeDiff,Nat.reduceAdd,Nat.reduceEqDiff]
 have hF:FinR L o=fun w=>RetN w 3 (leT 2 (finsL L (l.map (·.s))).length 0) (fun b=>foO b (finsL L (l.map (·.s)))):=by funext w e w';unfold FinR;rw [hb]
 have hfi:=fun w' (v' : Value) (h:LtR w' v' L)=>ifin_calls w' v' L o hL ho hok h
 have hfr:=fun w' (v' : Value) (h:LtR w' v' L)=>rfin_calls w' v' L o hL ho h
 rw [hF] at hfi hfr
 generalize hfl:finsL L (l.map (·.s))=fl at hfi hfr
 refine callN 3 (leT 2 fl.length 0) (fun b=>foO b fl) (fun E a w' hs=>hfi w' _ (ltL_at hs rfl rfl rfl)) ?_
 simp (maxSteps:=2000000) only [go_sem,↓runOp,↓reduceIte,Nat.reduceLT,Nat.reduceLeDiff,Nat.reduceAdd,Nat.reduceEqDiff,leT,foO]
 refine callN 3 (leT 2 fl.length 0) (fun b=>foO b fl) (fun E a w' hs=>hfi w' _ (ltL_at hs rfl rfl rfl)) ?_
 simp (maxSteps:=2000000) only [go_sem,↓runOp,↓reduceIte,Nat.reduceLT,Nat.reduceLeDiff,Nat.reduceAdd,Nat.reduceEqDiff,leT,foO]
 refine callN 5 (bgT L) (fun b=>stO b (beginS L)) (fun E a w' hs=>begin_calls w' _ L hL hok (ltL_at hs rfl rfl rfl)) ?_
 simp (maxSteps:=2000000) only [go_sem,↓runOp,↓reduceIte,Nat.reduceLT,Nat.reduceLeDiff,Nat.reduceAdd,Nat.reduceEqDiff,bgT,stO,stC]
 refine callN 5 (bgT L) (fun b=>stO b (beginS L)) (fun E a w' hs=>begin_calls w' _ L hL hok (ltL_at hs rfl rfl rfl)) ?_
 simp (maxSteps:=2000000) only [go_sem,↓gateS,↓runOp,↓imp_tt,↓reduceIte,Nat.reduceLT,Nat.reduceLeDiff,Nat.reduceAdd,Nat.reduceEqDiff,bgT,stO,stC]
 refine guardW (.c (.v (.bool true))) _ (fun E=>rfl) (fun E a w' hs=>by
  have:=sfinalsD_calls w' _ _ fl fl (fns_own hs 4 rfl rfl rfl) (fns_own hs 7 rfl rfl rfl)
  rw [decide_eq_true rfl] at this
  exact this) ?_
 simp (maxSteps:=2000000) only [go_sem,↓gateS,↓runOp,↓imp_tt,↓reduceIte,Nat.reduceLT,Nat.reduceLeDiff,Nat.reduceAdd,Nat.reduceEqDiff]
 refine guardW (.c (.v (.bool true))) _ (fun E=>rfl) (fun E a w' hs=>sstate_calls w' _ _ (beginS L) (st_own hs 10 rfl rfl rfl rfl rfl) (st_own hs 16 rfl rfl rfl rfl rfl)) ?_
 simp (maxSteps:=2000000) only [go_sem,↓condS,↓gateS,↓runOp,↓imp_ft,↓imp_tt,↓imp_ff,↓reduceIte,Nat.reduceLT,Nat.reduceEqDiff]
 have hn:fl.length≤30000:=by rw [← hfl];exact finsL_len hL hb
 have hsh:∀ k,k<fl.length→nW fl k=L.words.length∧nR fl k=L.thr.length:=fun k hk=>by
  have:=fins_shapeF hL hb (f:=fl.getD k fn0) (by rw [hfl,List.getD_eq_getElem?_getD,List.getElem?_eq_getElem hk];exact List.getElem_mem hk)
  exact this
 obtain ⟨z1,z2,z3,z4⟩:=sz_at hL
 refine loopI (ι:={ i:Nat // i≤fl.length }) (fun i=>⟨256,frT o fl.length++[(13,.c (.v (.int .i64 (i.1:Nat))))],frS L fl (bW fl (cJ (nW fl) i.1 0)) (bR fl (cJ (nR fl) i.1 0)),ltA 0 L,[],22⟩) (fun i=>fl.length - i.1) ⟨0,by omega⟩ (le_ren (id) rfl rfl (by simp [frT,TmpsLe,look,SV.ren,SC.ren,idσ,SV.okN,SC.okN]) (frS_le (fun i h=>Nat.lt_of_lt_of_le h (show 22≤22 by decide)) (fun i h=>rfl) rfl rfl rfl (fun k hk=>bW_le (ty:=0) (fun e he=>by simp [aW,ats,eI,cJ])) (fun k hk=>bR_le (ty:=0) (fun e he=>by simp [aR,ats,R4.enc,cJ])) (frB_le (fun i h=>Nat.lt_of_lt_of_le h (show 22≤22 by decide)) (fun i h=>rfl) rfl rfl rfl rfl rfl rfl rfl rfl rfl rfl rfl rfl rfl rfl rfl rfl)) (arr_ltA (p:=(· < 22)) (fun i h=>Nat.lt_trans h (show 3<22 by decide)) (fun i h=>rfl) rfl rfl rfl) rfl) ?_
 rintro ⟨i,hi⟩
 simp (maxSteps:=2000000) only [go_sem,↓condS,↓exitS,↓runOp,↓reduceIte,Nat.reduceLT,Nat.reduceAdd,Nat.reduceEqDiff,frT,frS,frB,foO,stO,stC,ltA,List.cons_append,List.nil_append]
 refine both (fun hlt=>?_) (fun hge=>?_)
 ·rw [decide_eq_true_eq] at hlt
  have hlt:i<fl.length:=by omega
  have hsi:=hsh i hlt
  refine loopI (ι:={ j:Nat // j≤nW fl i }) (fun j=>⟨256,frT o fl.length++[(13,.c (.v (.int .i64 (i:Nat)))),(14,.c (.v (.int .i64 (j.1:Nat))))],frS L fl (bW fl (cJ (nW fl) i j.1)) (bR fl (cJ (nR fl) i 0)),ltA 0 L,[],22⟩) (fun j=>nW fl i - j.1) ⟨0,by omega⟩ (le_ren (id) rfl rfl (by simp [frT,TmpsLe,look,SV.ren,SC.ren,idσ,SV.okN,SC.okN]) (frS_le (fun i h=>Nat.lt_of_lt_of_le h (show 22≤22 by decide)) (fun i h=>rfl) rfl rfl rfl (fun k hk=>(bW_same fun e he=>rfl)) (fun k hk=>(bR_same fun e he=>rfl)) (frB_le (fun i h=>Nat.lt_of_lt_of_le h (show 22≤22 by decide)) (fun i h=>rfl) rfl rfl rfl rfl rfl rfl rfl rfl rfl rfl rfl rfl rfl rfl rfl rfl)) (arr_ltA (p:=(· < 22)) (fun i h=>Nat.lt_trans h (show 3<22 by decide)) (fun i h=>rfl) rfl rfl rfl) rfl) ?_
  rintro ⟨j,hj⟩
  simp (maxSteps:=2000000) only [go_sem,↓condS,↓exitS,↓runOp,↓reduceIte,Nat.reduceLT,Nat.reduceLeDiff,Nat.reduceAdd,Nat.reduceEqDiff,frT,frS,frB,foO,foC,bW,stO,stC,ltA,List.cons_append,List.nil_append]
  refine And.intro ⟨hlt,Nat.le_refl _⟩ (And.intro hlt (both (fun hjl=>?_) (fun hjg=>?_)))
  ·have hjl:j<(fl.getD i fn0).words.length:=of_decide_eq_true hjl
   have hjm:j<L.words.length:=by rw [← hsi.1];exact hjl
   refine And.intro ⟨hlt,Nat.le_refl _⟩ (And.intro hlt (And.intro ⟨hlt,hjl,Nat.le_refl _⟩ (And.intro ⟨hlt,hjl⟩ ?_)))
   rw [wr_succ (by omega)]
   exact backI ⟨j+1,hjl⟩ (by simp only;omega) (le_ren (id) rfl rfl (by simp [TmpsLe,look,SV.ren,SC.ren,idσ,SV.okN,SC.okN]) (frS_le (fun i h=>Nat.lt_of_lt_of_le h (show 22≤22 by decide)) (fun i h=>rfl) rfl rfl rfl (fun k hk=>by
    by_cases e:k=i
    ·subst e;simp only [if_pos];exact bW_le (ty:=0) (fun e he=>aW_set)
    ·simp only [if_neg e];exact bW_same fun x hx=>aW_ne e) (fun k hk=>(bR_same fun e he=>rfl)) (frB_le (fun i h=>Nat.lt_of_lt_of_le h (show 22≤22 by decide)) (fun i h=>rfl) rfl rfl rfl rfl rfl rfl rfl rfl rfl rfl rfl rfl rfl rfl rfl rfl)) (arr_ltA (p:=(· < 22)) (fun i h=>Nat.lt_trans h (show 3<22 by decide)) (fun i h=>rfl) rfl rfl rfl) rfl)
  ·have hje:j=nW fl i:=by
    have:=of_decide_eq_false hjg
    unfold nW at *
    omega
   subst hje
   refine loopI (ι:={ j:Nat // j≤nR fl i }) (fun j=>⟨256,frT o fl.length++[(13,.c (.v (.int .i64 (i:Nat)))),(15,.c (.v (.int .i64 (j.1:Nat))))],frS L fl (bW fl (cJ (nW fl) (i+1) 0)) (bR fl (cJ (nR fl) i j.1)),ltA 0 L,[],22⟩) (fun j=>nR fl i - j.1) ⟨0,by omega⟩ (le_ren (id) rfl rfl (by simp [frT,TmpsLe,look,SV.ren,SC.ren,idσ,SV.okN,SC.okN]) (frS_le (fun i h=>Nat.lt_of_lt_of_le h (show 22≤22 by decide)) (fun i h=>rfl) rfl rfl rfl (fun k hk=>(bW_same fun e he=>by rw [cJ_full])) (fun k hk=>(bR_same fun e he=>rfl)) (frB_le (fun i h=>Nat.lt_of_lt_of_le h (show 22≤22 by decide)) (fun i h=>rfl) rfl rfl rfl rfl rfl rfl rfl rfl rfl rfl rfl rfl rfl rfl rfl rfl)) (arr_ltA (p:=(· < 22)) (fun i h=>Nat.lt_trans h (show 3<22 by decide)) (fun i h=>rfl) rfl rfl rfl) rfl) ?_
   rintro ⟨j,hj⟩
   rcases j with _ | j
   all_goals
    simp (maxSteps:=2000000) only [go_sem,↓condS,↓exitS,↓runOp,↓reduceIte,Nat.reduceLT,Nat.reduceLeDiff,Nat.reduceAdd,Nat.reduceMul,Nat.reduceEqDiff,Int.reduceToNat,Int.reduceLT,Int.reduceLE,Int.reduceAdd,frT,frS,frB,foO,foC,bR,stO,stC,ltA,List.cons_append,List.nil_append]
   ·refine And.intro ⟨hlt,Nat.le_refl _⟩ (And.intro hlt (both (fun hjl=>?_) (fun hjg=>?_)))
    ·have hjl:0<(fl.getD i fn0).regs.length:=by have:=of_decide_eq_true hjl;omega
     have hjm:0<L.thr.length:=by rw [← hsi.2];exact hjl
     refine And.intro ⟨hlt,Nat.le_refl _⟩ (And.intro hlt (And.intro ⟨hlt,by omega,Nat.le_refl _⟩ (And.intro ⟨hlt,hjl⟩ ?_)))
     exact backI ⟨0+1,hjl⟩ (by simp only;omega) (le_ren (id) rfl rfl (by simp [TmpsLe,look,SV.ren,SC.ren,idσ,SV.okN,SC.okN]) (frS_le (fun i h=>Nat.lt_of_lt_of_le h (show 22≤22 by decide)) (fun i h=>rfl) rfl rfl rfl (fun k hk=>(bW_same fun e he=>rfl)) (fun k hk=>by
      by_cases e:k=i
      ·subst e;simp only [if_pos];exact bR_le (ty:=0) (fun e he=>aR_set)
      ·simp only [if_neg e];exact bR_same fun x hx=>aR_ne e) (frB_le (fun i h=>Nat.lt_of_lt_of_le h (show 22≤22 by decide)) (fun i h=>rfl) rfl rfl rfl rfl rfl rfl rfl rfl rfl rfl rfl rfl rfl rfl rfl rfl)) (arr_ltA (p:=(· < 22)) (fun i h=>Nat.lt_trans h (show 3<22 by decide)) (fun i h=>rfl) rfl rfl rfl) rfl)
    ·have hje:0=nR fl i:=by
      have:=of_decide_eq_false hjg
      unfold nR at *
      omega
     rw [wr_succ (by omega)]
     exact backI ⟨i+1,by omega⟩ (by simp only;omega) (le_ren (id) rfl rfl (by simp [TmpsLe,look,SV.ren,SC.ren,idσ,SV.okN,SC.okN]) (frS_le (fun i h=>Nat.lt_of_lt_of_le h (show 22≤22 by decide)) (fun i h=>rfl) rfl rfl rfl (fun k hk=>(bW_same fun e he=>rfl)) (fun k hk=>(bR_same fun e he=>by rw [← cJ_full,← hje])) (frB_le (fun i h=>Nat.lt_of_lt_of_le h (show 22≤22 by decide)) (fun i h=>rfl) rfl rfl rfl rfl rfl rfl rfl rfl rfl rfl rfl rfl rfl rfl rfl rfl)) (arr_ltA (p:=(· < 22)) (fun i h=>Nat.lt_trans h (show 3<22 by decide)) (fun i h=>rfl) rfl rfl rfl) rfl)
   ·refine And.intro ⟨hlt,Nat.le_refl _⟩ (And.intro hlt (both (fun hjl=>?_) (fun hjg=>?_)))
    ·have hjl:j+1<(fl.getD i fn0).regs.length:=of_decide_eq_true hjl
     have hjm:j+1<L.thr.length:=by rw [← hsi.2];exact hjl
     refine And.intro ⟨hlt,Nat.le_refl _⟩ (And.intro hlt (And.intro ⟨hlt,hjl,Nat.le_refl _⟩ (And.intro ⟨hlt,hjl⟩ ?_)))
     rw [wr_succ (by omega)]
     exact backI ⟨j+1+1,hjl⟩ (by simp only;omega) (le_ren (id) rfl rfl (by simp [TmpsLe,look,SV.ren,SC.ren,idσ,SV.okN,SC.okN]) (frS_le (fun i h=>Nat.lt_of_lt_of_le h (show 22≤22 by decide)) (fun i h=>rfl) rfl rfl rfl (fun k hk=>(bW_same fun e he=>rfl)) (fun k hk=>by
      by_cases e:k=i
      ·subst e;simp only [if_pos];exact bR_le (ty:=0) (fun e he=>aR_set)
      ·simp only [if_neg e];exact bR_same fun x hx=>aR_ne e) (frB_le (fun i h=>Nat.lt_of_lt_of_le h (show 22≤22 by decide)) (fun i h=>rfl) rfl rfl rfl rfl rfl rfl rfl rfl rfl rfl rfl rfl rfl rfl rfl rfl)) (arr_ltA (p:=(· < 22)) (fun i h=>Nat.lt_trans h (show 3<22 by decide)) (fun i h=>rfl) rfl rfl rfl) rfl)
    ·have hje:j+1=nR fl i:=by
      have:=of_decide_eq_false hjg
      unfold nR at *
      omega
     rw [wr_succ (by omega)]
     exact backI ⟨i+1,by omega⟩ (by simp only;omega) (le_ren (id) rfl rfl (by simp [TmpsLe,look,SV.ren,SC.ren,idσ,SV.okN,SC.okN]) (frS_le (fun i h=>Nat.lt_of_lt_of_le h (show 22≤22 by decide)) (fun i h=>rfl) rfl rfl rfl (fun k hk=>(bW_same fun e he=>rfl)) (fun k hk=>(bR_same fun e he=>by rw [← cJ_full,← hje])) (frB_le (fun i h=>Nat.lt_of_lt_of_le h (show 22≤22 by decide)) (fun i h=>rfl) rfl rfl rfl rfl rfl rfl rfl rfl rfl rfl rfl rfl rfl rfl rfl rfl)) (arr_ltA (p:=(· < 22)) (fun i h=>Nat.lt_trans h (show 3<22 by decide)) (fun i h=>rfl) rfl rfl rfl) rfl)
 ·have hin:i=fl.length:=by
   have:=of_decide_eq_false hge
   omega
  subst hin
  refine loopI (ι:={ i:Nat // i≤fl.length }) (fun i=>⟨256,frT o fl.length++[(16,.c (.v (.int .i64 (i.1:Nat))))],frS L fl (bW fl (cJ (nW fl) fl.length 0)) (bR fl (cJ (nR fl) fl.length 0)),ltA 0 L,[],22⟩) (fun i=>fl.length - i.1) ⟨0,by omega⟩ (le_ren (id) rfl rfl (by simp [frT,TmpsLe,look,SV.ren,SC.ren,idσ,SV.okN,SC.okN]) (frS_le (fun i h=>Nat.lt_of_lt_of_le h (show 22≤22 by decide)) (fun i h=>rfl) rfl rfl rfl (fun k hk=>(bW_same fun e he=>rfl)) (fun k hk=>(bR_same fun e he=>rfl)) (frB_le (fun i h=>Nat.lt_of_lt_of_le h (show 22≤22 by decide)) (fun i h=>rfl) rfl rfl rfl rfl rfl rfl rfl rfl rfl rfl rfl rfl rfl rfl rfl rfl)) (arr_ltA (p:=(· < 22)) (fun i h=>Nat.lt_trans h (show 3<22 by decide)) (fun i h=>rfl) rfl rfl rfl) rfl) ?_
  rintro ⟨i,hi⟩
  simp (maxSteps:=2000000) only [go_sem,↓condS,↓exitS,↓runOp,↓reduceIte,Nat.reduceLT,Nat.reduceAdd,Nat.reduceEqDiff,frT,frS,frB,foO,foC,stO,stC,ltA,List.cons_append,List.nil_append]
  refine both (fun hlt=>?_) (fun hge=>?_)
  ·rw [decide_eq_true_eq] at hlt
   have hlt:i<fl.length:=by omega
   have hsi:=hsh i hlt
   refine And.intro ⟨hlt,Nat.le_refl _⟩ (And.intro hlt (And.intro ⟨hlt,Nat.le_refl _⟩ (And.intro hlt ?_)))
   refine loopI (ι:={ j:Nat // j≤20 }) (fun j=>⟨256,frT o fl.length++[(16,.c (.v (.int .i64 (i:Nat)))),(17,.c (.xv (22,0,0))),(18,.c (.xv (23,0,0))),(19,.c (.v (.int .i64 (j.1:Nat))))],frS L fl (kW fl i j.1) (kR fl i j.1),ltA 0 L,[],24⟩) (fun j=>20 - j.1) ⟨0,by omega⟩ (le_tr (keep_in (t:=17) (y:=(5,i,0)) rfl rfl ⟨hlt,rfl⟩) (le_tr (keep_in (t:=18) (y:=(6,i,0)) rfl rfl ⟨hlt,rfl⟩) (le_ren (id) rfl rfl (by simp [frT,St.putT,setL,TmpsLe,look,SV.ren,SC.ren,idσ,SV.okN,SC.okN]) (frS_le (fun i h=>Nat.lt_of_lt_of_le h (show 22≤24 by decide)) (fun i h=>rfl) rfl rfl rfl (fun k hk=>by
     by_cases e:k=i
     ·subst e;simp only [kW,if_pos];exact keep_le rfl rfl (show 5<24 by decide) (show 22<24 by decide) (fun e _=>aW_v fl _ k e)
     ·simp only [kW,if_neg e];exact bW_same fun _ _=>rfl) (fun k hk=>by
     by_cases e:k=i
     ·subst e;simp only [kR,if_pos];exact keep_le rfl rfl (show 6<24 by decide) (show 23<24 by decide) (fun e _=>aR_v fl _ k e)
     ·simp only [kR,if_neg e];exact bR_same fun _ _=>rfl) (frB_le (fun i h=>Nat.lt_of_lt_of_le h (show 22≤24 by decide)) (fun i h=>rfl) rfl rfl rfl rfl rfl rfl rfl rfl rfl rfl rfl rfl rfl rfl rfl rfl)) (arr_ltA (p:=(· < 24)) (fun i h=>Nat.lt_trans h (show 3<24 by decide)) (fun i h=>rfl) rfl rfl rfl) rfl))) ?_
   rintro ⟨j,hj⟩
   simp (maxSteps:=2000000) only [go_sem,↓condS,↓exitS,↓runOp,↓reduceIte,Nat.reduceLT,Nat.reduceLeDiff,Nat.reduceAdd,Nat.reduceMul,Nat.reduceEqDiff,frT,frS,frB,foO,stO,stC,ltA,List.cons_append,List.nil_append]
   refine both (fun hjl=>?_) (fun hjg=>?_)
   ·have hjl:j<20:=by have:=of_decide_eq_true hjl;omega
    have hw6:(fl.getD i fn0).words.length≤6:=by have:=hsi.1;unfold nW at this;omega
    have hr4:(fl.getD i fn0).regs.length≤4:=by have:=hsi.2;unfold nR at this;omega
    have f1:((fl.getD i fn0).words.length+j+1+((fl.getD i fn0).words.length+j+1) / 4+192) * 8≤281474976710656:=fit_sm 8 (by decide) (by omega)
    have f2:((fl.getD i fn0).regs.length+j+1+((fl.getD i fn0).regs.length+j+1) / 4+192) * 32≤281474976710656:=fit_sm 32 (by decide) (by omega)
    have f3:(fl.getD i fn0).words.length+j+1≤maxLen:=by simp only [maxLen];omega
    have f4:(fl.getD i fn0).regs.length+j+1≤maxLen:=by simp only [maxLen];omega
    refine And.intro (by decide) ?_
    refine (keep_app (y:=(5,i,0)) (z:=(22,0,0)) (k:=(fl.getD i fn0).words.length) (L:=(fl.getD i fn0).words.length+j) (m:=1) (ty0:=3) (f:=aW fl (cJ (nW fl) fl.length 0) i) (by exact (mkTab_ok _ _).1) (by rfl) (by rfl) (by rfl) (by exact ⟨⟨rfl,rfl⟩,rfl,rfl,by decide⟩) (by simp only [pkN,look,Nat.reduceEqDiff,reduceIte,Fm.pk,kW,if_true];rfl) (by exact ⟨hlt,trivial⟩) (by decide) (by rfl) f1 f3 ?_)
    simp (maxSteps:=2000000) only [go_sem,↓runOp,↓reduceIte,Nat.reduceLT,Nat.reduceLeDiff,Nat.reduceAdd,Nat.reduceMul,Nat.reduceEqDiff]
    refine And.intro (by decide) ?_
    refine (keep_app (y:=(6,i,0)) (z:=(23,0,0)) (k:=(fl.getD i fn0).regs.length) (L:=(fl.getD i fn0).regs.length+j) (m:=1) (ty0:=68) (f:=aR fl (cJ (nR fl) fl.length 0) i) (by exact (mkTab_ok _ _).1) (by rfl) (by rfl) (by rfl) (by exact ⟨⟨rfl,rfl⟩,rfl,rfl,by decide⟩) (by simp only [pkN,look,Nat.reduceEqDiff,reduceIte,Fm.pk,kR,if_true];rfl) (by exact ⟨hlt,trivial⟩) (by decide) (by rfl) f2 f4 ?_)
    simp (maxSteps:=2000000) only [go_sem,↓runOp,↓reduceIte,Nat.reduceLT,Nat.reduceAdd,Nat.reduceEqDiff]
    rw [wr_succ (by omega)]
    exact backI ⟨j+1,hjl⟩ (by simp only;omega) (le_ren (fun i=>if i=22 then 25 else if i=23 then 27 else i) rfl rfl (by simp [TmpsLe,look,SV.ren,SC.ren,idσ,SV.okN,SC.okN]) (frS_le (fun i h=>Nat.lt_of_lt_of_le h (show 22≤24 by decide)) (fun i h=>by rw [if_neg (by omega),if_neg (by omega)]) rfl rfl rfl (fun k hk=>by
     by_cases e:k=i
     ·subst e;simp only [kW,if_pos];exact keep_le rfl rfl (show 5<24 by decide) (show 22<24 by decide) (fun e _=>aW_v fl _ k e)
     ·simp only [kW,if_neg e];exact bW_same fun _ _=>rfl) (fun k hk=>by
     by_cases e:k=i
     ·subst e;simp only [kR,if_pos];exact keep_le rfl rfl (show 6<24 by decide) (show 23<24 by decide) (fun e _=>aR_v fl _ k e)
     ·simp only [kR,if_neg e];exact bR_same fun _ _=>rfl) (frB_le (fun i h=>Nat.lt_of_lt_of_le h (show 22≤24 by decide)) (fun i h=>by rw [if_neg (by omega),if_neg (by omega)]) rfl rfl rfl rfl rfl rfl rfl rfl rfl rfl rfl rfl rfl rfl rfl rfl)) (arr_ltA (p:=(· < 24)) (fun i h=>Nat.lt_trans h (show 3<24 by decide)) (fun i h=>by rw [if_neg (by omega),if_neg (by omega)]) rfl rfl rfl) rfl)
   ·have hje:j=20:=by have:=of_decide_eq_false hjg;omega
    subst hje
    rw [wr_succ (by omega)]
    exact backI ⟨i+1,by omega⟩ (by simp only;omega) (le_tr (keep_out (y:=(5,i,0)) (z:=(22,0,0)) (k:=(fl.getD i fn0).words.length) (s:=1) (ty:=3) (L:=(fl.getD i fn0).words.length+20) (f:=aW fl (cJ (nW fl) fl.length 0) i) (by simp only [pkN,look,Nat.reduceEqDiff,reduceIte,Fm.pk,kW,if_true];rfl) (by exact ⟨hlt,trivial⟩)) (le_tr (keep_out (y:=(6,i,0)) (z:=(23,0,0)) (k:=(fl.getD i fn0).regs.length) (s:=4) (ty:=68) (L:=(fl.getD i fn0).regs.length+20) (f:=aR fl (cJ (nR fl) fl.length 0) i) (by simp only [pkN,setN,mergeL,setL,look,Nat.reduceEqDiff,reduceIte,Fm.pk,Fm.set,kR,if_true];rfl) (by exact ⟨hlt,trivial⟩)) (le_ren (id) rfl rfl (by simp [TmpsLe,look,SV.ren,SC.ren,idσ,SV.okN,SC.okN]) (frS_le (fun i h=>Nat.lt_of_lt_of_le h (show 22≤22 by decide)) (fun i h=>rfl) rfl rfl rfl (fun k hk=>by
     by_cases e:k=i
     ·subst e;simp only [if_pos];exact bW_le (ty:=0) (fun e he=>rfl)
     ·simp only [kW,if_neg e];exact bW_same fun _ _=>rfl) (fun k hk=>by
     by_cases e:k=i
     ·subst e;simp only [if_pos];exact bR_le (ty:=0) (fun e he=>rfl)
     ·simp only [kR,if_neg e];exact bR_same fun _ _=>rfl) (frB_le (fun i h=>Nat.lt_of_lt_of_le h (show 22≤22 by decide)) (fun i h=>rfl) rfl rfl rfl rfl rfl rfl rfl rfl rfl rfl rfl rfl rfl rfl rfl rfl)) (arr_ltA (p:=(· < 22)) (fun i h=>Nat.lt_trans h (show 3<22 by decide)) (fun i h=>rfl) rfl rfl rfl) rfl)))
  ·have hin:i=fl.length:=by
    have:=of_decide_eq_false hge
    omega
   subst hin
   refine loop_tmF (fun i=>[(1,.c (.v (.int .i64 o))),(2,.c (.ptr (3,0,0) 0)),(5,.c (.sl (4,0,0) 2 0 fl.length none)),(6,.c (.v (.int .i64 0))),(7,.c (.sl (7,0,0) 2 0 fl.length none)),(9,.c (.ptr (15,0,0) 0)),(10,.c (.v (.int .i64 0))),(11,.c (.ptr (21,0,0) 0)),(20,.c (.v (.int .i64 (i:Nat))))]) fl.length (by simp [TmpsSub,look]) ?_
   intro i hi
   simp (maxSteps:=2000000) only [go_sem,↓condS,↓exitS,↓runOp,↓reduceIte,Nat.reduceLT,Nat.reduceEqDiff]
   refine both (fun hlt=>?_) (fun hge=>?_)
   ·have hlt:i<fl.length:=by have:=of_decide_eq_true hlt;omega
    have hsi:=hsh i hlt
    have hcW:cJ (nW fl) fl.length 0 i=(fl.getD i fn0).words.length:=by rw [cJ,if_pos hlt];rfl
    have hcR:cJ (nR fl) fl.length 0 i=(fl.getD i fn0).regs.length:=by rw [cJ,if_pos hlt];rfl
    refine loop_tmF (fun j=>[(1,.c (.v (.int .i64 o))),(2,.c (.ptr (3,0,0) 0)),(5,.c (.sl (4,0,0) 2 0 fl.length none)),(6,.c (.v (.int .i64 0))),(7,.c (.sl (7,0,0) 2 0 fl.length none)),(9,.c (.ptr (15,0,0) 0)),(10,.c (.v (.int .i64 0))),(11,.c (.ptr (21,0,0) 0)),(20,.c (.v (.int .i64 (i:Nat)))),(21,.c (.v (.int .i64 (j:Nat))))]) (nW fl i) (by simp [TmpsSub,look]) ?_
    intro j hj
    simp (maxSteps:=2000000) only [go_sem,↓condS,↓exitS,↓runOp,↓reduceIte,Nat.reduceLT,Nat.reduceAdd,Nat.reduceEqDiff,foC,bW,aW]
    refine And.intro ⟨hlt,Nat.le_refl _⟩ (And.intro hlt (both (fun hjl=>?_) (fun hjg=>?_)))
    ·have hjl:j<(fl.getD i fn0).words.length:=of_decide_eq_true hjl
     have hjm:j<L.words.length:=by rw [← hsi.1];exact hjl
     refine And.intro ⟨hlt,Nat.le_refl _⟩ (And.intro hlt (And.intro ⟨hlt,hjl,Nat.le_refl _⟩ (And.intro ⟨hlt,hjl⟩ (both (fun hne=>?_) (fun _=>?_)))))
     ·exfalso
      rw [hcW,if_pos hjl] at hne
      simp [vW] at hne
     ·rw [wr_succ (n:=j) (by omega)]
      exact backI ⟨j+1,hjl⟩ (by simp only;omega) (le_tmps (by simp [TmpsSub,look]))
    refine loop_tmF (fun j=>[(1,.c (.v (.int .i64 o))),(2,.c (.ptr (3,0,0) 0)),(5,.c (.sl (4,0,0) 2 0 fl.length none)),(6,.c (.v (.int .i64 0))),(7,.c (.sl (7,0,0) 2 0 fl.length none)),(9,.c (.ptr (15,0,0) 0)),(10,.c (.v (.int .i64 0))),(11,.c (.ptr (21,0,0) 0)),(20,.c (.v (.int .i64 (i:Nat)))),(22,.c (.v (.int .i64 (j:Nat))))]) (nR fl i) (by simp [TmpsSub,look]) ?_
    intro j hj
    rcases j with _ | j
    all_goals
     simp (maxSteps:=2000000) only [go_sem,↓condS,↓exitS,↓runOp,↓reduceIte,Nat.reduceLT,Nat.reduceLeDiff,Nat.reduceAdd,Nat.reduceMul,Nat.reduceEqDiff,Int.reduceToNat,Int.reduceLT,Int.reduceLE,Int.reduceAdd,foC,bR,aR]
    ·refine And.intro ⟨hlt,Nat.le_refl _⟩ (And.intro hlt (both (fun hjl=>?_) (fun hjg=>?_)))
     ·have hjl:0<(fl.getD i fn0).regs.length:=by have:=of_decide_eq_true hjl;omega
      have hjm:0<L.thr.length:=by rw [← hsi.2];exact hjl
      refine And.intro ⟨hlt,Nat.le_refl _⟩ (And.intro hlt (And.intro ⟨hlt,by omega,Nat.le_refl _⟩ (And.intro ⟨hlt,hjl⟩ (both (fun hne=>?_) (fun _=>?_)))))
      ·exfalso
       rw [hcR,if_pos hjl] at hne
       simp [vR] at hne
      ·exact backI ⟨0+1,hjl⟩ (by simp only;omega) (le_tmps (by simp [TmpsSub,look]))
     ·rw [wr_succ (n:=i) (by omega)]
      exact backI ⟨i+1,by omega⟩ (by simp only;omega) (le_tmps (by simp [TmpsSub,look]))
    ·refine And.intro ⟨hlt,Nat.le_refl _⟩ (And.intro hlt (both (fun hjl=>?_) (fun hjg=>?_)))
     ·have hjl:j+1<(fl.getD i fn0).regs.length:=by have:=of_decide_eq_true hjl;omega
      have hjm:j+1<L.thr.length:=by rw [← hsi.2];exact hjl
      refine And.intro ⟨hlt,Nat.le_refl _⟩ (And.intro hlt (And.intro ⟨hlt,by omega,Nat.le_refl _⟩ (And.intro ⟨hlt,hjl⟩ (both (fun hne=>?_) (fun _=>?_)))))
      ·exfalso
       rw [hcR,if_pos hjl] at hne
       simp [vR] at hne
      ·rw [wr_succ (n:=j+1) (by omega)]
       exact backI ⟨j+1+1,hjl⟩ (by simp only;omega) (le_tmps (by simp [TmpsSub,look]))
     ·rw [wr_succ (n:=i) (by omega)]
      exact backI ⟨i+1,by omega⟩ (by simp only;omega) (le_tmps (by simp [TmpsSub,look]))
   ·clear hge
    have hbw:(beginS L).words.length≤6:=z4
    have hbp:(beginS L).places.length≤4:=by simp only [beginS,List.length_replicate];omega
    refine loopI (ι:={ j:Nat // j≤(beginS L).words.length }) (fun j=>⟨256,[(1,.c (.v (.int .i64 o))),(2,.c (.ptr (3,0,0) 0)),(6,.c (.v (.int .i64 0))),(7,.c (.sl (7,0,0) 2 0 fl.length none)),(9,.c (.ptr (15,0,0) 0)),(10,.c (.v (.int .i64 0))),(11,.c (.ptr (21,0,0) 0)),(23,.c (.v (.int .i64 (j.1:Nat))))],frE L fl j.1 0,ltA 0 L,[],22⟩) (fun j=>(beginS L).words.length - j.1) ⟨0,by omega⟩ (le_ren id rfl rfl (by simp [TmpsLe,look,SV.ren,SC.ren,idσ,SV.okN,SC.okN]) (frE_le rfl rfl (fun e _=>by simp [ats,eI,a7]) (fun e _=>by simp [ats,eI,a7]) rfl rfl rfl rfl rfl rfl rfl rfl rfl rfl rfl) (arr_ltA (p:=(· < 22)) (fun i h=>Nat.lt_trans h (show 3<22 by decide)) (fun i h=>rfl) rfl rfl rfl) rfl) ?_
    rintro ⟨j,hj⟩
    simp (maxSteps:=2000000) only [go_sem,↓condS,↓exitS,↓runOp,↓reduceIte,Nat.reduceLT,Nat.reduceLeDiff,Nat.reduceAdd,Nat.reduceEqDiff,frE,foO,stO,stC,ltA,a7,List.cons_append,List.nil_append]
    refine both (fun hjl=>?_) (fun hjg=>?_)
    ·have hjl:j<(beginS L).words.length:=by have:=of_decide_eq_true hjl;omega
     refine And.intro ⟨hjl,Nat.le_refl _⟩ (And.intro hjl ?_)
     rw [wr_succ (n:=j) (by omega)]
     exact backI ⟨j+1,hjl⟩ (by simp only;omega) (le_ren id rfl rfl (by simp [TmpsLe,look,SV.ren,SC.ren,idσ,SV.okN,SC.okN]) (frE_le rfl rfl (fun e _=>a7_set) (fun e _=>rfl) rfl rfl rfl rfl rfl rfl rfl rfl rfl rfl rfl) (arr_ltA (p:=(· < 22)) (fun i h=>Nat.lt_trans h (show 3<22 by decide)) (fun i h=>rfl) rfl rfl rfl) rfl)
    have hje:j=(beginS L).words.length:=by have:=of_decide_eq_false hjg;omega
    subst hje
    clear hjg
    refine loopI (ι:={ j:Nat // j≤(beginS L).places.length }) (fun j=>⟨256,[(1,.c (.v (.int .i64 o))),(2,.c (.ptr (3,0,0) 0)),(6,.c (.v (.int .i64 0))),(7,.c (.sl (7,0,0) 2 0 fl.length none)),(9,.c (.ptr (15,0,0) 0)),(10,.c (.v (.int .i64 0))),(11,.c (.ptr (21,0,0) 0)),(24,.c (.v (.int .i64 (j.1:Nat))))],frE L fl (beginS L).words.length j.1,ltA 0 L,[],22⟩) (fun j=>(beginS L).places.length - j.1) ⟨0,by omega⟩ (le_ren id rfl rfl (by simp [TmpsLe,look,SV.ren,SC.ren,idσ,SV.okN,SC.okN]) (frE_le rfl rfl (fun e _=>rfl) (fun e _=>rfl) rfl rfl rfl rfl rfl rfl rfl rfl rfl rfl rfl) (arr_ltA (p:=(· < 22)) (fun i h=>Nat.lt_trans h (show 3<22 by decide)) (fun i h=>rfl) rfl rfl rfl) rfl) ?_
    rintro ⟨j,hj⟩
    simp (maxSteps:=2000000) only [go_sem,↓condS,↓exitS,↓runOp,↓reduceIte,Nat.reduceLT,Nat.reduceLeDiff,Nat.reduceAdd,Nat.reduceEqDiff,frE,foO,stO,stC,ltA,a7,List.cons_append,List.nil_append]
    refine both (fun hjl=>?_) (fun hjg=>?_)
    ·have hjl:j<(beginS L).places.length:=by have:=of_decide_eq_true hjl;omega
     refine And.intro ⟨hjl,Nat.le_refl _⟩ (And.intro hjl ?_)
     rw [wr_succ (n:=j) (by omega)]
     exact backI ⟨j+1,hjl⟩ (by simp only;omega) (le_ren id rfl rfl (by simp [TmpsLe,look,SV.ren,SC.ren,idσ,SV.okN,SC.okN]) (frE_le rfl rfl (fun e _=>rfl) (fun e _=>a7_set) rfl rfl rfl rfl rfl rfl rfl rfl rfl rfl rfl) (arr_ltA (p:=(· < 22)) (fun i h=>Nat.lt_trans h (show 3<22 by decide)) (fun i h=>rfl) rfl rfl rfl) rfl)
    clear hjg
    refine callN 3 (leT 2 fl.length 0) (fun b=>foO b fl) (fun E a w' hs=>hfr w' _ (ltL_at hs rfl rfl rfl)) ?_
    simp (maxSteps:=2000000) only [go_sem,↓runOp,↓reduceIte,Nat.reduceLT,Nat.reduceLeDiff,Nat.reduceAdd,Nat.reduceEqDiff,leT,foO]
    refine callN 3 (leT 2 fl.length 0) (fun b=>foO b fl) (fun E a w' hs=>hfi w' _ (ltL_at hs rfl rfl rfl)) ?_
    simp (maxSteps:=2000000) only [go_sem,↓runOp,↓reduceIte,Nat.reduceLT,Nat.reduceAdd,Nat.reduceEqDiff,leT,foO]
    refine draw_vc (by kernel_rfl) (mkTab_ok _ _) (of_decide_eq_true rfl) (of_decide_eq_true rfl) ?_
    repeat (first | simp (maxSteps:=2000000) only [go_sem,↓gateD,altC,↓runD,↓imp_tt,↓reduceIte,Nat.reduceLT,Nat.reduceEqDiff] | rw [dr_cons])
    refine Or.inl ⟨.c (.bo true),crv_retV _ _ (fun E=>rfl) (fun E a w' hs=>by
     have:=sfinalsD_calls w' _ _ fl fl (fns_own hs 7 rfl rfl rfl) (fns_own hs 22 rfl rfl rfl)
     rw [decide_eq_true rfl] at this
     exact this),?_⟩
    repeat (first | simp (maxSteps:=2000000) only [go_sem,↓gateD,altC,↓runD,↓imp_tt,↓reduceIte,Nat.reduceLT,Nat.reduceEqDiff] | rw [dr_cons])
    refine Or.inl ⟨.c (.bo true),crv_retV _ _ (fun E=>rfl) (fun E a w' hs=>by
     have:=sfinalsD_calls w' _ _ fl fl (fns_own hs 25 rfl rfl rfl) (fns_own hs 22 rfl rfl rfl)
     rw [decide_eq_true rfl] at this
     exact this),?_⟩
    repeat (first | simp (maxSteps:=2000000) only [go_sem,↓gateD,altC,↓runD,↓imp_tt,↓reduceIte,Nat.reduceLT,Nat.reduceEqDiff] | rw [dr_cons])
    refine Or.inl ⟨.c (.v (.int .i64 0)),crv_retV _ _ (fun E=>rfl) (fun E a w' hs=>num_calls w' _),?_⟩
    repeat (first | simp (maxSteps:=2000000) only [go_sem,↓gateD,altC,↓runD,↓imp_tt,↓reduceIte,Nat.reduceLT,Nat.reduceLeDiff,Nat.reduceAdd,Nat.reduceEqDiff] | rw [dr_cons])
    refine Or.inr (dcallN 5 (fun b=>.agg (stC b (beginS L))) (fun b=>stO b (beginS L)) (fun E a w' hs=>rbegin_calls w' _ L hL (ltL_at hs rfl rfl rfl)) ?_ ?_)
    ·simp [newOk,stO,keysL]
    repeat (first | simp (maxSteps:=2000000) only [go_sem,↓gateD,altC,↓runD,↓imp_tt,↓reduceIte,Nat.reduceLT,Nat.reduceAdd,Nat.reduceEqDiff,stO,stC] | rw [dr_cons])
    refine Or.inl ⟨.c (.bo true),crv_retV _ _ (fun E=>rfl) (fun E a w' hs=>sstate_calls w' _ _ (beginS L) (st_own hs 16 rfl rfl rfl rfl rfl) (st_own hs 28 rfl rfl rfl rfl rfl)),?_⟩
    repeat (first | simp (maxSteps:=2000000) only [go_sem,↓gateD,altC,↓runD,↓imp_tt,↓reduceIte,Nat.reduceLT,Nat.reduceEqDiff] | rw [dr_cons])
    exact retV fun E=>by simp [SV.den,SC.den]
end Go.Proofs.Ytmcpdafmkkjlcaa.Z
