/- TsoFreshSaid: what its proof is made of. No condition. -/
import Derived.Test.YtmcpdafmkkjlcaaPkTTsoFreshAG
set_option linter.unusedSimpArgs false
set_option linter.unusedVariables false
namespace Go.Proofs.Ytmcpdafmkkjlcaa.Z
open Go Go.RowKit
structure ThrOk (L:Lt) (o:Int) (N:Nat) (s:LS) (t:Nat):Prop where
 p0:0≤s.places.getD t 0
 p1:s.places.getD t 0≤(L.thr.getD t []).length
 b:(s.bufs.getD t []).length≤N
 sc:o=1→s.bufs.getD t []=[]
 pend:∀ p∈s.bufs.getD t [],0≤p.addr∧p.addr<L.words.length
structure WfS (L:Lt) (o:Int) (N:Nat) (s:LS):Prop where
 w:s.words.length=L.words.length
 r:s.regs.length=L.thr.length
 p:s.places.length=L.thr.length
 b:s.bufs.length=L.thr.length
 thr:∀ t,t<L.thr.length→ThrOk L o N s t
theorem getD_setE {α:Type} (l:List α) (k t:Nat) (v d:α):(l.set k v).getD t d=if k=t∧k<l.length then v else l.getD t d:=by
 rw [List.getD_eq_getElem?_getD,List.getElem?_set,List.getD_eq_getElem?_getD]
 by_cases h:k=t
 ·subst h
  by_cases h2:k<l.length
  ·simp [h2]
  ·simp [h2]
 ·simp [h]
theorem WfS.mono {L:Lt} {o:Int} {N M:Nat} {s:LS} (h:WfS L o N s) (hm:N≤M):WfS L o M s :=
 ⟨h.w,h.r,h.p,h.b,fun t ht=>⟨(h.thr t ht).p0,(h.thr t ht).p1,Nat.le_trans (h.thr t ht).b hm,(h.thr t ht).sc,(h.thr t ht).pend⟩⟩
theorem fits_at {L:Lt} (h:checkB L=true) {t:Nat} (ht:t<L.thr.length):(L.thr.getD t []).length≤10∧∀ c∈L.thr.getD t [],fitsB c L.words.length=true:=by
 simp only [checkB,Bool.and_eq_true,List.all_eq_true] at h
 have h1:=h.2 (L.thr.getD t []) (by rw [List.getD_eq_getElem?_getD,List.getElem?_eq_getElem ht];exact List.getElem_mem ht)
 simp only [codeB,Bool.and_eq_true,List.all_eq_true,decide_eq_true_eq] at h1
 exact h1
theorem sz_at {L:Lt} (h:checkB L=true):1≤L.thr.length∧L.thr.length≤4∧1≤L.words.length∧L.words.length≤6:=by
 simp only [checkB,Bool.and_eq_true,decide_eq_true_eq] at h
 exact h.1
theorem begin_wf {L:Lt} (o:Int):WfS L o 0 (beginS L):=by
 refine ⟨rfl,by simp [beginS],by simp [beginS],by simp [beginS],fun t ht=>?_⟩
 have e1:(beginS L).places.getD t 0=0:=by simp [beginS,List.getD_eq_getElem?_getD,ht]
 have e2:(beginS L).bufs.getD t []=[]:=by simp [beginS,List.getD_eq_getElem?_getD,ht]
 exact ⟨by rw [e1];omega,by rw [e1];omega,by rw [e2];simp,fun _=>e2,by rw [e2];intro p hp;cases hp⟩
theorem wf_upd {L:Lt} {o:Int} {N:Nat} {s s' : LS} (h:WfS L o N s) (k:Nat) (hk:k<L.thr.length) (hw:s'.words.length=s.words.length) (hr:s'.regs.length=s.regs.length) (hp:s'.places.length=s.places.length) (hb:s'.bufs.length=s.bufs.length)
  (h1:∀ t,t≠k→s'.places.getD t 0=s.places.getD t 0) (h2:∀ t,t≠k→s'.bufs.getD t []=s.bufs.getD t []) (h3:ThrOk L o (N+1) s' k):WfS L o (N+1) s':=by
 refine ⟨hw.trans h.w,hr.trans h.r,hp.trans h.p,hb.trans h.b,fun t ht=>?_⟩
 by_cases e:t=k
 ·subst e;exact h3
 ·have g:=h.thr t ht
  exact ⟨by rw [h1 t e];exact g.p0,by rw [h1 t e];exact g.p1,by rw [h2 t e];exact Nat.le_succ_of_le g.b,fun ho=>by rw [h2 t e];exact g.sc ho,by rw [h2 t e];exact g.pend⟩
theorem mem_eraseIdx' {α:Type} {l:List α} {i:Nat} {x:α} (h:x∈l.eraseIdx i):x∈l:=(List.eraseIdx_sublist l i).subset h
theorem out_wf {L:Lt} {o:Int} {N:Nat} {s:LS} (h:WfS L o N s) {k:Nat} (hk:k<L.thr.length) (addr:Int):WfS L o (N+1) (outS o s k addr).1:=by
 unfold outS
 split
 ·exact h.mono (Nat.le_succ _)
 next ho =>
  split
  ·exact h.mono (Nat.le_succ _)
  ·next i hi =>
   have g:=h.thr k hk
   refine wf_upd h k hk (by simp) rfl rfl (by simp) (fun t ht=>rfl) (fun t ht=>?_) ?_
   ·simp only;rw [getD_setE,if_neg (fun e=>ht e.1.symm)]
   ·have e:((s.bufs.set k ((s.bufs.getD k []).eraseIdx i)).getD k [])=(s.bufs.getD k []).eraseIdx i:=by rw [getD_setE,if_pos ⟨rfl,by rw [h.b];exact hk⟩]
    refine ⟨g.p0,g.p1,?_,fun ho1=>absurd ho1 ho,?_⟩
    ·simp only;rw [e]
     have:=List.length_eraseIdx_le (s.bufs.getD k []) i
     have:=g.b
     omega
    ·simp only;rw [e]
     exact fun p hp=>g.pend p (mem_eraseIdx' hp)
theorem step_wf {L:Lt} {o:Int} {N:Nat} {s s' : LS} {f:Int} {c:Ins} (h:WfS L o N s) {k:Nat} (hk:k<L.thr.length) (hc:fitsB c L.words.length=true) (hs:stepS o s k c=some (s',f)) :
  s'.places=s.places∧1≤f∧f≤11∧WfS L o (N+1) s':=by
 have g:=h.thr k hk
 simp only [fitsB,decide_eq_true_eq] at hc
 have same:∀ s2:LS,s2.places=s.places→s2.bufs=s.bufs→s2.words.length=s.words.length→s2.regs.length=s.regs.length→WfS L o (N+1) s2:=fun s2 e1 e2 e3 e4 =>
  ⟨e3.trans h.w,e4.trans h.r,by rw [e1];exact h.p,by rw [e2];exact h.b,fun t ht=>⟨by rw [e1];exact (h.thr t ht).p0,by rw [e1];exact (h.thr t ht).p1,by rw [e2];exact Nat.le_succ_of_le (h.thr t ht).b,by rw [e2];exact (h.thr t ht).sc,by rw [e2];exact (h.thr t ht).pend⟩⟩
 unfold stepS at hs
 split at hs
 ·cases hs;exact ⟨rfl,by omega,by omega,same _ rfl rfl rfl (by simp)⟩
 split at hs
 ·next h2 =>
  split at hs
  ·cases hs;exact ⟨rfl,by omega,by omega,same _ rfl rfl (by simp) rfl⟩
  ·next ho =>
   cases hs
   refine ⟨rfl,by omega,by omega,wf_upd h k hk rfl rfl rfl (by simp) (fun t ht=>rfl) (fun t ht=>?_) ?_⟩
   ·simp only;rw [getD_setE,if_neg (fun e=>ht e.1.symm)]
   ·refine ⟨g.p0,g.p1,?_,fun e=>absurd e ho,?_⟩
    ·simp only;rw [getD_setE,if_pos ⟨rfl,by rw [h.b];exact hk⟩]
     have:=g.b
     simp;simp at this;omega
    ·simp only;rw [getD_setE,if_pos ⟨rfl,by rw [h.b];exact hk⟩]
     intro p hp
     rcases List.mem_append.1 hp with hp | hp
     ·exact g.pend p hp
     ·simp only [List.mem_singleton] at hp
      subst hp
      exact hc.2.2.2.1 (by omega)
 split at hs
 ·split at hs
  ·cases hs
  ·split at hs
   ·cases hs;exact ⟨rfl,by omega,by omega,same _ rfl rfl (by simp) (by simp)⟩
   ·cases hs;exact ⟨rfl,by omega,by omega,same _ rfl rfl rfl (by simp)⟩
 split at hs
 ·split at hs
  ·cases hs
  ·cases hs;exact ⟨rfl,by omega,by omega,same _ rfl rfl rfl rfl⟩
 split at hs
 ·cases hs;exact ⟨rfl,by omega,by omega,same _ rfl rfl rfl (by simp)⟩
 split at hs
 ·cases hs;exact ⟨rfl,by omega,by omega,same _ rfl rfl rfl (by simp)⟩
 split at hs
 ·have:=hc.2.2.2.2.2 (by omega)
  cases hs;exact ⟨rfl,by omega,by omega,same _ rfl rfl rfl rfl⟩
 ·cases hs;exact ⟨rfl,by omega,by omega,same _ rfl rfl rfl rfl⟩
theorem turn_wf {L:Lt} {o:Int} {N:Nat} {s:LS} (hL:checkB L=true) (h:WfS L o N s) (t:Tn):WfS L o (N+1) (turnS L o s t).1:=by
 unfold turnS
 split
 ·next ht =>
  have hk:t.thr.toNat<L.thr.length:=by omega
  split
  ·exact out_wf h hk _
  ·split
   ·exact h.mono (Nat.le_succ _)
   ·next hp =>
    have g:=h.thr _ hk
    have hpl:(s.places.getD t.thr.toNat 0).toNat<(L.thr.getD t.thr.toNat []).length:=by have:=g.p0;have:=g.p1;omega
    have hc:=(fits_at hL hk).2 _ (show (L.thr.getD t.thr.toNat []).getD (s.places.getD t.thr.toNat 0).toNat in0∈_ by rw [List.getD_eq_getElem?_getD (l:=L.thr.getD t.thr.toNat []),List.getElem?_eq_getElem hpl];exact List.getElem_mem hpl)
    split
    ·exact h.mono (Nat.le_succ _)
    ·next s' f hs =>
     obtain ⟨e1,f1,f2,hw⟩:=step_wf h hk hc hs
     refine ⟨hw.w,hw.r,by simpa using hw.p,hw.b,fun u hu=>?_⟩
     have gu:=hw.thr u hu
     have gk:=hw.thr _ hk
     refine ⟨?_,?_,gu.b,gu.sc,gu.pend⟩
     ·simp only;rw [getD_setE]
      have h1:=gk.p0;have h2:=gk.p1;have h3:=gu.p0
      split
      ·split <;> omega
      ·exact h3
     ·simp only;rw [getD_setE]
      have h2:=gu.p1
      split
      ·next e =>
       rw [← e.1]
       split <;> omega
      ·exact h2
 ·exact h.mono (Nat.le_succ _)
end Go.Proofs.Ytmcpdafmkkjlcaa.Z
namespace Go.Proofs.Ytmcpdafmkkjlcaa.Z
open Go Go.RowKit
def one1' (v:Value):List Value:=[v]
def nest0:Value:=.slice none 0 0
def Nest {α:Type} (w:World) (enc:α→List Value) (s:Nat) (v:Value) (ls:List (List α)):Prop :=
 ∃ vs:List Value,Arr w one1' 1 v vs∧vs.length=ls.length∧∀ k,k<ls.length→Arr w enc s (vs.getD k nest0) (ls.getD k [])
def nestF (i n:Nat) (low:Nat:=0):ArrF:=⟨n,1,fun k=>[.xv (i,k,0)],low⟩
theorem nestF_len (i n low:Nat):(nestF i n low).len=n:=rfl
theorem nestF_size (i n low:Nat):(nestF i n low).size=1:=rfl
theorem nestF_at (i n low k:Nat):(nestF i n low).at_ k=[.xv (i,k,0)]:=rfl
theorem arrAt_keep {E:Env} {w w' : World} {x:Nm} {A:ArrF} (h:ArrAt E w x A) (hk:∀ n,n<w.heap.size→w'.heap[n]? = w.heap[n]?):ArrAt E w' x A:=by
 obtain ⟨ba,cap,h1,h2,h3,h4⟩:=h
 refine ⟨ba,cap,h1,h2,h3,h4.imp id ?_⟩
 rintro ⟨b,off,g1,g2,g3⟩
 refine ⟨b,off,g1,g2,fun k hk'=>⟨(g3 k hk').1,fun j u hu=>⟨?_,((g3 k hk').2 j u hu).2⟩⟩⟩
 have hu:=((g3 k hk').2 j u hu).1
 have hb:b<w.heap.size:=by
  unfold World.cell? at hu
  cases he:w.heap[b]? with
  | none=>simp [he] at hu
  | some o=>exact (Array.getElem?_eq_some_iff.1 he).1
 unfold World.cell? at hu ⊢
 simp only at hu ⊢
 rw [hk _ hb]
 exact hu
def EL (vals:List (Nat→Value)):Env:=⟨fun _=>0,fun _=>0,fun _=>false,fun x=>(vals.getD x.1 fun _=>nest0) x.2.1⟩
def AgV (vals:List (Nat→Value)) (E:Env):Prop:=∀ i k l,i<vals.length→E.χ (i,k,l)=(vals.getD i fun _=>nest0) k
def Reads (w:World) (vals:List (Nat→Value)) (arrs:List (Nat×Fm ArrF)):Prop:=∀ E,AgV vals E→∀ x A,atN arrs x=some A→ArrAt E w x A
def OnesV:List (Nat→Value)→Prop
 | []=>True
 | f :: l=>(∀ k,(f k).oneCell' = true)∧OnesV l
theorem onesV_at {vals:List (Nat→Value)} (h:OnesV vals):∀ i k,((vals.getD i fun _=>nest0) k).oneCell' = true:=by
 induction vals with
 | nil=>intro i k;rfl
 | cons f l ih =>
  intro i k
  cases i with
  | zero=>exact h.1 k
  | succ i=>simpa using ih h.2 i k
theorem rd_nil {w:World} {vals:List (Nat→Value)}:Reads w vals []:=fun E hE x A h=>(atN_nil h).elim
theorem rd_one {α:Type} {w:World} {vals:List (Nat→Value)} {r:List (Nat×Fm ArrF)} {enc:α→List Value} {s:Nat} {xs:List α} {v:Value} (i:Nat) (d:α) (T:EncT enc s) (h:Arr w enc s v xs) (hi:i<vals.length) (hv:(vals.getD i fun _=>nest0) 0=v) (hr:Reads w vals r):Reads w vals ((i,.one (arrOf enc s xs d)) :: r):=by
 intro E hE x A hA
 rcases atN_one hA with ⟨rfl,rfl⟩ | hA
 ·exact arrAt_of T (by rw [hE i 0 0 hi,hv];exact h)
 ·exact hr E hE x A hA
theorem atN_fam {α:Type} {i n:Nat} {f:Nat→α} {r:List (Nat×Fm α)} {x:Nm} {A:α} (h:atN ((i,.fam n f) :: r) x=some A):(∃ k,k<n∧x=(i,k,0)∧A=f k)∨atN r x=some A:=by
 obtain ⟨a,b,c⟩:=x
 simp only [atN,look_cons] at h ⊢
 by_cases e:i=a
 ·subst e
  rw [if_pos rfl] at h
  simp only [Fm.get] at h
  split at h
  ·next e=>obtain ⟨e1,rfl⟩:=e;cases h;exact Or.inl ⟨b,e1,rfl,rfl⟩
  ·cases h
 ·rw [if_neg e] at h
  exact Or.inr h
theorem rd_nest {α:Type} {w:World} {vals:List (Nat→Value)} {r:List (Nat×Fm ArrF)} {enc:α→List Value} {s:Nat} {ls:List (List α)} {v:Value} {vs:List Value} (j i:Nat) (d:α) (T:EncT enc s) (h:Arr w one1' 1 v vs) (hl:vs.length=ls.length) (hk:∀ k,k<ls.length→Arr w enc s (vs.getD k nest0) (ls.getD k []))
  (hj:j<vals.length) (hi:i<vals.length) (hv:(vals.getD j fun _=>nest0) 0=v) (hvs:∀ k,(vals.getD i fun _=>nest0) k=vs.getD k nest0) (hr:Reads w vals r):Reads w vals ((j,.one (nestF i ls.length)) :: (i,.fam ls.length fun k=>arrOf enc s (ls.getD k []) d) :: r):=by
 intro E hE x A hA
 rcases atN_one hA with ⟨rfl,rfl⟩ | hA
 ·obtain ⟨ba,cap,h1,h2,h3,h4⟩:=h
  refine ⟨ba,cap,by rw [hE j 0 0 hj,hv,h1,hl];rfl,by rw [← hl] at *;exact h2,h3,?_⟩
  rcases h4 with h4 | ⟨b,off,g1,g2⟩
  ·left;rw [h4] at hl;exact hl.symm
  ·right
   refine ⟨b,off,g1,Nat.zero_le _,fun k hk'=>⟨rfl,fun q u hu=>?_⟩⟩
   have hk' : k<ls.length:=hk'
   have hq:q=0∧u = .xv (i,k,0):=by
    simp only [nestF] at hu
    cases q with
    | zero=>simp at hu;exact ⟨rfl,hu.symm⟩
    | succ q=>simp at hu
   obtain ⟨rfl,rfl⟩:=hq
   have e:(SC.xv (i,k,0)).den E=vs.getD k nest0:=by simp only [SC.den];rw [hE i k 0 hi,hvs]
   rw [e]
   refine ⟨?_,arr_one (hk k hk')⟩
   exact g2 k (vs.getD k nest0) (by rw [List.getD_eq_getElem?_getD,List.getElem?_eq_getElem (by omega)];rfl) 0 _ rfl
 rcases atN_fam hA with ⟨k,hkn,rfl,rfl⟩ | hA
 ·exact arrAt_of T (by rw [hE i k 0 hi,hvs];exact hk k hkn)
 ·exact hr E hE x A hA
theorem enterL {P:Program} {A:List Nat} {f nt:Nat} {fn:Func} {x:Code} {c:IR} {w:World} {rs:List RS} {R:Ending→World→Prop} (vals:List (Nat→Value)) (hone:OnesV vals) {arrs:List (Nat×Fm ArrF)} (hr:Reads w vals arrs) (sc:List SV) (args:Array Value)
  (hf:P.funcs[f]? = some fn) (hb:fn.body=some x) (hc:compC (mkTab P A) x=some c.strip) (hrs:compR (mkTab P A).T fn.results.toList=some rs) (hn:fn.ntmps=nt)
  (hargs:∀ E',AgV vals E'→(sc.map (SV.den E')).toArray=args) (hnt:sc.length≤nt)
  (hex:exec (mkC P A w rs R) 1000 [.code c] ⟨nt,enumT 0 sc,[],arrs,[],vals.length⟩):Calls P f args w R:=by
 have hag:∀ E' : Env,AgreeD (· < vals.length) (EL vals) E'→AgV vals E':=fun E' hE' i k l hi=>(hE' (i,k,l) hi).2.2.2
 exact calls_sym (c:=c) (C:=mkC P A w rs R) 1000 sc (EL vals) [] arrs [] vals.length nt args (mkTab_ok _ _) hf hb hc hrs hn rfl rfl (fun x=>onesV_at hone x.1 x.2.1) (fun E' hE'=>hargs E' (hag E' hE')) hnt
  (fun E' hE'=>inOk_arrs fun w' hw' x A' hA=>arrAt_keep (hr E' (hag E' hE') x A' hA) hw') hex
theorem nest_at {C:Ctx} {E:Env} {S:St} {a:Act} {w:World} (hs:Sat C.B C.W C.w0 E S a w) {α:Type} {enc:α→List Value} {s:Nat} {ls:List (List α)} {d:α} {lw:Nat} {lv:Nat→Nat} (j:Nm) (i:Nat) (hj:atN S.arrs j=some (nestF i ls.length lw)) (hi:∀ k,k<ls.length→atN S.arrs (i,k,0)=some (arrOf enc s (ls.getD k []) d (lv k))):Nest w enc s (E.χ j) ls:=by
 refine ⟨(List.range ls.length).map fun k=>E.χ (i,k,0),?_,by simp,fun k hk=>?_⟩
 ·obtain ⟨ba,cap,h1,h2,h3,h4⟩:=hs.arr hj
  refine ⟨ba,cap,by rw [h1];simp [nestF],by simpa [nestF] using h2,h3,?_⟩
  rcases h4 with h4 | ⟨b,off,g1,_,g2⟩
  ·left
   simp only [nestF] at h4
   simp [h4]
  ·right
   refine ⟨b,off,g1,fun k x hx q u hu=>?_⟩
   have hk:k<ls.length:=by
    have:=(List.getElem?_eq_some_iff.1 hx).1
    simpa using this
   simp [hk] at hx
   subst hx
   cases q with
   | zero =>
    simp only [one1',List.getElem?_cons_zero,Option.some.injEq] at hu
    subst hu
    have:=((g2 k hk).2 0 (.xv (i,k,0)) rfl).1
    simpa [SC.den,nestF] using this
   | succ q=>simp [one1'] at hu
 ·have:((List.range ls.length).map fun k=>E.χ (i,k,0)).getD k nest0=E.χ (i,k,0):=by simp [List.getD_eq_getElem?_getD,hk]
  rw [this]
  exact arr_of (d:=d) (hs.arr (hi k hk))
theorem arr_ownX {C:Ctx} {E:Env} {S:St} {a:Act} {w:World} (hs:Sat C.B C.W C.w0 E S a w) {α:Type} {ty s:Nat} {enc:α→List Value} {ys:List α} {d:α} (x:Nm) (k n:Nat) (at_:Nat→List SC) (hat:atN S.own x=some (.ar k s at_ ty)) (hn:n=ys.length) (hk:ys.length≤k)
  (ha:∀ e,e<ys.length→at_ e=ats enc ys d e):Arr w enc s ((SC.sl x s 0 n none).den E) ys:=by
 subst hn
 obtain ⟨H,hH,_⟩:=hs.mem
 rcases ar_heap hH hat with ⟨h1,h2,h3,_⟩ | ⟨h1,h2,h3,cells,h4,h5,h6,h7⟩
 ·have h0:ys=[]:=List.eq_nil_of_length_eq_zero (by omega)
  subst h0
  exact ⟨if E.ν x=true then none else some ⟨E.ρ x,0,none⟩,0,by simp [SC.den,h2],Nat.le_refl _,by simp [maxLen],Or.inl rfl⟩
 ·refine ⟨some ⟨E.ρ x,0,none⟩,E.κ x,by simp [SC.den,h1],by omega,h3,Or.inr ⟨_,_,rfl,fun e y hy j u hu=>?_⟩⟩
  rw [cell_of_row w _ _ _ ty (0,0) h5,Nat.zero_add]
  have he:e<ys.length:=(List.getElem?_eq_some_iff.1 hy).1
  have:=((h7 e (by omega)).2 j (.v u) (by
   rw [ha e he]
   have:ys.getD e d=y:=by rw [List.getD_eq_getElem?_getD,hy];rfl
   simp only [ats,this,List.getElem?_map,hu];rfl)).1
  rw [den_v] at this
  exact this
theorem nest_own {C:Ctx} {E:Env} {S:St} {a:Act} {w:World} (hs:Sat C.B C.W C.w0 E S a w) {α:Type} {enc:α→List Value} {s ty ty2:Nat} {ls:List (List α)} {d:α} (j:Nm) (i n:Nat) (hn:n=ls.length) (at_:Nat→List SC) (hj:atN S.own j=some (.ar n 1 at_ ty)) (ha:∀ k,k<n→at_ k=[.sl (i,k,0) s 0 (ls.getD k []).length none])
  (hi:∀ k,k<ls.length→atN S.own (i,k,0)=some (.ar (ls.getD k []).length s (ats enc (ls.getD k []) d) ty2)):Nest w enc s ((SC.sl j 1 0 n none).den E) ls:=by
 subst hn
 refine ⟨(List.range ls.length).map fun k=>(SC.sl (i,k,0) s 0 (ls.getD k []).length none).den E,?_,by simp,fun k hk=>?_⟩
 ·obtain ⟨H,hH,_⟩:=hs.mem
  rcases ar_heap hH hj with ⟨h1,h2,h3,_⟩ | ⟨h1,h2,h3,cells,h4,h5,h6,h7⟩
  ·have h0:ls=[]:=List.eq_nil_of_length_eq_zero h3
   subst h0
   exact ⟨if E.ν j=true then none else some ⟨E.ρ j,0,none⟩,0,by simp [SC.den,h2],Nat.le_refl _,by simp [maxLen],Or.inl rfl⟩
  ·refine ⟨some ⟨E.ρ j,0,none⟩,E.κ j,by simp [SC.den,h1],by simpa using h2.1,h3,Or.inr ⟨_,_,rfl,fun e y hy q u hu=>?_⟩⟩
   rw [cell_of_row w _ _ _ ty (0,0) h5,Nat.zero_add]
   have he:e<ls.length:=by
    have:=(List.getElem?_eq_some_iff.1 hy).1
    simpa using this
   simp [he] at hy
   subst hy
   cases q with
   | zero =>
    simp only [one1',List.getElem?_cons_zero,Option.some.injEq] at hu
    subst hu
    exact ((h7 e he).2 0 _ (by rw [ha e he];simp [he])).1
   | succ q=>simp [one1'] at hu
 ·have:((List.range ls.length).map fun k=>(SC.sl (i,k,0) s 0 (ls.getD k []).length none).den E).getD k nest0=(SC.sl (i,k,0) s 0 (ls.getD k []).length none).den E:=by rw [List.getD_eq_getElem?_getD,List.getElem?_map,List.getElem?_range hk];rfl
  rw [this]
  exact arr_ownX (d:=d) hs (i,k,0) _ _ _ (hi k hk) rfl (Nat.le_refl _) fun _ _=>rfl
end Go.Proofs.Ytmcpdafmkkjlcaa.Z
namespace Go.Proofs.Ytmcpdafmkkjlcaa.Z
open Go Go.RowKit
attribute [go_sem] nestF_len nestF_size nestF_at
theorem arrLe_nest {p:Nat→Prop} {τ:Nat→Nat} {i n lw:Nat} (hp:p i) (hτ:τ i=i):ArrLe p (idσ τ) (nestF i n lw) (nestF i n lw):=by
 refine ⟨rfl,rfl,fun e _=>⟨?_,?_⟩,Nat.le_refl _⟩
 ·simp [nestF,SC.renL,SC.ren,idσ,hτ]
 ·simp [nestF,SC.okL,SC.okN,hp]
def LtR (w:World) (v:Value) (L:Lt):Prop:=∃ vw vt,v = .agg #[vw,vt]∧Arr w eI 1 vw L.words∧Nest w Ins.enc 7 vt L.thr
def ltA (i:Nat) (L:Lt):List (Nat×Fm ArrF):=[(i,.one (arrOf eI 1 L.words 0)),(i+1,.one (nestF (i+2) L.thr.length)),(i+2,.fam L.thr.length fun k=>arrOf Ins.enc 7 (L.thr.getD k []) in0)]
def ltS (i:Nat):List SC:=[.xv (i,0,0),.xv (i+1,0,0)]
theorem enterLt {P:Program} {A:List Nat} {f nt:Nat} {fn:Func} {x:Code} {c:IR} {w:World} {rs:List RS} {R:Ending→World→Prop} {v:Value} {L:Lt} (h:LtR w v L) (sc:List SV) (args:Array Value)
  (hf:P.funcs[f]? = some fn) (hb:fn.body=some x) (hc:compC (mkTab P A) x=some c.strip) (hrs:compR (mkTab P A).T fn.results.toList=some rs) (hn:fn.ntmps=nt)
  (hargs:∀ E',(SV.agg (ltS 0)).den E' = v→(sc.map (SV.den E')).toArray=args) (hnt:sc.length≤nt)
  (hex:exec (mkC P A w rs R) 1000 [.code c] ⟨nt,enumT 0 sc,[],ltA 0 L,[],3⟩):Calls P f args w R:=by
 obtain ⟨vw,vt,rfl,h1,vs,h2,h3,h4⟩:=h
 refine enterL [fun _=>vw,fun _=>vt,fun k=>vs.getD k nest0] ⟨fun _=>arr_one h1,fun _=>arr_one h2,fun k=>?_,trivial⟩ (rd_one 0 0 eI_ok h1 (by simp) rfl (rd_nest 1 2 in0 in_ok h2 h3 h4 (by simp) (by simp) rfl (fun _=>rfl) rd_nil)) sc args hf hb hc hrs hn (fun E' hE'=>hargs E' ?_) hnt hex
 ·by_cases hk:k<L.thr.length
  ·exact arr_one (h4 k hk)
  ·show (vs.getD k nest0).oneCell' = true
   rw [List.getD_eq_getElem?_getD,List.getElem?_eq_none (by omega)];rfl
 ·have e0:=hE' 0 0 0 (by simp)
  have e1:=hE' 1 0 0 (by simp)
  simp only [ltS,SV.den,List.map_cons,List.map_nil,SC.den,e0,e1]
  rfl
theorem lt_at {C:Ctx} {E:Env} {S:St} {a:Act} {w:World} (hs:Sat C.B C.W C.w0 E S a w) {L:Lt} (i:Nat) {lw lv:Nat} {lf:Nat→Nat} (h0:atN S.arrs (i,0,0)=some (arrOf eI 1 L.words 0 lv)) (h1:atN S.arrs (i+1,0,0)=some (nestF (i+2) L.thr.length lw)) (h2:∀ k,k<L.thr.length→atN S.arrs (i+2,k,0)=some (arrOf Ins.enc 7 (L.thr.getD k []) in0 (lf k))):LtR w ((SV.agg (ltS i)).den E) L :=
 ⟨E.χ (i,0,0),E.χ (i+1,0,0),by simp [ltS,SV.den,SC.den],arr_at (d:=0) hs i h0,nest_at hs (i+1,0,0) (i+2) h1 h2⟩
def ir72:IR:=(.seq (.ops [⟨(some 4),(.mv (.k (.c (.v (.bool false))))),none⟩]) (.kill [2,3,4,5,6,7,8,9,10,11] (.seq (.ops [⟨(some 5),(.mv (.t 0)),none⟩,⟨(some 6),(.bin .geq (.t 5) (.k (.c (.v (.int .i64 0))))),none⟩,⟨(some 7),(.mv (.t 6)),none⟩,⟨(some 8),(.mv (.t 0)),(some (7,true))⟩,⟨(some 9),(.mv (.t 1)),(some (7,true))⟩,⟨(some 10),(.bin .lss (.t 8) (.t 9)),(some (7,true))⟩,⟨(some 11),(.pick (.t 7) (.t 10) (.k (.c (.v (.bool false))))),none⟩,⟨(some 4),(.mv (.t 11)),none⟩]) (.kill [0,1,5,6,7,8,9,10,11] .ret))))
def rs72:List RS:=[(.t 4)]
def nt72:Nat:=12
def ir42:IR:=(.seq (.ops [⟨(some 2),(.box 25 (.t 0)),none⟩,⟨(some 3),(.box 83 (.t 1)),none⟩,⟨(some 4),(.mv (.k (.c (.v (.bool false))))),none⟩]) (.kill [0,1,4,5,6,7,8,9,10,11] (.seq (.draw [(⟨(some 7),(.fa 1 (.t 3)),none⟩,([],[10,11,12,13,14])),(⟨(some 8),(.ld false 1 (.t 7)),none⟩,([],[10,11,12,13,14])),(⟨(some 9),(.call 72 [(.t 8),(.k (.c (.v (.int .i64 4))))]),none⟩,([],[10,11,12,13,14])),(⟨(some 10),(.fa 2 (.t 3)),none⟩,([0,1,2],[7,8,9,12,13,14])),(⟨(some 11),(.ld false 1 (.t 10)),none⟩,([0,1,2],[7,8,9,12,13,14])),(⟨(some 12),(.fa 0 (.t 2)),none⟩,([0,1,2,3,4],[7,8,9,10,11])),(⟨(some 13),(.ld false 1 (.t 12)),none⟩,([0,1,2,3,4],[7,8,9,10,11])),(⟨(some 14),(.len (.t 13)),none⟩,([0,1,2,3,4],[7,8,9,10,11])),(⟨(some 15),(.call 72 [(.t 11),(.t 14)]),none⟩,([],[])),(⟨(some 5),(.mv (.t 9)),none⟩,([],[])),(⟨(some 6),(.mv (.t 15)),none⟩,([],[]))]) (.kill [2,7,8,9,10,11,12,13,14,15] (.seq (.seq (.ops [⟨(some 16),(.fa 0 (.t 3)),none⟩,⟨(some 17),(.ld false 1 (.t 16)),none⟩]) (.kill [16] (.blk 0 (.seq (.seq (.ops [⟨(some 19),(.bin .eql (.t 17) (.k (.c (.v (.int .i64 1))))),none⟩,⟨(some 18),(.mv (.t 19)),none⟩]) (.kill [19] (.cond (.t 18) .skip (.ops [⟨(some 20),(.bin .eql (.t 17) (.k (.c (.v (.int .i64 3))))),none⟩,⟨(some 18),(.mv (.t 20)),none⟩])))) (.kill [20] (.cond (.t 18) (.seq (.ops [⟨(some 21),(.mv (.t 5)),none⟩,⟨(some 22),(.mv (.t 21)),none⟩,⟨(some 23),(.mv (.t 6)),(some (22,true))⟩,⟨(some 24),(.pick (.t 22) (.t 23) (.k (.c (.v (.bool false))))),none⟩,⟨(some 4),(.mv (.t 24)),none⟩]) (.kill [3,5,6,17,18,21,22,23,24] .ret)) (.seq (.ops [⟨(some 26),(.bin .eql (.t 17) (.k (.c (.v (.int .i64 2))))),none⟩,⟨(some 25),(.mv (.t 26)),none⟩]) (.kill [18,26] (.cond (.t 25) (.seq (.ops [⟨(some 27),(.mv (.t 6)),none⟩,⟨(some 28),(.mv (.t 27)),none⟩,⟨(some 29),(.fa 4 (.t 3)),(some (28,true))⟩,⟨(some 30),(.ld false 1 (.t 29)),(some (28,true))⟩,⟨(some 31),(.bin .add (.t 30) (.k (.c (.v (.int .i64 1))))),(some (28,true))⟩,⟨(some 32),(.call 72 [(.t 31),(.k (.c (.v (.int .i64 5))))]),(some (28,true))⟩,⟨(some 33),(.pick (.t 28) (.t 32) (.k (.c (.v (.bool false))))),none⟩,⟨(some 4),(.mv (.t 33)),none⟩]) (.kill [3,5,6,17,25,27,28,29,30,31,32,33] .ret)) (.seq (.ops [⟨(some 35),(.bin .eql (.t 17) (.k (.c (.v (.int .i64 4))))),none⟩,⟨(some 34),(.mv (.t 35)),none⟩]) (.kill [6,25,35] (.cond (.t 34) (.seq (.ops [⟨(some 4),(.mv (.k (.c (.v (.bool true))))),none⟩]) (.kill [3,5,17,34] .ret)) (.seq (.seq (.ops [⟨(some 37),(.bin .eql (.t 17) (.k (.c (.v (.int .i64 5))))),none⟩,⟨(some 36),(.mv (.t 37)),none⟩]) (.kill [34,37] (.cond (.t 36) .skip (.ops [⟨(some 38),(.bin .eql (.t 17) (.k (.c (.v (.int .i64 6))))),none⟩,⟨(some 36),(.mv (.t 38)),none⟩])))) (.kill [38] (.cond (.t 36) (.seq (.ops [⟨(some 39),(.mv (.t 5)),none⟩,⟨(some 4),(.mv (.t 39)),none⟩]) (.kill [3,5,17,36,39] .ret)) (.seq (.ops [⟨(some 41),(.bin .eql (.t 17) (.k (.c (.v (.int .i64 7))))),none⟩,⟨(some 40),(.mv (.t 41)),none⟩]) (.kill [17,36,41] (.cond (.t 40) (.seq (.ops [⟨(some 42),(.mv (.t 5)),none⟩,⟨(some 43),(.mv (.t 42)),none⟩,⟨(some 44),(.fa 6 (.t 3)),(some (43,true))⟩,⟨(some 45),(.ld false 1 (.t 44)),(some (43,true))⟩,⟨(some 46),(.call 72 [(.t 45),(.k (.c (.v (.int .i64 11))))]),(some (43,true))⟩,⟨(some 47),(.pick (.t 43) (.t 46) (.k (.c (.v (.bool false))))),none⟩,⟨(some 4),(.mv (.t 47)),none⟩]) (.kill [3,5,40,42,43,44,45,46,47] .ret)) .skip)))))))))))))))))) (.kill [3,4,5,6,17,18,19,20,21,22,23,24,25,26,27,28,29,30,31,32,33,34,35,36,37,38,39,40,41,42,43,44,45,46,47] (.seq (.ops [⟨(some 4),(.mv (.k (.c (.v (.bool false))))),none⟩]) .ret)))))))
def rs42:List RS:=[(.t 4)]
def nt42:Nat:=48
def ir43:IR:=(.seq (.ops [⟨(some 2),(.box 83 (.t 0)),none⟩,⟨(some 4),(.mv (.k (.c (.v (.bool false))))),none⟩]) (.kill [0,3,4,5,6,7,8,9,10,11] (.seq (.ops [⟨(some 6),(.fa 0 (.t 2)),none⟩,⟨(some 7),(.ld false 1 (.t 6)),none⟩,⟨(some 5),(.mv (.t 7)),none⟩]) (.kill [6,7] (.seq (.seq (.ops [⟨(some 8),(.mv (.t 5)),none⟩,⟨(some 9),(.bin .lss (.t 8) (.k (.c (.v (.int .i64 1))))),none⟩,⟨(some 10),(.mv (.t 9)),none⟩,⟨(some 11),(.mv (.t 5)),(some (10,false))⟩,⟨(some 12),(.bin .gtr (.t 11) (.k (.c (.v (.int .i64 7))))),(some (10,false))⟩,⟨(some 13),(.pick (.t 10) (.k (.c (.v (.bool true)))) (.t 12)),none⟩]) (.kill [8,9,10,11,12] (.cond (.t 13) (.seq (.ops [⟨(some 4),(.mv (.k (.c (.v (.bool false))))),none⟩]) (.kill [1,2,5,13] .ret)) .skip))) (.kill [4,13] (.seq (.seq (.ops [⟨(some 14),(.mv (.t 5)),none⟩,⟨(some 15),(.bin .neq (.t 14) (.k (.c (.v (.int .i64 2))))),none⟩,⟨(some 16),(.mv (.t 15)),none⟩,⟨(some 17),(.mv (.t 5)),(some (16,true))⟩,⟨(some 18),(.bin .neq (.t 17) (.k (.c (.v (.int .i64 4))))),(some (16,true))⟩,⟨(some 19),(.pick (.t 16) (.t 18) (.k (.c (.v (.bool false))))),none⟩,⟨(some 20),(.mv (.t 19)),none⟩,⟨(some 21),(.fa 1 (.t 2)),(some (20,true))⟩,⟨(some 22),(.ld false 1 (.t 21)),(some (20,true))⟩,⟨(some 23),(.bin .lss (.t 22) (.k (.c (.v (.int .i64 0))))),(some (20,true))⟩,⟨(some 24),(.mv (.t 23)),(some (20,true))⟩,⟨(some 25),(.fa 1 (.t 2)),(some (24,false))⟩,⟨(some 26),(.ld false 1 (.t 25)),(some (24,false))⟩,⟨(some 27),(.bin .geq (.t 26) (.k (.c (.v (.int .i64 4))))),(some (24,false))⟩,⟨(some 28),(.pick (.t 24) (.k (.c (.v (.bool true)))) (.t 27)),(some (20,true))⟩,⟨(some 29),(.pick (.t 20) (.t 28) (.k (.c (.v (.bool false))))),none⟩]) (.kill [14,15,16,17,18,19,20,21,22,23,24,25,26,27,28] (.cond (.t 29) (.seq (.ops [⟨(some 4),(.mv (.k (.c (.v (.bool false))))),none⟩]) (.kill [1,2,5,29] .ret)) .skip))) (.kill [4,29] (.seq (.seq (.ops [⟨(some 30),(.mv (.t 5)),none⟩,⟨(some 31),(.bin .leq (.t 30) (.k (.c (.v (.int .i64 3))))),none⟩,⟨(some 32),(.mv (.t 31)),none⟩,⟨(some 33),(.fa 2 (.t 2)),(some (32,true))⟩,⟨(some 34),(.ld false 1 (.t 33)),(some (32,true))⟩,⟨(some 35),(.bin .lss (.t 34) (.k (.c (.v (.int .i64 0))))),(some (32,true))⟩,⟨(some 36),(.mv (.t 35)),(some (32,true))⟩,⟨(some 37),(.fa 2 (.t 2)),(some (36,false))⟩,⟨(some 38),(.ld false 1 (.t 37)),(some (36,false))⟩,⟨(some 39),(.mv (.t 1)),(some (36,false))⟩,⟨(some 40),(.bin .geq (.t 38) (.t 39)),(some (36,false))⟩,⟨(some 41),(.pick (.t 36) (.k (.c (.v (.bool true)))) (.t 40)),(some (32,true))⟩,⟨(some 42),(.pick (.t 32) (.t 41) (.k (.c (.v (.bool false))))),none⟩]) (.kill [1,30,31,32,33,34,35,36,37,38,39,40,41] (.cond (.t 42) (.seq (.ops [⟨(some 4),(.mv (.k (.c (.v (.bool false))))),none⟩]) (.kill [2,5,42] .ret)) .skip))) (.kill [4,42] (.seq (.seq (.ops [⟨(some 43),(.mv (.t 5)),none⟩,⟨(some 44),(.bin .eql (.t 43) (.k (.c (.v (.int .i64 2))))),none⟩,⟨(some 45),(.mv (.t 44)),none⟩,⟨(some 46),(.fa 4 (.t 2)),(some (45,true))⟩,⟨(some 47),(.ld false 1 (.t 46)),(some (45,true))⟩,⟨(some 48),(.bin .lss (.t 47) (.k (.c (.v (.int .i64 (-1)))))),(some (45,true))⟩,⟨(some 49),(.mv (.t 48)),(some (45,true))⟩,⟨(some 50),(.fa 4 (.t 2)),(some (49,false))⟩,⟨(some 51),(.ld false 1 (.t 50)),(some (49,false))⟩,⟨(some 52),(.bin .geq (.t 51) (.k (.c (.v (.int .i64 4))))),(some (49,false))⟩,⟨(some 53),(.pick (.t 49) (.k (.c (.v (.bool true)))) (.t 52)),(some (45,true))⟩,⟨(some 54),(.pick (.t 45) (.t 53) (.k (.c (.v (.bool false))))),none⟩]) (.kill [43,44,45,46,47,48,49,50,51,52,53] (.cond (.t 54) (.seq (.ops [⟨(some 4),(.mv (.k (.c (.v (.bool false))))),none⟩]) (.kill [2,5,54] .ret)) .skip))) (.kill [4,54] (.seq (.ops [⟨(some 55),(.mv (.t 5)),none⟩,⟨(some 56),(.bin .neq (.t 55) (.k (.c (.v (.int .i64 7))))),none⟩,⟨(some 57),(.mv (.t 56)),none⟩,⟨(some 58),(.fa 6 (.t 2)),(some (57,false))⟩,⟨(some 59),(.ld false 1 (.t 58)),(some (57,false))⟩,⟨(some 60),(.bin .geq (.t 59) (.k (.c (.v (.int .i64 0))))),(some (57,false))⟩,⟨(some 61),(.mv (.t 60)),(some (57,false))⟩,⟨(some 62),(.fa 6 (.t 2)),(some (61,true))⟩,⟨(some 63),(.ld false 1 (.t 62)),(some (61,true))⟩,⟨(some 64),(.bin .leq (.t 63) (.k (.c (.v (.int .i64 10))))),(some (61,true))⟩,⟨(some 65),(.pick (.t 61) (.t 64) (.k (.c (.v (.bool false))))),(some (57,false))⟩,⟨(some 66),(.pick (.t 57) (.k (.c (.v (.bool true)))) (.t 65)),none⟩,⟨(some 4),(.mv (.t 66)),none⟩]) (.kill [2,5,55,56,57,58,59,60,61,62,63,64,65,66] .ret))))))))))))))
def rs43:List RS:=[(.t 4)]
def nt43:Nat:=67
set_option maxRecDepth 100000 in
set_option maxHeartbeats 400000 in
theorem withinL (w:World) (i n:Int):Calls Try.prog 72 #[.int .i64 i,.int .i64 n] w (RetV w (.bool (decide (0≤i∧i<n)))):=by
 refine enter0 (A:=[]) (c:=ir72) (rs:=rs72) (nt:=nt72) [.c (.v (.int .i64 i)),.c (.v (.int .i64 n))] #[.int .i64 i,.int .i64 n] Try.func72 rfl (by kernel_rfl) (by kernel_rfl) rfl (fun E'=>by simp [SV.den,SC.den]) (of_decide_eq_true rfl) ?_
 simp (maxSteps:=2000000) only [ir72,nt72,rs72,go_sem,↓gateS,↓runOp,↓reduceIte,Nat.reduceLT,Nat.reduceEqDiff,reduceCtorEq]
 refine retV fun E=>?_
 simp only [SV.den,SC.den,Value.bool.injEq]
 rw [Bool.eq_iff_iff]
 simp
def InR (c:Ins):Prop:=-9223372036854775808≤c.frm∧c.frm≤9223372036854775807
theorem frm_wrap {c:Ins} (h:InR c):(0≤IntKind.i64.wrap (c.frm+1)∧IntKind.i64.wrap (c.frm+1)<5)↔(-1≤c.frm∧c.frm<4):=by
 obtain ⟨h1,h2⟩:=h
 by_cases e:c.frm=9223372036854775807
 ·rw [e,show IntKind.i64.wrap ((9223372036854775807:Int)+1) = -9223372036854775808 from by decide]
  omega
 ·rw [wrI (by omega)]
  omega
set_option maxRecDepth 100000 in
set_option maxHeartbeats 400000 in
theorem fits_calls (w:World) (v:Value) (L:Lt) (c:Ins) (hr:InR c) (h:LtR w v L):Calls Try.prog 42 #[v,.agg c.enc.toArray] w (RetV w (.bool (fitsB c L.words.length))):=by
 refine enterLt (A:=[]) (c:=ir42) (rs:=rs42) (nt:=nt42) h [.agg (ltS 0),.agg (c.enc.map .v)] _ Try.func42 rfl (by kernel_rfl) (by kernel_rfl) rfl (fun E' h0=>by simp only [List.map_cons,List.map_nil,h0];simp [Ins.enc,SV.den,SC.den]) (of_decide_eq_true rfl) ?_
 have hw:=frm_wrap hr
 obtain ⟨kind,reg,addr,val,frm,old,cnt⟩:=c
 simp only at hw
 simp (maxSteps:=2000000) only [ir42,nt42,rs42,go_sem,↓runOp,↓reduceIte,Nat.reduceLT,Nat.reduceAdd,Nat.reduceEqDiff,reduceCtorEq,ltA,ltS,Ins.enc]
 refine draw_vc (by kernel_rfl) (mkTab_ok _ _) (of_decide_eq_true rfl) (of_decide_eq_true rfl) ?_
 repeat (first | simp (maxSteps:=2000000) only [go_sem,↓gateD,↓runD,↓reduceIte,Nat.reduceLT,Nat.reduceEqDiff] | rw [dr_cons])
 refine dcallV (.c (.bo (decide (0≤reg∧reg<4)))) _ (fun E=>rfl) (fun E a w' _=>withinL w' _ _) ?_
 repeat (first | simp (maxSteps:=2000000) only [go_sem,↓gateD,↓runD,↓reduceIte,Nat.reduceLT,Nat.reduceEqDiff] | rw [dr_cons])
 refine dcallV (.c (.bo (decide (0≤addr∧addr<(L.words.length:Nat))))) _ (fun E=>rfl) (fun E a w' _=>withinL w' _ _) ?_
 have dn:∀ {n:Int},kind≠n→(kind == n)=false:=fun h=>by simpa using h
 by_cases k1:kind=1
 ·subst k1
  repeat (first | simp (maxSteps:=2000000) only [go_sem,↓condS,↓gateS,↓runOp,↓gateD,↓runD,↓imp_tf,↓imp_tt,↓reduceIte,Nat.reduceLT,Nat.reduceEqDiff] | rw [dr_cons])
  exact retV fun E=>by
   simp only [SV.den,SC.den,Value.bool.injEq,fitsB]
   rw [Bool.eq_iff_iff]
   simp;try omega
 by_cases k2:kind=2
 ·subst k2
  repeat (first | simp (maxSteps:=2000000) only [go_sem,↓condS,↓gateS,↓runOp,↓gateD,↓runD,↓imp_ft,↓imp_tf,↓imp_tt,↓imp_ff,↓reduceIte,Nat.reduceLT,Nat.reduceEqDiff,Int.reduceBEq] | rw [dr_cons])
  refine guardW (.c (.bo (decide (0≤IntKind.i64.wrap (frm+1)∧IntKind.i64.wrap (frm+1)<5)))) _ (fun E=>rfl) (fun E a w' _=>withinL w' _ _) ?_
  simp (maxSteps:=2000000) only [go_sem,↓runOp,↓reduceIte,Nat.reduceLT,Nat.reduceEqDiff]
  exact retV fun E=>by
   simp only [SV.den,SC.den,Value.bool.injEq,fitsB,hw]
   rw [Bool.eq_iff_iff]
   simp;try omega
 by_cases k3:kind=3
 ·subst k3
  repeat (first | simp (maxSteps:=2000000) only [go_sem,↓condS,↓gateS,↓runOp,↓gateD,↓runD,↓imp_ft,↓imp_tf,↓imp_tt,↓imp_ff,↓reduceIte,Nat.reduceLT,Nat.reduceEqDiff,Int.reduceBEq] | rw [dr_cons])
  exact retV fun E=>by
   simp only [SV.den,SC.den,Value.bool.injEq,fitsB]
   rw [Bool.eq_iff_iff]
   simp;try omega
 by_cases k4:kind=4
 ·subst k4
  repeat (first | simp (maxSteps:=2000000) only [go_sem,↓condS,↓runOp,↓gateD,↓runD,↓imp_ft,↓imp_tf,↓imp_tt,↓imp_ff,↓reduceIte,Nat.reduceLT,Nat.reduceEqDiff,Int.reduceBEq] | rw [dr_cons])
  exact retV fun E=>by
   simp only [SV.den,SC.den,Value.bool.injEq,fitsB]
   rw [Bool.eq_iff_iff]
   simp;try omega
 by_cases k5:kind=5
 ·subst k5
  repeat (first | simp (maxSteps:=2000000) only [go_sem,↓condS,↓runOp,↓gateD,↓runD,↓imp_ft,↓imp_tf,↓imp_tt,↓imp_ff,↓reduceIte,Nat.reduceLT,Nat.reduceEqDiff,Int.reduceBEq] | rw [dr_cons])
  exact retV fun E=>by
   simp only [SV.den,SC.den,Value.bool.injEq,fitsB]
   rw [Bool.eq_iff_iff]
   simp;try omega
 by_cases k6:kind=6
 ·subst k6
  repeat (first | simp (maxSteps:=2000000) only [go_sem,↓condS,↓runOp,↓gateD,↓runD,↓imp_ft,↓imp_tf,↓imp_tt,↓imp_ff,↓reduceIte,Nat.reduceLT,Nat.reduceEqDiff,Int.reduceBEq] | rw [dr_cons])
  exact retV fun E=>by
   simp only [SV.den,SC.den,Value.bool.injEq,fitsB]
   rw [Bool.eq_iff_iff]
   simp;try omega
 by_cases k7:kind=7
 ·subst k7
  repeat (first | simp (maxSteps:=2000000) only [go_sem,↓condS,↓gateS,↓runOp,↓gateD,↓runD,↓imp_ft,↓imp_tf,↓imp_tt,↓imp_ff,↓reduceIte,Nat.reduceLT,Nat.reduceEqDiff,Int.reduceBEq] | rw [dr_cons])
  refine guardW (.c (.bo (decide (0≤cnt∧cnt<11)))) _ (fun E=>rfl) (fun E a w' _=>withinL w' _ _) ?_
  simp (maxSteps:=2000000) only [go_sem,↓runOp,↓reduceIte,Nat.reduceLT,Nat.reduceEqDiff]
  exact retV fun E=>by
   simp only [SV.den,SC.den,Value.bool.injEq,fitsB]
   rw [Bool.eq_iff_iff]
   simp;try omega
 repeat (first | simp (maxSteps:=2000000) only [go_sem,↓condS,↓runOp,↓gateD,↓runD,↓imp_ft,↓imp_ff,↓reduceIte,Nat.reduceLT,Nat.reduceEqDiff,dn k1,dn k2,dn k3,dn k4,dn k5,dn k6,dn k7] | rw [dr_cons])
 exact retV fun E=>by
  simp only [SV.den,SC.den,Value.bool.injEq,fitsB]
  rw [Bool.eq_iff_iff]
  simp;try omega
set_option maxRecDepth 100000 in
set_option maxHeartbeats 400000 in
theorem rfits_calls (w:World) (n:Nat) (c:Ins):Calls Try.prog 43 #[.agg c.enc.toArray,.int .i64 n] w (RetV w (.bool (fitsB c n))):=by
 refine enter0 (A:=[]) (c:=ir43) (rs:=rs43) (nt:=nt43) [.agg (c.enc.map .v),.c (.v (.int .i64 n))] #[.agg c.enc.toArray,.int .i64 n] Try.func43 rfl (by kernel_rfl) (by kernel_rfl) rfl (fun E'=>by simp [SV.den,SC.den,Ins.enc]) (of_decide_eq_true rfl) ?_
 obtain ⟨kind,reg,addr,val,frm,old,cnt⟩:=c
 simp (maxSteps:=2000000) only [ir43,nt43,rs43,go_sem,↓condS,↓gateS,↓runOp,↓reduceIte,Nat.reduceLT,Nat.reduceEqDiff,reduceCtorEq,Int.reduceNeg,Ins.enc]
 repeat' refine both (fun _=>?_) (fun _=>?_)
 all_goals refine retV (fun E=>?_)
 all_goals simp only [den_c,den_v,den_b,Value.bool.injEq,fitsB]
 all_goals simp only [b_decR,b_decL,bt_ite,bf_ite,bt_int,bt_nint,Bool.false_eq_true,Bool.true_eq_false,false_iff,iff_false,iff_true,and_true,and_false,or_false,false_or,ne_eq] at *
 all_goals omega
end Go.Proofs.Ytmcpdafmkkjlcaa.Z
namespace Go.Proofs.Ytmcpdafmkkjlcaa.Z
open Go Go.RowKit
def LtOk (L:Lt):Prop:=∀ code∈L.thr,∀ c∈code,InR c
theorem getD_memE {α:Type} {l:List α} {d:α} {k:Nat} (h:k<l.length):l.getD k d∈l:=by
 rw [List.getD_eq_getElem?_getD,List.getElem?_eq_getElem h];exact List.getElem_mem h
theorem check_iff {L:Lt}:checkB L=true↔(1≤L.thr.length∧L.thr.length≤4∧1≤L.words.length∧L.words.length≤6)∧∀ t,t<L.thr.length→(L.thr.getD t []).length≤10∧∀ i,i<(L.thr.getD t []).length→fitsB ((L.thr.getD t []).getD i in0) L.words.length=true:=by
 simp only [checkB,Bool.and_eq_true,decide_eq_true_eq,List.all_eq_true,codeB]
 refine and_congr Iff.rfl ⟨fun h t ht=>?_,fun h code hc=>?_⟩
 ·obtain ⟨h1,h2⟩:=h _ (getD_memE ht)
  exact ⟨h1,fun i hi=>h2 _ (getD_memE hi)⟩
 ·obtain ⟨t,ht,rfl⟩:=List.getElem_of_mem hc
  have:=h t ht
  rw [List.getD_eq_getElem?_getD,List.getElem?_eq_getElem ht,Option.getD_some] at this
  refine ⟨this.1,fun c hc=>?_⟩
  obtain ⟨i,hi,rfl⟩:=List.getElem_of_mem hc
  have:=this.2 i hi
  rwa [List.getD_eq_getElem?_getD,List.getElem?_eq_getElem hi,Option.getD_some] at this
theorem ltL_at {C:Ctx} {E:Env} {S:St} {a:Act} {w:World} (hs:Sat C.B C.W C.w0 E S a w) {L:Lt} (h0:look S.arrs 0=some (.one (arrOf eI 1 L.words 0))) (h1:look S.arrs 1=some (.one (nestF 2 L.thr.length))) (h2:look S.arrs 2=some (.fam L.thr.length fun k=>arrOf Ins.enc 7 (L.thr.getD k []) in0)):LtR w ((SV.agg [.xv (0,0,0),.xv (1,0,0)]).den E) L :=
 lt_at hs 0 (by simp [atN,h0,Fm.get];rfl) (by simp [atN,h1,Fm.get];rfl) (fun k hk=>by simp [atN,h2,Fm.get,hk];rfl)
def errC (b:Bool):Int:=if b=true then 0 else 190
def ir17:IR:=(.seq (.ops [⟨(some 1),(.box 25 (.t 0)),none⟩,⟨(some 2),(.mv (.k (.c (.v (.int .i64 0))))),none⟩]) (.kill [0,2,3,4,5,6,7,8,9,10,11] (.seq (.seq (.ops [⟨(some 7),(.fa 1 (.t 1)),none⟩,⟨(some 8),(.ld false 1 (.t 7)),none⟩,⟨(some 9),(.len (.t 8)),none⟩,⟨(some 10),(.bin .lss (.t 9) (.k (.c (.v (.int .i64 1))))),none⟩,⟨(some 11),(.mv (.t 10)),none⟩,⟨(some 12),(.fa 1 (.t 1)),(some (11,false))⟩,⟨(some 13),(.ld false 1 (.t 12)),(some (11,false))⟩,⟨(some 14),(.len (.t 13)),(some (11,false))⟩,⟨(some 15),(.bin .gtr (.t 14) (.k (.c (.v (.int .i64 4))))),(some (11,false))⟩,⟨(some 16),(.pick (.t 11) (.k (.c (.v (.bool true)))) (.t 15)),none⟩,⟨(some 17),(.mv (.t 16)),none⟩,⟨(some 18),(.fa 0 (.t 1)),(some (17,false))⟩,⟨(some 19),(.ld false 1 (.t 18)),(some (17,false))⟩,⟨(some 20),(.len (.t 19)),(some (17,false))⟩,⟨(some 21),(.bin .lss (.t 20) (.k (.c (.v (.int .i64 1))))),(some (17,false))⟩,⟨(some 22),(.pick (.t 17) (.k (.c (.v (.bool true)))) (.t 21)),none⟩,⟨(some 23),(.mv (.t 22)),none⟩,⟨(some 24),(.fa 0 (.t 1)),(some (23,false))⟩,⟨(some 25),(.ld false 1 (.t 24)),(some (23,false))⟩,⟨(some 26),(.len (.t 25)),(some (23,false))⟩,⟨(some 27),(.bin .gtr (.t 26) (.k (.c (.v (.int .i64 6))))),(some (23,false))⟩,⟨(some 28),(.pick (.t 23) (.k (.c (.v (.bool true)))) (.t 27)),none⟩]) (.kill [7,8,9,10,11,12,13,14,15,16,17,18,19,20,21,22,23,24,25,26,27] (.cond (.t 28) (.seq (.ops [⟨(some 2),(.mv (.k (.c (.v (.int .i64 190))))),none⟩]) (.kill [1,28] .ret)) .skip))) (.kill [2,28] (.seq (.seq (.ops [⟨(some 29),(.fa 1 (.t 1)),none⟩,⟨(some 30),(.ld false 1 (.t 29)),none⟩,⟨(some 31),(.len (.t 30)),none⟩,⟨(some 32),(.mv (.k (.c (.v (.int .i64 0))))),none⟩]) (.kill [29] (.blk 0 (.loop (.seq (.ops [⟨(some 33),(.bin .lss (.t 32) (.t 31)),none⟩]) (.kill [2,4,6,34,35,36,37,38,39,40,41,42,43,44,45,46,47,48,49,50] (.seq (.cond (.t 33) .skip (.exit 0)) (.kill [33] (.seq (.blk 1 (.seq (.ops [⟨(some 34),(.ia 1 (.t 30) (.t 32)),none⟩,⟨(some 35),(.ld false 1 (.t 34)),none⟩,⟨(some 4),(.mv (.t 35)),none⟩]) (.kill [34,35] (.seq (.seq (.ops [⟨(some 36),(.mv (.t 4)),none⟩,⟨(some 37),(.len (.t 36)),none⟩,⟨(some 38),(.bin .gtr (.t 37) (.k (.c (.v (.int .i64 10))))),none⟩]) (.kill [36,37] (.cond (.t 38) (.seq (.ops [⟨(some 2),(.mv (.k (.c (.v (.int .i64 190))))),none⟩]) (.kill [1,4,30,31,32,38] .ret)) .skip))) (.kill [2,38] (.seq (.ops [⟨(some 39),(.mv (.t 4)),none⟩,⟨(some 40),(.len (.t 39)),none⟩,⟨(some 41),(.mv (.k (.c (.v (.int .i64 0))))),none⟩]) (.kill [4] (.blk 2 (.loop (.seq (.ops [⟨(some 42),(.bin .lss (.t 41) (.t 40)),none⟩]) (.kill [2,6,43,44,45,46,47,48,49] (.seq (.cond (.t 42) .skip (.exit 2)) (.kill [42] (.seq (.blk 3 (.seq (.ops [⟨(some 43),(.ia 7 (.t 39) (.t 41)),none⟩,⟨(some 44),(.ld true 7 (.t 43)),none⟩,⟨(some 6),(.new 83 [(.v (.int .i64 0)),(.v (.int .i64 0)),(.v (.int .i64 0)),(.v (.int .i64 0)),(.v (.int .i64 0)),(.v (.int .i64 0)),(.v (.int .i64 0))]),none⟩,⟨none,(.st 7 (.t 6) (.t 44)),none⟩]) (.kill [43,44] (.seq (.ops [⟨(some 45),(.ld true 2 (.t 1)),none⟩,⟨(some 46),(.ld true 7 (.t 6)),none⟩,⟨(some 47),(.call 42 [(.t 45),(.t 46)]),none⟩,⟨(some 48),(.un .not (.t 47)),none⟩]) (.kill [6,45,46,47] (.cond (.t 48) (.seq (.ops [⟨(some 2),(.mv (.k (.c (.v (.int .i64 190))))),none⟩]) (.kill [1,30,31,32,39,40,41,48] .ret)) .skip)))))) (.kill [2,6,43,44,45,46,47,48] (.ops [⟨(some 49),(.bin .add (.t 41) (.k (.c (.v (.int .i64 1))))),none⟩,⟨(some 41),(.mv (.t 49)),none⟩])))))))))))))))) (.kill [2,4,6,34,35,36,37,38,39,40,41,42,43,44,45,46,47,48,49] (.ops [⟨(some 50),(.bin .add (.t 32) (.k (.c (.v (.int .i64 1))))),none⟩,⟨(some 32),(.mv (.t 50)),none⟩]))))))))))) (.kill [1,2,4,6,30,31,32,33,34,35,36,37,38,39,40,41,42,43,44,45,46,47,48,49,50] (.seq (.ops [⟨(some 2),(.mv (.k (.c (.v (.int .i64 0))))),none⟩]) .ret)))))))
def rs17:List RS:=[(.t 2)]
def nt17:Nat:=51
def ir18:IR:=(.seq (.ops [⟨(some 1),(.box 25 (.t 0)),none⟩,⟨(some 2),(.mv (.k (.c (.v (.bool false))))),none⟩]) (.kill [0,2,3,4,5,6,7,8,9,10,11] (.seq (.seq (.ops [⟨(some 5),(.fa 1 (.t 1)),none⟩,⟨(some 6),(.ld false 1 (.t 5)),none⟩,⟨(some 7),(.len (.t 6)),none⟩,⟨(some 8),(.bin .lss (.t 7) (.k (.c (.v (.int .i64 1))))),none⟩,⟨(some 9),(.mv (.t 8)),none⟩,⟨(some 10),(.fa 1 (.t 1)),(some (9,false))⟩,⟨(some 11),(.ld false 1 (.t 10)),(some (9,false))⟩,⟨(some 12),(.len (.t 11)),(some (9,false))⟩,⟨(some 13),(.bin .gtr (.t 12) (.k (.c (.v (.int .i64 4))))),(some (9,false))⟩,⟨(some 14),(.pick (.t 9) (.k (.c (.v (.bool true)))) (.t 13)),none⟩,⟨(some 15),(.mv (.t 14)),none⟩,⟨(some 16),(.fa 0 (.t 1)),(some (15,false))⟩,⟨(some 17),(.ld false 1 (.t 16)),(some (15,false))⟩,⟨(some 18),(.len (.t 17)),(some (15,false))⟩,⟨(some 19),(.bin .lss (.t 18) (.k (.c (.v (.int .i64 1))))),(some (15,false))⟩,⟨(some 20),(.pick (.t 15) (.k (.c (.v (.bool true)))) (.t 19)),none⟩,⟨(some 21),(.mv (.t 20)),none⟩,⟨(some 22),(.fa 0 (.t 1)),(some (21,false))⟩,⟨(some 23),(.ld false 1 (.t 22)),(some (21,false))⟩,⟨(some 24),(.len (.t 23)),(some (21,false))⟩,⟨(some 25),(.bin .gtr (.t 24) (.k (.c (.v (.int .i64 6))))),(some (21,false))⟩,⟨(some 26),(.pick (.t 21) (.k (.c (.v (.bool true)))) (.t 25)),none⟩]) (.kill [5,6,7,8,9,10,11,12,13,14,15,16,17,18,19,20,21,22,23,24,25] (.cond (.t 26) (.seq (.ops [⟨(some 2),(.mv (.k (.c (.v (.bool false))))),none⟩]) (.kill [1,26] .ret)) .skip))) (.kill [2,26] (.seq (.seq (.ops [⟨(some 3),(.mv (.k (.c (.v (.int .i64 0))))),none⟩]) (.blk 0 (.loop (.seq (.seq (.ops [⟨(some 27),(.mv (.t 3)),none⟩,⟨(some 28),(.fa 1 (.t 1)),none⟩,⟨(some 29),(.ld false 1 (.t 28)),none⟩,⟨(some 30),(.len (.t 29)),none⟩,⟨(some 31),(.bin .lss (.t 27) (.t 30)),none⟩]) (.kill [2,4,27,28,29,30,32,33,34,35,36,37,38,39,40,41,42,43,44,45,46,47,48,49,50,51,52,53,54,55,56,57,58,59,60,61,62,63] (.cond (.t 31) .skip (.exit 0)))) (.kill [31] (.seq (.blk 1 (.seq (.seq (.ops [⟨(some 34),(.fa 1 (.t 1)),none⟩,⟨(some 35),(.ld false 1 (.t 34)),none⟩,⟨(some 36),(.mv (.t 3)),none⟩,⟨(some 37),(.ia 1 (.t 35) (.t 36)),none⟩,⟨(some 38),(.ld false 1 (.t 37)),none⟩,⟨(some 39),(.len (.t 38)),none⟩,⟨(some 40),(.bin .gtr (.t 39) (.k (.c (.v (.int .i64 10))))),none⟩]) (.kill [34,35,36,37,38,39] (.cond (.t 40) (.seq (.ops [⟨(some 2),(.mv (.k (.c (.v (.bool false))))),none⟩]) (.kill [1,3,40] .ret)) .skip))) (.kill [2,40] (.seq (.ops [⟨(some 4),(.mv (.k (.c (.v (.int .i64 0))))),none⟩]) (.blk 2 (.loop (.seq (.seq (.ops [⟨(some 41),(.mv (.t 4)),none⟩,⟨(some 42),(.fa 1 (.t 1)),none⟩,⟨(some 43),(.ld false 1 (.t 42)),none⟩,⟨(some 44),(.mv (.t 3)),none⟩,⟨(some 45),(.ia 1 (.t 43) (.t 44)),none⟩,⟨(some 46),(.ld false 1 (.t 45)),none⟩,⟨(some 47),(.len (.t 46)),none⟩,⟨(some 48),(.bin .lss (.t 41) (.t 47)),none⟩]) (.kill [2,41,42,43,44,45,46,47,49,50,51,52,53,54,55,56,57,58,59,60,61,62,63] (.cond (.t 48) .skip (.exit 2)))) (.kill [48] (.seq (.blk 3 (.seq (.draw [(⟨(some 51),(.fa 1 (.t 1)),none⟩,([],[53,56,59,60,61])),(⟨(some 52),(.ld false 1 (.t 51)),none⟩,([],[53,56,59,60,61])),(⟨(some 53),(.mv (.t 3)),none⟩,([0,1],[51,52,56,59,60,61])),(⟨(some 54),(.ia 1 (.t 52) (.t 53)),none⟩,([],[56,59,60,61])),(⟨(some 55),(.ld false 1 (.t 54)),none⟩,([],[56,59,60,61])),(⟨(some 56),(.mv (.t 4)),none⟩,([0,1,2,3,4],[51,52,53,54,55,59,60,61])),(⟨(some 57),(.ia 7 (.t 55) (.t 56)),none⟩,([],[59,60,61])),(⟨(some 58),(.ld true 7 (.t 57)),none⟩,([],[59,60,61])),(⟨(some 59),(.fa 0 (.t 1)),none⟩,([0,1,2,3,4,5,6,7],[51,52,53,54,55,56,57,58])),(⟨(some 60),(.ld false 1 (.t 59)),none⟩,([0,1,2,3,4,5,6,7],[51,52,53,54,55,56,57,58])),(⟨(some 61),(.len (.t 60)),none⟩,([0,1,2,3,4,5,6,7],[51,52,53,54,55,56,57,58])),(⟨(some 62),(.call 43 [(.t 58),(.t 61)]),none⟩,([],[])),(⟨(some 63),(.un .not (.t 62)),none⟩,([],[]))]) (.kill [51,52,53,54,55,56,57,58,59,60,61,62] (.cond (.t 63) (.seq (.ops [⟨(some 2),(.mv (.k (.c (.v (.bool false))))),none⟩]) (.kill [1,3,4,63] .ret)) .skip)))) (.kill [2,51,52,53,54,55,56,57,58,59,60,61,62,63] (.ops [⟨(some 49),(.mv (.t 4)),none⟩,⟨(some 50),(.bin .add (.t 49) (.k (.c (.v (.int .i64 1))))),none⟩,⟨(some 4),(.mv (.t 50)),none⟩]))))))))))) (.kill [2,4,34,35,36,37,38,39,40,41,42,43,44,45,46,47,48,49,50,51,52,53,54,55,56,57,58,59,60,61,62,63] (.ops [⟨(some 32),(.mv (.t 3)),none⟩,⟨(some 33),(.bin .add (.t 32) (.k (.c (.v (.int .i64 1))))),none⟩,⟨(some 3),(.mv (.t 33)),none⟩])))))))) (.kill [1,2,3,4,27,28,29,30,31,32,33,34,35,36,37,38,39,40,41,42,43,44,45,46,47,48,49,50,51,52,53,54,55,56,57,58,59,60,61,62,63] (.seq (.ops [⟨(some 2),(.mv (.k (.c (.v (.bool true))))),none⟩]) .ret)))))))
def rs18:List RS:=[(.t 2)]
def nt18:Nat:=64
set_option maxRecDepth 100000 in
set_option maxHeartbeats 400000 in
theorem check_calls (w:World) (v:Value) (L:Lt) (hok:LtOk L) (h:LtR w v L):Calls Try.prog 17 #[v] w (RetV w (.int .i64 (errC (checkB L)))):=by
 refine enterLt (A:=[]) (c:=ir17) (rs:=rs17) (nt:=nt17) h [.agg (ltS 0)] _ Try.func17 rfl (by kernel_rfl) (by kernel_rfl) rfl (fun E' h0=>by simp only [List.map_cons,List.map_nil,h0]) (of_decide_eq_true rfl) ?_
 by_cases hsz:1≤L.thr.length∧L.thr.length≤4∧1≤L.words.length∧L.words.length≤6
 ·have d1:decide ((L.thr.length:Int)<1)=false:=decide_eq_false (by omega)
  have d2:decide ((L.thr.length:Int)>4)=false:=decide_eq_false (by omega)
  have d3:decide ((L.words.length:Int)<1)=false:=decide_eq_false (by omega)
  have d4:decide ((L.words.length:Int)>6)=false:=decide_eq_false (by omega)
  simp (maxSteps:=2000000) only [ir17,nt17,rs17,go_sem,↓condS,↓gateS,↓runOp,↓imp_ft,↓imp_tt,↓imp_ff,↓reduceIte,Nat.reduceLT,Nat.reduceAdd,Nat.reduceEqDiff,reduceCtorEq,ltA,ltS,d1,d2,d3,d4]
  refine loopI (ι:={ t:Nat // t≤L.thr.length∧∀ u,u<t→(L.thr.getD u []).length≤10∧∀ i,i<(L.thr.getD u []).length→fitsB ((L.thr.getD u []).getD i in0) L.words.length=true }) (fun t=>⟨51,[(1,.c (.ptr (3,0,0) 0)),(30,.c (.xv (1,0,0))),(31,.c (.v (.int .i64 L.thr.length))),(32,.c (.v (.int .i64 (t.1:Nat))))],[(3,.one (.bk [.xv (0,0,0),.xv (1,0,0)] 25))],[(0,.one (arrOf eI 1 L.words 0)),(1,.one (nestF 2 L.thr.length)),(2,.fam L.thr.length fun k=>arrOf Ins.enc 7 (L.thr.getD k []) in0)],[],4⟩)
   (fun t=>L.thr.length - t.1) ⟨0,by omega,fun u hu=>by omega⟩ (le_ren id rfl rfl (by simp [TmpsLe,look,SV.ren,SC.ren,idσ,SV.okN,SC.okN]) (by simp [OwnLe,BlkLeO,BlkLe,atN,look,Fm.get,idσ,SC.renL,SC.ren,SC.okL,SC.okN]) (by simp +contextual [ArrsLe,ArrLeO,atN,look,Fm.get,idσ,arrLe_of,arrLe_nest]) rfl) ?_
  rintro ⟨t,ht,hg⟩
  simp (maxSteps:=2000000) only [go_sem,↓condS,↓exitS,↓runOp,↓reduceIte,Nat.reduceLT,Nat.reduceEqDiff,reduceCtorEq]
  refine both (fun hlt=>?_) (fun hge=>?_)
  ·rw [decide_eq_true_eq] at hlt
   have hlt:t<L.thr.length:=by omega
   have hf:∀ {C:Ctx} {E:Env} {S:St} {a:Act} {w' : World},Sat C.B C.W C.w0 E S a w'→look S.arrs 0=some (.one (arrOf eI 1 L.words 0))→look S.arrs 1=some (.one (nestF 2 L.thr.length))→look S.arrs 2=some (.fam L.thr.length fun k=>arrOf Ins.enc 7 (L.thr.getD k []) in0)→LtR w' ((SV.agg [.xv (0,0,0),.xv (1,0,0)]).den E) L:=fun hs h0 h1 h2=>ltL_at hs h0 h1 h2
   refine And.intro hlt (And.intro hlt (And.intro hlt (both (fun h10=>?_) (fun h10=>And.intro hlt ?_))))
   ·rw [decide_eq_true_eq] at h10
    have hck:checkB L=false:=by
     cases e:checkB L
     ·rfl
     ·have:=((check_iff.1 e).2 t hlt).1;omega
    exact retV fun E=>by simp [SV.den,SC.den,hck,errC]
   rw [decide_eq_false_iff_not] at h10
   refine loopI (ι:={ i:Nat // i≤(L.thr.getD t []).length∧∀ j,j<i→fitsB ((L.thr.getD t []).getD j in0) L.words.length=true }) (fun i=>⟨51,[(1,.c (.ptr (3,0,0) 0)),(30,.c (.xv (1,0,0))),(31,.c (.v (.int .i64 L.thr.length))),(32,.c (.v (.int .i64 t))),(39,.c (.xv (2,t,0))),(40,.c (.v (.int .i64 (L.thr.getD t []).length))),(41,.c (.v (.int .i64 (i.1:Nat))))],[(3,.one (.bk [.xv (0,0,0),.xv (1,0,0)] 25))],[(0,.one (arrOf eI 1 L.words 0)),(1,.one (nestF 2 L.thr.length)),(2,.fam L.thr.length fun k=>arrOf Ins.enc 7 (L.thr.getD k []) in0)],[],4⟩)
    (fun i=>(L.thr.getD t []).length - i.1) ⟨0,by omega,fun u hu=>by omega⟩ (le_ren id rfl rfl (by simp [TmpsLe,look,SV.ren,SC.ren,idσ,SV.okN,SC.okN]) (by simp [OwnLe,BlkLeO,BlkLe,atN,look,Fm.get,idσ,SC.renL,SC.ren,SC.okL,SC.okN]) (by simp +contextual [ArrsLe,ArrLeO,atN,look,Fm.get,idσ,arrLe_of,arrLe_nest]) rfl) ?_
   rintro ⟨i,hi,hgi⟩
   simp (maxSteps:=2000000) only [go_sem,↓condS,↓exitS,↓runOp,↓reduceIte,Nat.reduceLT,Nat.reduceLeDiff,Nat.reduceAdd,Nat.reduceEqDiff,reduceCtorEq,Ins.enc]
   refine both (fun hlti=>?_) (fun hge=>?_)
   ·rw [decide_eq_true_eq] at hlti
    have hlti:i<(L.thr.getD t []).length:=by omega
    generalize hci:(L.thr.getD t []).getD i in0=ci
    have hcr:InR ci:=hci ▸ hok _ (getD_memE hlt) _ (getD_memE hlti)
    refine And.intro ⟨hlt,hlti⟩ (And.intro ⟨hlt,hlti⟩ ?_)
    refine callV (.c (.bo (fitsB ci L.words.length))) _ (fun E=>rfl) (fun E a w' hs=>fits_calls w' _ L ci hcr (hf hs rfl rfl rfl)) ?_
    simp (maxSteps:=2000000) only [go_sem,↓condS,↓runOp,↓reduceIte,Nat.reduceLT,Nat.reduceEqDiff]
    refine both (fun hb=>?_) (fun hb=>?_)
    ·have hb:fitsB ci L.words.length=false:=by simpa using hb
     have hck:checkB L=false:=by
      cases e:checkB L
      ·rfl
      ·have:=((check_iff.1 e).2 t hlt).2 i hlti
       rw [hci,hb] at this;cases this
     exact retV fun E=>by simp [SV.den,SC.den,hck,errC]
    ·have hb:fitsB ci L.words.length=true:=by simpa using hb
     rw [wr_succ (by omega)]
     refine backI ⟨i+1,by omega,fun j hj=>?_⟩ (by simp only;omega) (le_ren id rfl rfl (by simp [TmpsLe,look,SV.ren,SC.ren,idσ,SV.okN,SC.okN]) (by simp [OwnLe,BlkLeO,BlkLe,atN,look,Fm.get,idσ,SC.renL,SC.ren,SC.okL,SC.okN]) (by simp +contextual [ArrsLe,ArrLeO,atN,look,Fm.get,idσ,arrLe_of,arrLe_nest]) rfl)
     by_cases e:j=i
     ·subst e;rw [hci];exact hb
     ·exact hgi j (by omega)
   ·rw [decide_eq_false_iff_not] at hge
    rw [wr_succ (by omega)]
    refine backI ⟨t+1,by omega,fun u hu=>?_⟩ (by simp only;omega) (le_ren id rfl rfl (by simp [TmpsLe,look,SV.ren,SC.ren,idσ,SV.okN,SC.okN]) (by simp [OwnLe,BlkLeO,BlkLe,atN,look,Fm.get,idσ,SC.renL,SC.ren,SC.okL,SC.okN]) (by simp +contextual [ArrsLe,ArrLeO,atN,look,Fm.get,idσ,arrLe_of,arrLe_nest]) rfl)
    by_cases e:u=t
    ·subst e;exact ⟨by omega,fun j hj=>hgi j (by omega)⟩
    ·exact hg u (by omega)
  ·rw [decide_eq_false_iff_not] at hge
   have hck:checkB L=true:=check_iff.2 ⟨hsz,fun u hu=>hg u (by omega)⟩
   exact retV fun E=>by simp only [SV.den,SC.den,hck,errC,if_true]
 ·have hck:checkB L=false:=by
   cases e:checkB L
   ·rfl
   ·exact absurd (check_iff.1 e).1 hsz
  simp (maxSteps:=2000000) only [ir17,nt17,rs17,go_sem,↓condS,↓gateS,↓runOp,↓reduceIte,Nat.reduceLT,Nat.reduceAdd,Nat.reduceEqDiff,reduceCtorEq,ltA,ltS]
  refine both (fun hb=>?_) (fun hb=>?_)
  ·exact retV fun E=>by simp [SV.den,SC.den,hck,errC]
  ·exfalso
   simp at hb
   omega
set_option maxRecDepth 100000 in
set_option maxHeartbeats 400000 in
theorem rcheck_calls (w:World) (v:Value) (L:Lt) (h:LtR w v L):Calls Try.prog 18 #[v] w (RetV w (.bool (checkB L))):=by
 refine enterLt (A:=[]) (c:=ir18) (rs:=rs18) (nt:=nt18) h [.agg (ltS 0)] _ Try.func18 rfl (by kernel_rfl) (by kernel_rfl) rfl (fun E' h0=>by simp only [List.map_cons,List.map_nil,h0]) (of_decide_eq_true rfl) ?_
 by_cases hsz:1≤L.thr.length∧L.thr.length≤4∧1≤L.words.length∧L.words.length≤6
 ·have d1:decide ((L.thr.length:Int)<1)=false:=decide_eq_false (by omega)
  have d2:decide ((L.thr.length:Int)>4)=false:=decide_eq_false (by omega)
  have d3:decide ((L.words.length:Int)<1)=false:=decide_eq_false (by omega)
  have d4:decide ((L.words.length:Int)>6)=false:=decide_eq_false (by omega)
  simp (maxSteps:=2000000) only [ir18,nt18,rs18,go_sem,↓condS,↓gateS,↓runOp,↓imp_ft,↓imp_tt,↓imp_ff,↓reduceIte,Nat.reduceLT,Nat.reduceAdd,Nat.reduceEqDiff,reduceCtorEq,ltA,ltS,d1,d2,d3,d4]
  refine loopI (ι:={ t:Nat // t≤L.thr.length∧∀ u,u<t→(L.thr.getD u []).length≤10∧∀ i,i<(L.thr.getD u []).length→fitsB ((L.thr.getD u []).getD i in0) L.words.length=true }) (fun t=>⟨64,[(1,.c (.ptr (3,0,0) 0)),(3,.c (.v (.int .i64 (t.1:Nat))))],[(3,.one (.bk [.xv (0,0,0),.xv (1,0,0)] 25))],[(0,.one (arrOf eI 1 L.words 0)),(1,.one (nestF 2 L.thr.length)),(2,.fam L.thr.length fun k=>arrOf Ins.enc 7 (L.thr.getD k []) in0)],[],4⟩)
   (fun t=>L.thr.length - t.1) ⟨0,by omega,fun u hu=>by omega⟩ (le_ren id rfl rfl (by simp [TmpsLe,look,SV.ren,SC.ren,idσ,SV.okN,SC.okN]) (by simp [OwnLe,BlkLeO,BlkLe,atN,look,Fm.get,idσ,SC.renL,SC.ren,SC.okL,SC.okN]) (by simp +contextual [ArrsLe,ArrLeO,atN,look,Fm.get,idσ,arrLe_of,arrLe_nest]) rfl) ?_
  rintro ⟨t,ht,hg⟩
  simp (maxSteps:=2000000) only [go_sem,↓condS,↓exitS,↓runOp,↓reduceIte,Nat.reduceLT,Nat.reduceEqDiff,reduceCtorEq]
  refine both (fun hlt=>?_) (fun hge=>?_)
  ·rw [decide_eq_true_eq] at hlt
   have hlt:t<L.thr.length:=by omega
   refine And.intro hlt (And.intro hlt (And.intro hlt (both (fun h10=>?_) (fun h10=>?_))))
   ·rw [decide_eq_true_eq] at h10
    have hck:checkB L=false:=by
     cases e:checkB L
     ·rfl
     ·have:=((check_iff.1 e).2 t hlt).1;omega
    exact retV fun E=>by simp [SV.den,SC.den,hck]
   rw [decide_eq_false_iff_not] at h10
   refine loopI (ι:={ i:Nat // i≤(L.thr.getD t []).length∧∀ j,j<i→fitsB ((L.thr.getD t []).getD j in0) L.words.length=true }) (fun i=>⟨64,[(1,.c (.ptr (3,0,0) 0)),(3,.c (.v (.int .i64 t))),(4,.c (.v (.int .i64 (i.1:Nat))))],[(3,.one (.bk [.xv (0,0,0),.xv (1,0,0)] 25))],[(0,.one (arrOf eI 1 L.words 0)),(1,.one (nestF 2 L.thr.length)),(2,.fam L.thr.length fun k=>arrOf Ins.enc 7 (L.thr.getD k []) in0)],[],4⟩)
    (fun i=>(L.thr.getD t []).length - i.1) ⟨0,by omega,fun u hu=>by omega⟩ (le_ren id rfl rfl (by simp [TmpsLe,look,SV.ren,SC.ren,idσ,SV.okN,SC.okN]) (by simp [OwnLe,BlkLeO,BlkLe,atN,look,Fm.get,idσ,SC.renL,SC.ren,SC.okL,SC.okN]) (by simp +contextual [ArrsLe,ArrLeO,atN,look,Fm.get,idσ,arrLe_of,arrLe_nest]) rfl) ?_
   rintro ⟨i,hi,hgi⟩
   simp (maxSteps:=2000000) only [go_sem,↓condS,↓exitS,↓runOp,↓reduceIte,Nat.reduceLT,Nat.reduceEqDiff,reduceCtorEq]
   refine And.intro hlt (And.intro hlt (And.intro hlt ?_))
   refine both (fun hlti=>?_) (fun hge=>?_)
   ·rw [decide_eq_true_eq] at hlti
    have hlti:i<(L.thr.getD t []).length:=by omega
    refine draw_vc (by kernel_rfl) (mkTab_ok _ _) (of_decide_eq_true rfl) (of_decide_eq_true rfl) ?_
    repeat (first | simp (maxSteps:=2000000) only [go_sem,↓gateD,↓runD,↓reduceIte,Nat.reduceLT,Nat.reduceLeDiff,Nat.reduceEqDiff,reduceCtorEq,Ins.enc] | rw [dr_cons])
    generalize hci:(L.thr.getD t []).getD i in0=ci
    refine And.intro hlt (And.intro hlt (And.intro ⟨hlt,hlti⟩ (And.intro ⟨hlt,hlti⟩ ?_)))
    refine dcallV (.c (.bo (fitsB ci L.words.length))) _ (fun E=>rfl) (fun E a w' _=>rfits_calls w' _ ci) ?_
    repeat (first | simp (maxSteps:=2000000) only [go_sem,↓condS,↓runOp,↓gateD,↓runD,↓reduceIte,Nat.reduceLT,Nat.reduceEqDiff] | rw [dr_cons])
    refine both (fun hb=>?_) (fun hb=>?_)
    ·have hb:fitsB ci L.words.length=false:=by simpa using hb
     have hck:checkB L=false:=by
      cases e:checkB L
      ·rfl
      ·have:=((check_iff.1 e).2 t hlt).2 i hlti
       rw [hci,hb] at this;cases this
     exact retV fun E=>by simp [SV.den,SC.den,hck]
    ·have hb:fitsB ci L.words.length=true:=by simpa using hb
     rw [wr_succ (by omega)]
     refine backI ⟨i+1,by omega,fun j hj=>?_⟩ (by simp only;omega) (le_ren id rfl rfl (by simp [TmpsLe,look,SV.ren,SC.ren,idσ,SV.okN,SC.okN]) (by simp [OwnLe,BlkLeO,BlkLe,atN,look,Fm.get,idσ,SC.renL,SC.ren,SC.okL,SC.okN]) (by simp +contextual [ArrsLe,ArrLeO,atN,look,Fm.get,idσ,arrLe_of,arrLe_nest]) rfl)
     by_cases e:j=i
     ·subst e;rw [hci];exact hb
     ·exact hgi j (by omega)
   ·rw [decide_eq_false_iff_not] at hge
    rw [wr_succ (by omega)]
    refine backI ⟨t+1,by omega,fun u hu=>?_⟩ (by simp only;omega) (le_ren id rfl rfl (by simp [TmpsLe,look,SV.ren,SC.ren,idσ,SV.okN,SC.okN]) (by simp [OwnLe,BlkLeO,BlkLe,atN,look,Fm.get,idσ,SC.renL,SC.ren,SC.okL,SC.okN]) (by simp +contextual [ArrsLe,ArrLeO,atN,look,Fm.get,idσ,arrLe_of,arrLe_nest]) rfl)
    by_cases e:u=t
    ·subst e;exact ⟨by omega,fun j hj=>hgi j (by omega)⟩
    ·exact hg u (by omega)
  ·rw [decide_eq_false_iff_not] at hge
   have hck:checkB L=true:=check_iff.2 ⟨hsz,fun u hu=>hg u (by omega)⟩
   exact retV fun E=>by simp only [SV.den,SC.den,hck]
 ·have hck:checkB L=false:=by
   cases e:checkB L
   ·rfl
   ·exact absurd (check_iff.1 e).1 hsz
  simp (maxSteps:=2000000) only [ir18,nt18,rs18,go_sem,↓condS,↓gateS,↓runOp,↓reduceIte,Nat.reduceLT,Nat.reduceAdd,Nat.reduceEqDiff,reduceCtorEq,ltA,ltS]
  refine both (fun hb=>?_) (fun hb=>?_)
  ·exact retV fun E=>by simp [SV.den,SC.den,hck]
  ·exfalso
   simp at hb
   omega
end Go.Proofs.Ytmcpdafmkkjlcaa.Z
namespace Go.Proofs.Ytmcpdafmkkjlcaa
open Go.RowKit
def RetCl {α:Type} (W:World) (e:TypeId) (enc:α→List Value) (s:Nat) (l:List α) (r:Ending) (w' : World):Prop :=
 ∃ v',r = .returned v'∧((l=[]∧∃ ba,v' = .slice ba 0 0∧(ba=none∨∃ b,ba=some ⟨b,0,none⟩))∨(l≠[]∧w'.ownsRow W.heap.size e s v' l.length (l.flatMap enc)))∧Below W.heap.size W w'
theorem wpList_append_emptyT {P:Program} {w:World} {ops:Array Oper} {rest:List Oper} {o:Oper} {a:Act} {Q:Exit→Act→World→Prop} (hgd:o.guard=none) (s x:Operand) {t e:TypeId} {size bytes:Nat}
  (ho:o.op = .call { callee:=.builtin .append,args:=#[s,x],argTypes:=#[t,t] }) (T:ElemT P t e size bytes)
  {α:Type} {enc:α→List Value} (E:EncT enc size) {ba:Option Addr} {xs:List α} (hs:a.eval s = .slice ba 0 0)
  {v2:Value} (hx:a.eval x=v2) (hxs:Arr w enc size v2 xs)
  (hbytes:xs.length * bytes≤140737488355328) (h63:xs.length≤maxLen)
  (h:∀ v' w',Below w.heap.size w w'→((xs=[]∧v' = .slice ba 0 0)∨(xs≠[]∧w'.ownsRow w.heap.size e size v' xs.length (xs.flatMap enc)))→wpList P ops Q rest (a.put o.dst v') w'):wpList P ops Q (o :: rest) a w :=
 wpList_plain hgd fun _ hK=>wp_append_full s x ho T E hs (arr_empty _ _ _ _) hx hxs (by simpa using hbytes) (by simpa using h63) fun v' w' hb h2=>hK _ _ (h v' w' hb (by
  rcases h2 with ⟨h1,h2,_⟩ | ⟨h1,h2⟩
  ·exact Or.inl ⟨h1,h2⟩
  ·simp only [Nat.zero_add,List.nil_append] at h2
   exact Or.inr ⟨h1,h2⟩))
theorem ownsRow_base {w:World} {base base' : Nat} {e:TypeId} {size n:Nat} {v:Value} {l:List Value} (h:w.ownsRow base e size v n l) (hb:base'≤base):w.ownsRow base' e size v n l:=by
 obtain ⟨h1,h⟩:=h
 refine ⟨h1,?_⟩
 rcases h with h | ⟨g,cap,cur,r1,r2,r3⟩
 ·exact Or.inl h
 ·exact Or.inr ⟨g,cap,cur,r1,Nat.le_trans hb r2,r3⟩
theorem tIT:ElemT Try.prog 22 3 1 8:=by
 refine ⟨Try.underlying22,?_,by decide⟩
 obtain ⟨i0,hi,hz0,hz1,hz2⟩:=info_parts (show (Try.prog.info? 3).map (fun i=>(i.zero,i.size,i.bytes))=some (some (.int .i64 0),1,8) by kernel_rfl)
 exact ⟨i0,_,hi,hz0,hz1,hz2,rfl⟩
set_option maxRecDepth 100000 in
set_option maxHeartbeats 400000 in
theorem clone_ints {v:Value} {l:List Int} {w:World} (h:Arr w eI 1 v l) (hl:l.length * 8≤140737488355328) :
  Calls Try.prog 44 #[v] w (RetCl w 3 eI 1 l):=by
 have h0:=h
 obtain ⟨ba,cap,rfl,hlc,hcm,hc⟩:=h
 have H:=Lib.hid h0;clear h0
 have HC:=Lib.hid hc;clear hc
 have HL:=Lib.hid hl;clear hl
 have HM:=Lib.hid (Nat.le_trans hlc hcm);clear hlc hcm
 have hq:=fun wx=>Lib.run_eql_slice_nil (P:=Try.prog) wx 22 _ ba l.length cap 0 0 Try.underlying22
 rcases ba with _ | ba
 ·have hl0:l=[]:=by
   rcases HC.out with h | ⟨_,_,h,_⟩
   ·exact h
   ·cases h
  have HL0:=Lib.hid hl0;clear hl0
  go_enter Try.func44,Try.ntmps44
  go_wp2
  go_ret
  exact ⟨_,rfl,Or.inl ⟨HL0.out,none,rfl,Or.inl rfl⟩,Below.refl _ _⟩
 ·go_enter Try.func44,Try.ntmps44
  go_wp2_with (at_builtin;refine wpList_append_emptyT rfl (.tmp 5) (.tmp 6) rfl tIT eI_ok rfl rfl (H.out.below (below_box _ _)) HL.out HM.out ?_;intro v' w' hb ho)
  have HO:=Lib.hid ho;clear ho
  go_wp2
  go_ret
  refine ⟨v',rfl,?_,below_from (hb.mono (by simp))⟩
  rcases HO.out with ⟨h1,h2⟩ | ⟨h1,h2⟩
  ·exact Or.inl ⟨h1,_,h2,Or.inr ⟨_,rfl⟩⟩
  ·exact Or.inr ⟨h1,ownsRow_base h2 (by simp)⟩
theorem tRT:ElemT Try.prog 29 68 4 32:=by
 refine ⟨Try.underlying29,?_,by decide⟩
 obtain ⟨i0,hi,hz0,hz1,hz2⟩:=info_parts (show (Try.prog.info? 68).map (fun i=>(i.zero,i.size,i.bytes))=some (some (.agg #[.int .i64 0,.int .i64 0,.int .i64 0,.int .i64 0]),4,32) by kernel_rfl)
 exact ⟨i0,_,hi,hz0,hz1,hz2,rfl⟩
set_option maxRecDepth 100000 in
set_option maxHeartbeats 400000 in
theorem clone_regs {v:Value} {l:List Z.R4} {w:World} (h:Arr w Z.R4.enc 4 v l) (hl:l.length * 32≤140737488355328) :
  Calls Try.prog 81 #[v] w (RetCl w 68 Z.R4.enc 4 l):=by
 have h0:=h
 obtain ⟨ba,cap,rfl,hlc,hcm,hc⟩:=h
 have H:=Lib.hid h0;clear h0
 have HC:=Lib.hid hc;clear hc
 have HL:=Lib.hid hl;clear hl
 have HM:=Lib.hid (Nat.le_trans hlc hcm);clear hlc hcm
 have hq:=fun wx=>Lib.run_eql_slice_nil (P:=Try.prog) wx 29 _ ba l.length cap 0 0 Try.underlying29
 rcases ba with _ | ba
 ·have hl0:l=[]:=by
   rcases HC.out with h | ⟨_,_,h,_⟩
   ·exact h
   ·cases h
  have HL0:=Lib.hid hl0;clear hl0
  go_enter Try.func81,Try.ntmps81
  go_wp2
  go_ret
  exact ⟨_,rfl,Or.inl ⟨HL0.out,none,rfl,Or.inl rfl⟩,Below.refl _ _⟩
 ·go_enter Try.func81,Try.ntmps81
  go_wp2_with (at_builtin;refine wpList_append_emptyT rfl (.tmp 5) (.tmp 6) rfl tRT Z.r4_ok rfl rfl (H.out.below (below_box _ _)) HL.out HM.out ?_;intro v' w' hb ho)
  have HO:=Lib.hid ho;clear ho
  go_wp2
  go_ret
  refine ⟨v',rfl,?_,below_from (hb.mono (by simp))⟩
  rcases HO.out with ⟨h1,h2⟩ | ⟨h1,h2⟩
  ·exact Or.inl ⟨h1,_,h2,Or.inr ⟨_,rfl⟩⟩
  ·exact Or.inr ⟨h1,ownsRow_base h2 (by simp)⟩
theorem tPT:ElemT Try.prog 86 88 2 16:=by
 refine ⟨Try.underlying86,?_,by decide⟩
 obtain ⟨i0,hi,hz0,hz1,hz2⟩:=info_parts (show (Try.prog.info? 88).map (fun i=>(i.zero,i.size,i.bytes))=some (some (.agg #[.int .i64 0,.int .i64 0]),2,16) by kernel_rfl)
 exact ⟨i0,_,hi,hz0,hz1,hz2,rfl⟩
set_option maxRecDepth 100000 in
set_option maxHeartbeats 400000 in
theorem clone_pend {v:Value} {l:List Z.Pd} {w:World} (h:Arr w Z.Pd.enc 2 v l) (hl:l.length * 16≤140737488355328) :
  Calls Try.prog 82 #[v] w (RetCl w 88 Z.Pd.enc 2 l):=by
 have h0:=h
 obtain ⟨ba,cap,rfl,hlc,hcm,hc⟩:=h
 have H:=Lib.hid h0;clear h0
 have HC:=Lib.hid hc;clear hc
 have HL:=Lib.hid hl;clear hl
 have HM:=Lib.hid (Nat.le_trans hlc hcm);clear hlc hcm
 have hq:=fun wx=>Lib.run_eql_slice_nil (P:=Try.prog) wx 86 _ ba l.length cap 0 0 Try.underlying86
 rcases ba with _ | ba
 ·have hl0:l=[]:=by
   rcases HC.out with h | ⟨_,_,h,_⟩
   ·exact h
   ·cases h
  have HL0:=Lib.hid hl0;clear hl0
  go_enter Try.func82,Try.ntmps82
  go_wp2
  go_ret
  exact ⟨_,rfl,Or.inl ⟨HL0.out,none,rfl,Or.inl rfl⟩,Below.refl _ _⟩
 ·go_enter Try.func82,Try.ntmps82
  go_wp2_with (at_builtin;refine wpList_append_emptyT rfl (.tmp 5) (.tmp 6) rfl tPT Z.pd_ok rfl rfl (H.out.below (below_box _ _)) HL.out HM.out ?_;intro v' w' hb ho)
  have HO:=Lib.hid ho;clear ho
  go_wp2
  go_ret
  refine ⟨v',rfl,?_,below_from (hb.mono (by simp))⟩
  rcases HO.out with ⟨h1,h2⟩ | ⟨h1,h2⟩
  ·exact Or.inl ⟨h1,_,h2,Or.inr ⟨_,rfl⟩⟩
  ·exact Or.inr ⟨h1,ownsRow_base h2 (by simp)⟩
open Z in
theorem Z.retN_of {α:Type} {w:World} {e:TypeId} {enc:α→List Value} {s:Nat} {l:List α} {d:α} (T:EncT enc s) {r:Ending} {w' : World} (h:RetCl w e enc s l r w'):Z.RetN w 1 (Z.lsT s l.length) (Z.lsO e s enc l d) r w':=by
 obtain ⟨v',rfl,ho,hb⟩:=h
 have hnil:∀ ba,(ba=none∨∃ b,ba=some ⟨b,0,none⟩)→l=[]→v' = .slice ba 0 0→Z.RetN w 1 (Z.lsT s l.length) (Z.lsO e s enc l d) (.returned v') w':=by
  rintro ba hba rfl rfl
  refine ⟨_,rfl,hb,fun b=>⟨⟨fun _=>(ba.map (·.block)).getD 0,fun _=>0,fun _=>ba.isNone,fun _=>.bool true⟩,fun _=>rfl,fun E2 hE2=>?_⟩⟩
  obtain ⟨h1,h2,h3,h4⟩:=hE2 (b,0,0) ⟨Nat.le_refl _,Nat.lt_succ_self _⟩
  have h1:E2.ρ (b,0,0)=(ba.map (·.block)).getD 0:=h1
  have h2:E2.κ (b,0,0)=0:=h2
  have h3:E2.ν (b,0,0)=ba.isNone:=h3
  refine ⟨?_,fun _=>Z.emp,fun x c hx=>?_,fun _ _ _ _ _ _ _ n=>Or.inl rfl,fun x c _ n o hn=>by cases hn⟩
  ·rcases hba with rfl | ⟨q,rfl⟩ <;> simp [Z.lsT,Z.SV.den,Z.SC.den,h1,h2,h3]
  ·rcases Z.atN_one hx with ⟨rfl,rfl⟩ | hx
   ·exact Or.inl ⟨trivial,h2,rfl,rfl⟩
   ·exact (Z.atN_nil hx).elim
 rcases ho with ⟨h0,ba,hv1,hv2⟩ | ⟨hl,ho⟩
 ·exact hnil ba hv2 h0 hv1
 have hA:=OwnE.arr T (Or.inr ho)
 obtain ⟨hlen,⟨rfl,h0⟩ | ⟨g,cap,cur,rfl,hBg,hg,hnc,hcm,hcs,htk⟩⟩:=ho
 ·exact hnil none (Or.inl rfl) (List.eq_nil_of_length_eq_zero h0) rfl
 refine ⟨_,rfl,hb,fun b=>⟨⟨fun _=>g,fun _=>cap,fun _=>false,fun _=>.bool true⟩,fun _=>rfl,fun E2 hE2=>?_⟩⟩
 obtain ⟨h1,h2,h3,h4⟩:=hE2 (b,0,0) ⟨Nat.le_refl _,Nat.lt_succ_self _⟩
 have h1:E2.ρ (b,0,0)=g:=h1
 have h2:E2.κ (b,0,0)=cap:=h2
 have h3:E2.ν (b,0,0)=false:=h3
 have hpos:0<cap:=by have:=List.length_pos_iff.2 hl;omega
 refine ⟨by simp [Z.lsT,Z.SV.den,Z.SC.den,h1,h2,h3],fun x=>Z.sing g (.cells cur e (0,0)),fun x c hx=>?_,fun x y c d hx hy hne n=>?_,fun x c hx n o hn=>?_⟩
 ·rcases Z.atN_one hx with ⟨rfl,rfl⟩ | hx
  ·refine Or.inr ⟨h3,by rw [h2];exact ⟨hnc,hpos⟩,by rw [h2];exact hcm,cur,by rw [h1],by rw [h2];exact hcs,fun k hk=>⟨by simp [Z.ats,T.len],fun j u hu=>?_⟩⟩
   simp only [Z.ats,List.getElem?_map,Option.map_eq_some_iff] at hu
   obtain ⟨u',hu',rfl⟩:=hu
   obtain ⟨ba,cp,e1,_,_,hc⟩:=hA
   rcases hc with hc | ⟨b0,off,e2,hc⟩
   ·exact absurd hc hl
   ·cases e1
    cases e2
    have:=hc k (l.getD k d) (by rw [List.getD_eq_getElem?_getD,List.getElem?_eq_getElem hk];rfl) j u' hu'
    rw [cell_of_row w' _ _ _ e (0,0) hg,Nat.zero_add] at this
    exact ⟨by rw [Z.den_v];exact this,by rw [Z.den_v];exact T.one _ _ (List.mem_of_getElem? hu')⟩
  ·exact (Z.atN_nil hx).elim
 ·rcases Z.atN_one hx with ⟨rfl,rfl⟩ | hx
  ·rcases Z.atN_one hy with ⟨rfl,rfl⟩ | hy
   ·exact absurd rfl hne
   ·exact (Z.atN_nil hy).elim
  ·exact (Z.atN_nil hx).elim
 ·simp only [Z.sing] at hn
  by_cases e:n=g
  ·subst e
   simp at hn
   subst hn
   exact ⟨hg,hBg⟩
  ·simp [e] at hn
end Go.Proofs.Ytmcpdafmkkjlcaa
namespace Go.Proofs.Ytmcpdafmkkjlcaa.Z
open Go Go.RowKit
def stC (b:Nat) (s:LS):List SC:=[.sl (b,0,0) 1 0 s.words.length none,.sl (b+1,0,0) 4 0 s.regs.length none,.sl (b+2,0,0) 1 0 s.places.length none,.sl (b+3,0,0) 1 0 s.bufs.length none]
def bfC (i:Nat) (s:LS) (k:Nat):List SC:=[.sl (i,k,0) 2 0 (s.bufs.getD k []).length none]
def bfO (s:LS) (k:Nat):Blk:=.ar (s.bufs.getD k []).length 2 (ats Pd.enc (s.bufs.getD k []) pd0) 88
def nilC (_:Nat):List SC:=[.v (.slice none 0 0)]
def stO' (b:Nat) (s:LS):Own:=[(b,.one (.ar s.words.length 1 (ats eI s.words 0) 3)),(b+1,.one (.ar s.regs.length 4 (ats R4.enc s.regs r40) 68)),(b+2,.one (.ar s.places.length 1 (ats eI s.places 0) 3)),(b+3,.one (.ar s.bufs.length 1 nilC 86))]
def stO (b:Nat) (s:LS):Own:=[(b,.one (.ar s.words.length 1 (ats eI s.words 0) 3)),(b+1,.one (.ar s.regs.length 4 (ats R4.enc s.regs r40) 68)),(b+2,.one (.ar s.places.length 1 (ats eI s.places 0) 3)),(b+3,.one (.ar s.bufs.length 1 (bfC (b+4) s) 86)),(b+4,.fam s.bufs.length (bfO s))]
theorem ar_same {E:Env} {x:Nm} {n s ty:Nat} {at1 at2:Nat→List SC} {h:PH} (h1:(Blk.ar n s at1 ty).den E x h) (he:∀ e,e<n→(at2 e).map (SC.den E)=(at1 e).map (SC.den E)):(Blk.ar n s at2 ty).den E x h:=by
 simp only [Blk.den] at h1 ⊢
 rcases h1 with h1 | ⟨g1,g2,g3,cells,g4,g5,g6⟩
 ·exact Or.inl h1
 ·refine Or.inr ⟨g1,g2,g3,cells,g4,g5,fun e hlt=>?_⟩
  obtain ⟨k1,k2⟩:=g6 e hlt
  have hl:(at2 e).length=(at1 e).length:=by have:=congrArg List.length (he e hlt);simpa using this
  refine ⟨hl.trans k1,fun j u hu=>?_⟩
  have hj:((at2 e).map (SC.den E))[j]? = some (u.den E):=by rw [List.getElem?_map,hu];rfl
  rw [he e hlt,List.getElem?_map] at hj
  cases hq:(at1 e)[j]? with
  | none=>rw [hq] at hj;cases hj
  | some q =>
   rw [hq] at hj
   simp only [Option.map_some,Option.some.injEq] at hj
   rw [← hj]
   exact k2 j q hq
theorem beg_fam {w:World} {T:Nat→SV} {s:LS} {e:Ending} {w' : World} (hs:∀ k,s.bufs.getD k []=[]) (h:RetN w 4 T (fun b=>stO' b s) e w'):RetN w 5 T (fun b=>stO b s) e w':=by
 obtain ⟨v,rfl,hb,hN⟩:=h
 refine ⟨v,rfl,hb,fun b=>?_⟩
 obtain ⟨N,h1,h2⟩:=hN b
 refine ⟨⟨N.ρ,fun x=>if x.1=b+4 then 0 else N.κ x,fun x=>if x.1=b+4 then true else N.ν x,N.χ⟩,h1,fun E2 hE2=>?_⟩
 obtain ⟨g1,H,g2,g3,g4⟩:=h2 E2 fun x hx=>by
  have hx:b≤x.1∧x.1<b+4:=hx
  have:=hE2 x ⟨hx.1,by omega⟩
  have hne:x.1≠b+4:=by omega
  simp only [Same,hne,if_false] at this
  exact this
 have hf:∀ k,E2.ν (b+4,k,0)=true∧E2.κ (b+4,k,0)=0:=fun k=>by
  have:=hE2 (b+4,k,0) ⟨by simp,by simp⟩
  simp only [Same,if_true] at this
  exact ⟨this.2.2.1,this.2.1⟩
 have hat:∀ x c,atN (stO b s) x=some c→(∃ k,k<s.bufs.length∧x=(b+4,k,0)∧c=bfO s k)∨(x.1≠b+4∧∃ c',atN (stO' b s) x=some c'∧(c=c'∨(x=(b+3,0,0)∧c = .ar s.bufs.length 1 (bfC (b+4) s) 86∧c' = .ar s.bufs.length 1 nilC 86))):=by
  intro x c hx
  simp only [stO] at hx
  rcases atN_one hx with ⟨rfl,rfl⟩ | hx
  ·exact Or.inr ⟨by simp,_,by simp [stO',atN,look,Fm.get],Or.inl rfl⟩
  rcases atN_one hx with ⟨rfl,rfl⟩ | hx
  ·exact Or.inr ⟨by simp,_,by simp [stO',atN,look,Fm.get],Or.inl rfl⟩
  rcases atN_one hx with ⟨rfl,rfl⟩ | hx
  ·exact Or.inr ⟨by simp,_,by simp [stO',atN,look,Fm.get],Or.inl rfl⟩
  rcases atN_one hx with ⟨rfl,rfl⟩ | hx
  ·exact Or.inr ⟨by simp,_,by simp [stO',atN,look,Fm.get],Or.inr ⟨rfl,rfl,rfl⟩⟩
  rcases atN_fam hx with ⟨k,hk,rfl,rfl⟩ | hx
  ·exact Or.inl ⟨k,hk,rfl,rfl⟩
  ·exact (atN_nil hx).elim
 refine ⟨g1,fun x=>if x.1=b+4 then emp else H x,fun x c hx=>?_,fun x y c d hx hy hne n=>?_,fun x c hx n o hn=>?_⟩
 ·rcases hat x c hx with ⟨k,hk,rfl,rfl⟩ | ⟨hne,c',hc',rfl | ⟨rfl,rfl,rfl⟩⟩
  ·simp only [if_true]
   simp only [bfO,hs,List.length_nil]
   exact Or.inl ⟨trivial,(hf k).2,rfl,rfl⟩
  ·simp only [hne,if_false];exact g2 x _ hc'
  ·simp only [hne,if_false]
   refine ar_same (g2 _ _ hc') fun k _=>?_
   simp only [bfC,nilC,hs,List.length_nil,List.map_cons,List.map_nil,SC.den,(hf k).1,(hf k).2]
   simp
 ·rcases hat x c hx with ⟨k,hk,rfl,rfl⟩ | ⟨hne1,c',hc',_⟩
  ·simp [emp]
  ·rcases hat y d hy with ⟨k,hk,rfl,rfl⟩ | ⟨hne2,d',hd',_⟩
   ·simp [emp]
   ·simp only [hne1,hne2,if_false]
    exact g3 x y c' d' hc' hd' hne n
 ·rcases hat x c hx with ⟨k,hk,rfl,rfl⟩ | ⟨hne1,c',hc',_⟩
  ·simp [emp] at hn
  ·simp only [hne1,if_false] at hn
   exact g4 x c' hc' n o hn
def bgT (L:Lt) (b:Nat):SV:=.tup [(true,stC b (beginS L)),(false,[.v (.int .i64 0)])]
theorem begin_ret {P:Program} {A:List Nat} {w:World} {rs:List RS} {L:Lt} {S:St} {aw ar ap ab:Nat→List SC} (i:Nat) (h0:look S.own i=some (.one (.ar L.words.length 1 aw 3))) (h1:look S.own (i+1)=some (.one (.ar L.thr.length 4 ar 68)))
  (h2:look S.own (i+2)=some (.one (.ar L.thr.length 1 ap 3))) (h3:look S.own (i+3)=some (.one (.ar L.thr.length 1 ab 86)))
  (e0:∀ e,e<L.words.length→aw e=ats eI L.words 0 e) (e1:∀ e,e<L.thr.length→ar e=[.v (.int .i64 0),.v (.int .i64 0),.v (.int .i64 0),.v (.int .i64 0)]) (e2:∀ e,e<L.thr.length→ap e=[.v (.int .i64 0)]) (e3:∀ e,e<L.thr.length→ab e=[.v (.slice none 0 0)]) :
  RetVC (mkC P A w rs (RetN w 4 (bgT L) (fun b=>stO' b (beginS L)))) (.tup [(true,[.sl (i,0,0) 1 0 L.words.length none,.sl (i+1,0,0) 4 0 L.thr.length none,.sl (i+2,0,0) 1 0 L.thr.length none,.sl (i+3,0,0) 1 0 L.thr.length none]),(false,[.v (.int .i64 0)])]) S:=by
 refine retN (fun j=>i+j) (fun b=>?_) (fun b=>?_) (fun b=>?_)
 ·simp [bgT,stC,beginS,SV.ren,SC.ren,SC.renL,ren1L,ren1,fromσ,SV.okN,SC.okN,SC.okL,ok1L,NewIds]
 ·simp only [stO',beginS,List.length_replicate]
  refine ⟨⟨⟨by omega,by omega⟩,?_⟩,⟨⟨by omega,by omega⟩,?_⟩,⟨⟨by omega,by omega⟩,?_⟩,⟨⟨by omega,by omega⟩,?_⟩,trivial⟩
  ·simp only [fromσ,atN,Nat.sub_self,Nat.add_zero,h0,Fm.get,and_self,if_true]
   exact arLe_of (Nat.le_refl _) e0
  ·simp only [fromσ,atN,Nat.add_sub_cancel_left,h1,Fm.get,and_self,if_true]
   exact arLe_of (Nat.le_refl _) fun e he=>by rw [e1 e he];simp [ats,List.getD_eq_getElem?_getD,he,r40,R4.enc]
  ·simp only [fromσ,atN,Nat.add_sub_cancel_left,h2,Fm.get,and_self,if_true]
   exact arLe_of (Nat.le_refl _) fun e he=>by rw [e2 e he];simp [ats,List.getD_eq_getElem?_getD,he,eI]
  ·simp only [fromσ,atN,Nat.add_sub_cancel_left,h3,Fm.get,and_self,if_true]
   exact ⟨Nat.le_refl _,rfl,rfl,fun e he=>by rw [e3 e he];simp [nilC,SC.renL,SC.ren,SC.okL,SC.okN]⟩
 ·exact injN_from fun x hx y hy e=>by
   simp [stO',keysL] at hx hy
   omega
theorem agg_ret {P:Program} {A:List Nat} {w:World} {rs:List RS} {L:Lt} {S:St} {c:List SC} {O:Nat→Own} (h:RetVC (mkC P A w rs (RetN w 4 (bgT L) O)) (.tup [(true,c),(false,[.v (.int .i64 0)])]) S):RetVC (mkC P A w rs (RetN w 4 (fun b=>.agg (stC b (beginS L))) O)) (.agg c) S:=by
 intro E a w' hs
 obtain ⟨v,h1,h2,h3⟩:=h E a w' hs
 refine ⟨_,rfl,h2,fun b=>?_⟩
 obtain ⟨N,g1,g2⟩:=h3 b
 refine ⟨N,g1,fun E2 hE2=>?_⟩
 obtain ⟨k1,k2⟩:=g2 E2 hE2
 refine ⟨?_,k2⟩
 cases h1
 simp only [bgT,SV.den,List.map_cons,List.map_nil,den1,Value.tuple.injEq,Array.mk.injEq,List.cons.injEq] at k1
 simp only [SV.den]
 exact k1.1
def ir19:IR:=(.seq (.ops [⟨(some 1),(.box 25 (.t 0)),none⟩,⟨(some 2),(.new 32 [(.v (.slice none 0 0)),(.v (.slice none 0 0)),(.v (.slice none 0 0)),(.v (.slice none 0 0))]),none⟩,⟨(some 3),(.mv (.k (.c (.v (.int .i64 0))))),none⟩]) (.kill [0,3,4,5,6,7,8,9,10,11] (.seq (.seq (.ops [⟨(some 6),(.ld true 2 (.t 1)),none⟩,⟨(some 7),(.call 17 [(.t 6)]),none⟩,⟨(some 4),(.mv (.t 7)),none⟩]) (.kill [6,7] (.seq (.ops [⟨(some 8),(.mv (.t 4)),none⟩,⟨(some 9),(.bin .neq (.t 8) (.k (.c (.v (.int .i64 0))))),none⟩]) (.kill [8] (.cond (.t 9) (.seq (.ops [⟨(some 10),(.build [(.v (.slice none 0 0)),(.v (.slice none 0 0)),(.v (.slice none 0 0)),(.v (.slice none 0 0))] []),none⟩,⟨(some 11),(.mv (.t 4)),none⟩,⟨none,(.st 4 (.t 2) (.t 10)),none⟩,⟨(some 3),(.mv (.t 11)),none⟩]) (.kill [1,4,9,10,11] .ret)) .skip))))) (.kill [3,4,9] (.seq (.ops [⟨(some 12),(.fa 1 (.t 1)),none⟩,⟨(some 13),(.ld false 1 (.t 12)),none⟩,⟨(some 14),(.len (.t 13)),none⟩,⟨(some 5),(.mv (.t 14)),none⟩]) (.kill [12,13,14] (.seq (.draw [(⟨(some 15),(.fa 0 (.t 1)),none⟩,([],[18,19,20,21,22,23])),(⟨(some 16),(.ld false 1 (.t 15)),none⟩,([],[18,19,20,21,22,23])),(⟨(some 17),(.call 44 [(.t 16)]),none⟩,([],[18,19,20,21,22,23])),(⟨(some 18),(.mv (.t 5)),none⟩,([0,1,2],[15,16,17,20,21,22,23])),(⟨(some 19),(.mks 68 4 32 [(.v (.int .i64 0)),(.v (.int .i64 0)),(.v (.int .i64 0)),(.v (.int .i64 0))] (.t 18) (.t 18)),none⟩,([0,1,2],[15,16,17,20,21,22,23])),(⟨(some 20),(.mv (.t 5)),none⟩,([0,1,2,3,4],[15,16,17,18,19,22,23])),(⟨(some 21),(.mks 3 1 8 [(.v (.int .i64 0))] (.t 20) (.t 20)),none⟩,([0,1,2,3,4],[15,16,17,18,19,22,23])),(⟨(some 22),(.mv (.t 5)),none⟩,([0,1,2,3,4,5,6],[15,16,17,18,19,20,21])),(⟨(some 23),(.mks 86 1 24 [(.v (.slice none 0 0))] (.t 22) (.t 22)),none⟩,([0,1,2,3,4,5,6],[15,16,17,18,19,20,21])),(⟨(some 24),(.build [(.v (.slice none 0 0)),(.v (.slice none 0 0)),(.v (.slice none 0 0)),(.v (.slice none 0 0))] [(0,(1,(.t 17))),(1,(1,(.t 19))),(2,(1,(.t 21))),(3,(1,(.t 23)))]),none⟩,([],[])),(⟨none,(.st 4 (.t 2) (.t 24)),none⟩,([],[])),(⟨(some 3),(.mv (.k (.c (.v (.int .i64 0))))),none⟩,([],[]))]) (.kill [1,5,15,16,17,18,19,20,21,22,23,24] .ret))))))))
def rs19:List RS:=[(.cell 2 true 4),(.t 3)]
def nt19:Nat:=25
def ir20:IR:=(.seq (.ops [⟨(some 1),(.box 25 (.t 0)),none⟩,⟨(some 2),(.new 32 [(.v (.slice none 0 0)),(.v (.slice none 0 0)),(.v (.slice none 0 0)),(.v (.slice none 0 0))]),none⟩]) (.kill [0,3,4,5,6,7,8,9,10,11] (.seq (.ops [⟨(some 5),(.fa 1 (.t 1)),none⟩,⟨(some 6),(.ld false 1 (.t 5)),none⟩,⟨(some 7),(.len (.t 6)),none⟩,⟨(some 3),(.mv (.t 7)),none⟩]) (.kill [5,6,7] (.seq (.ops [⟨(some 4),(.mv (.k (.c (.v (.slice none 0 0))))),none⟩]) (.seq (.ops [⟨(some 8),(.mv (.t 4)),none⟩,⟨(some 9),(.fa 0 (.t 1)),none⟩,⟨(some 10),(.ld false 1 (.t 9)),none⟩,⟨(some 11),(.app 3 1 8 [(.v (.int .i64 0))] (.t 8) (.t 10)),none⟩,⟨(some 4),(.mv (.t 11)),none⟩]) (.kill [1,8,9,10,11] (.seq (.draw [(⟨(some 12),(.mv (.t 4)),none⟩,([],[13,14,15,16,17,18])),(⟨(some 13),(.mv (.t 3)),none⟩,([0],[12,15,16,17,18])),(⟨(some 14),(.mks 68 4 32 [(.v (.int .i64 0)),(.v (.int .i64 0)),(.v (.int .i64 0)),(.v (.int .i64 0))] (.t 13) (.t 13)),none⟩,([0],[12,15,16,17,18])),(⟨(some 15),(.mv (.t 3)),none⟩,([0,1,2],[12,13,14,17,18])),(⟨(some 16),(.mks 3 1 8 [(.v (.int .i64 0))] (.t 15) (.t 15)),none⟩,([0,1,2],[12,13,14,17,18])),(⟨(some 17),(.mv (.t 3)),none⟩,([0,1,2,3,4],[12,13,14,15,16])),(⟨(some 18),(.mks 86 1 24 [(.v (.slice none 0 0))] (.t 17) (.t 17)),none⟩,([0,1,2,3,4],[12,13,14,15,16])),(⟨(some 19),(.build [(.v (.slice none 0 0)),(.v (.slice none 0 0)),(.v (.slice none 0 0)),(.v (.slice none 0 0))] [(0,(1,(.t 12))),(1,(1,(.t 14))),(2,(1,(.t 16))),(3,(1,(.t 18)))]),none⟩,([],[])),(⟨none,(.st 4 (.t 2) (.t 19)),none⟩,([],[]))]) (.kill [3,4,12,13,14,15,16,17,18,19] .ret)))))))))
def rs20:List RS:=[(.cell 2 true 4)]
def nt20:Nat:=20
def ir39:IR:=(.seq (.ops [⟨(some 2),(.box 25 (.t 0)),none⟩,⟨(some 4),(.mv (.k (.c (.v (.int .i64 0))))),none⟩]) (.kill [0,3,4,5,6,7,8,9,10,11] (.seq (.seq (.ops [⟨(some 6),(.ld true 2 (.t 2)),none⟩,⟨(some 7),(.call 17 [(.t 6)]),none⟩,⟨(some 5),(.mv (.t 7)),none⟩]) (.kill [2,6,7] (.seq (.ops [⟨(some 8),(.mv (.t 5)),none⟩,⟨(some 9),(.bin .neq (.t 8) (.k (.c (.v (.int .i64 0))))),none⟩]) (.kill [8] (.cond (.t 9) (.seq (.ops [⟨(some 10),(.mv (.t 5)),none⟩,⟨(some 4),(.mv (.t 10)),none⟩]) (.kill [1,5,9,10] .ret)) .skip))))) (.kill [4,5,9] (.seq (.seq (.ops [⟨(some 11),(.mv (.t 1)),none⟩,⟨(some 12),(.bin .lss (.t 11) (.k (.c (.v (.int .i64 1))))),none⟩,⟨(some 13),(.mv (.t 12)),none⟩,⟨(some 14),(.mv (.t 1)),(some (13,false))⟩,⟨(some 15),(.bin .gtr (.t 14) (.k (.c (.v (.int .i64 3))))),(some (13,false))⟩,⟨(some 16),(.pick (.t 13) (.k (.c (.v (.bool true)))) (.t 15)),none⟩]) (.kill [1,11,12,13,14,15] (.cond (.t 16) (.seq (.ops [⟨(some 4),(.mv (.k (.c (.v (.int .i64 191))))),none⟩]) (.kill [16] .ret)) .skip))) (.kill [4,16] (.seq (.ops [⟨(some 4),(.mv (.k (.c (.v (.int .i64 0))))),none⟩]) .ret)))))))
def rs39:List RS:=[(.t 4)]
def nt39:Nat:=17
def ir23:IR:=(.seq (.ops [⟨(some 2),(.mv (.k (.c (.v (.bool false))))),none⟩]) (.kill [1,2,3,4,5,6,7,8,9,10,11] (.seq (.ops [⟨(some 3),(.mv (.t 0)),none⟩,⟨(some 4),(.bin .geq (.t 3) (.k (.c (.v (.int .i64 1))))),none⟩,⟨(some 5),(.mv (.t 4)),none⟩,⟨(some 6),(.mv (.t 0)),(some (5,true))⟩,⟨(some 7),(.bin .leq (.t 6) (.k (.c (.v (.int .i64 3))))),(some (5,true))⟩,⟨(some 8),(.pick (.t 5) (.t 7) (.k (.c (.v (.bool false))))),none⟩,⟨(some 2),(.mv (.t 8)),none⟩]) (.kill [0,3,4,5,6,7,8] .ret))))
def rs23:List RS:=[(.t 2)]
def nt23:Nat:=9
set_option maxRecDepth 100000 in
set_option maxHeartbeats 400000 in
theorem begin_calls (w:World) (v:Value) (L:Lt) (hL:checkB L=true) (hok:LtOk L) (h:LtR w v L):Calls Try.prog 19 #[v] w (RetN w 5 (bgT L) (fun b=>stO b (beginS L))):=by
 suffices hs:Calls Try.prog 19 #[v] w (RetN w 4 (bgT L) (fun b=>stO' b (beginS L))) from hs.mono fun e w' he=>beg_fam (fun k=>by simp [beginS,List.getD_eq_getElem?_getD,List.getElem?_replicate];split <;> rfl) he
 refine enterLt (A:=[]) (c:=ir19) (rs:=rs19) (nt:=nt19) h [.agg (ltS 0)] _ Try.func19 rfl (by kernel_rfl) (by kernel_rfl) rfl (fun E' h0=>by simp only [List.map_cons,List.map_nil,h0]) (of_decide_eq_true rfl) ?_
 obtain ⟨z1,z2,z3,z4⟩:=sz_at hL
 simp (maxSteps:=2000000) only [ir19,nt19,rs19,go_sem,↓runOp,↓reduceIte,Nat.reduceLT,Nat.reduceLeDiff,Nat.reduceAdd,Nat.reduceEqDiff,reduceCtorEq,ltA,ltS]
 refine callV (.c (.v (.int .i64 0))) _ (fun E=>rfl) (fun E a w' hs=>by
  have:=check_calls w' _ L hok (ltL_at hs rfl rfl rfl)
  rw [hL] at this
  exact this) ?_
 simp (maxSteps:=2000000) only [go_sem,↓condS,↓runOp,↓imp_ft,↓imp_ff,↓reduceIte,Nat.reduceLT,Nat.reduceEqDiff,reduceCtorEq]
 refine draw_vc (by kernel_rfl) (mkTab_ok _ _) (of_decide_eq_true rfl) (of_decide_eq_true rfl) ?_
 repeat (first | simp (maxSteps:=2000000) only [go_sem,↓gateD,↓runD,↓reduceIte,Nat.reduceLT,Nat.reduceEqDiff] | rw [dr_cons])
 refine dcallN 1 (lsT 1 L.words.length) (lsO 3 1 eI L.words 0) (fun E a w' hs=>(clone_ints (arr_at (d:=0) hs 0 rfl) (by omega)).mono fun e w2 he=>retN_of (d:=0) eI_ok he) ?_ ?_
 ·simp [newOk,keysL,lsO]
 repeat (first | simp (maxSteps:=2000000) only [go_sem,↓gateD,↓runD,↓reduceIte,Nat.reduceLT,Nat.reduceLeDiff,Nat.reduceAdd,Nat.reduceEqDiff,lsT,lsO] | rw [dr_cons])
 have hn:(L.thr.length:Int)≤(L.thr.length:Nat)∧((L.thr.length:Nat):Int) * 32≤140737488355328∧((L.thr.length:Nat):Int) * 8≤140737488355328∧((L.thr.length:Nat):Int) * 24≤140737488355328∧((L.thr.length:Nat):Int)≤(maxLen:Nat):=by simp only [maxLen];omega
 refine And.intro ⟨hn.1,hn.2.1,hn.2.2.2.2⟩ (And.intro (by simp) (And.intro ⟨hn.1,hn.2.2.1,hn.2.2.2.2⟩ (And.intro (by simp) (And.intro ⟨hn.1,hn.2.2.2.1,hn.2.2.2.2⟩ (And.intro (by simp) (And.intro (by simp) ?_))))))
 exact begin_ret _ rfl rfl rfl rfl (fun _ _=>rfl) (fun _ _=>rfl) (fun _ _=>rfl) (fun _ _=>rfl)
set_option maxRecDepth 100000 in
set_option maxHeartbeats 400000 in
theorem begin_err (w:World) (v:Value) (L:Lt) (hL:checkB L=false) (hok:LtOk L) (h:LtR w v L):Calls Try.prog 19 #[v] w (RetV w (.tuple #[.agg #[.slice none 0 0,.slice none 0 0,.slice none 0 0,.slice none 0 0],.int .i64 190])):=by
 refine enterLt (A:=[]) (c:=ir19) (rs:=rs19) (nt:=nt19) h [.agg (ltS 0)] _ Try.func19 rfl (by kernel_rfl) (by kernel_rfl) rfl (fun E' h0=>by simp only [List.map_cons,List.map_nil,h0]) (of_decide_eq_true rfl) ?_
 simp (maxSteps:=2000000) only [ir19,nt19,rs19,go_sem,↓runOp,↓reduceIte,Nat.reduceLT,Nat.reduceLeDiff,Nat.reduceAdd,Nat.reduceEqDiff,reduceCtorEq,ltA,ltS]
 refine callV (.c (.v (.int .i64 190))) _ (fun E=>rfl) (fun E a w' hs=>by
  have:=check_calls w' _ L hok (ltL_at hs rfl rfl rfl)
  rw [hL] at this
  exact this) ?_
 simp (maxSteps:=2000000) only [go_sem,↓condS,↓runOp,↓imp_tf,↓imp_tt,↓reduceIte,Nat.reduceLT,Nat.reduceLeDiff,Nat.reduceAdd,Nat.reduceEqDiff,Int.reduceBNe]
 exact retV fun E=>by simp [SV.den,SC.den,den1]
set_option maxRecDepth 100000 in
set_option maxHeartbeats 400000 in
theorem rbegin_calls (w:World) (v:Value) (L:Lt) (hL:checkB L=true) (h:LtR w v L):Calls Try.prog 20 #[v] w (RetN w 5 (fun b=>.agg (stC b (beginS L))) (fun b=>stO b (beginS L))):=by
 suffices hs:Calls Try.prog 20 #[v] w (RetN w 4 (fun b=>.agg (stC b (beginS L))) (fun b=>stO' b (beginS L))) from hs.mono fun e w' he=>beg_fam (fun k=>by simp [beginS,List.getD_eq_getElem?_getD,List.getElem?_replicate];split <;> rfl) he
 refine enterLt (A:=[]) (c:=ir20) (rs:=rs20) (nt:=nt20) h [.agg (ltS 0)] _ Try.func20 rfl (by kernel_rfl) (by kernel_rfl) rfl (fun E' h0=>by simp only [List.map_cons,List.map_nil,h0]) (of_decide_eq_true rfl) ?_
 obtain ⟨z1,z2,z3,z4⟩:=sz_at hL
 simp (maxSteps:=2000000) only [ir20,nt20,rs20,go_sem,↓runOp,↓reduceIte,Nat.reduceLT,Nat.reduceAdd,Nat.reduceEqDiff,reduceCtorEq,ltA,ltS]
 repeat (with_reducible refine And.intro (by first | (simp only [maxLen];omega) | omega | decide | (simp;done) | (simp [maxLen];omega)) ?_)
 refine draw_vc (by kernel_rfl) (mkTab_ok _ _) (of_decide_eq_true rfl) (of_decide_eq_true rfl) ?_
 repeat (first | simp (maxSteps:=2000000) only [go_sem,↓gateD,↓runD,↓reduceIte,Nat.reduceLT,Nat.reduceLeDiff,Nat.reduceAdd,Nat.reduceEqDiff] | rw [dr_cons])
 have hn:(L.thr.length:Int)≤(L.thr.length:Nat)∧((L.thr.length:Nat):Int) * 32≤140737488355328∧((L.thr.length:Nat):Int) * 8≤140737488355328∧((L.thr.length:Nat):Int) * 24≤140737488355328∧((L.thr.length:Nat):Int)≤(maxLen:Nat):=by simp only [maxLen];omega
 refine And.intro ⟨hn.1,hn.2.1,hn.2.2.2.2⟩ (And.intro (by simp) (And.intro ⟨hn.1,hn.2.2.1,hn.2.2.2.2⟩ (And.intro (by simp) (And.intro ⟨hn.1,hn.2.2.2.1,hn.2.2.2.2⟩ (And.intro (by simp) (And.intro (by simp) ?_))))))
 exact agg_ret (begin_ret 5 rfl rfl rfl rfl (fun _ _=>rfl) (fun _ _=>rfl) (fun _ _=>rfl) (fun _ _=>rfl))
set_option maxRecDepth 100000 in
set_option maxHeartbeats 400000 in
theorem look_calls (w:World) (v:Value) (L:Lt) (o:Int) (hok:LtOk L) (h:LtR w v L):Calls Try.prog 39 #[v,.int .i64 o] w (RetV w (.int .i64 (if checkB L=true then (if 1≤o∧o≤3 then 0 else 191) else 190))):=by
 refine enterLt (A:=[]) (c:=ir39) (rs:=rs39) (nt:=nt39) h [.agg (ltS 0),.c (.v (.int .i64 o))] _ Try.func39 rfl (by kernel_rfl) (by kernel_rfl) rfl (fun E' h0=>by simp only [List.map_cons,List.map_nil,h0];rfl) (of_decide_eq_true rfl) ?_
 simp (maxSteps:=2000000) only [ir39,nt39,rs39,go_sem,↓runOp,↓reduceIte,Nat.reduceLT,Nat.reduceLeDiff,Nat.reduceAdd,Nat.reduceEqDiff,reduceCtorEq,ltA,ltS]
 refine callV (.c (.v (.int .i64 (errC (checkB L))))) _ (fun E=>rfl) (fun E a w' hs=>check_calls w' _ L hok (ltL_at hs rfl rfl rfl)) ?_
 by_cases hL:checkB L=true
 ·rw [hL]
  simp only [errC,if_true]
  simp (maxSteps:=2000000) only [go_sem,↓condS,↓gateS,↓runOp,↓imp_ft,↓imp_ff,↓reduceIte,Nat.reduceLT,Nat.reduceEqDiff]
  refine both (fun hb=>?_) (fun hb=>?_)
  ·exact retV fun E=>by
    rw [if_neg (by intro h;simp at hb;omega)]
    simp [SV.den,SC.den]
  ·exact retV fun E=>by
    rw [if_pos (by simp at hb;omega)]
    simp [SV.den,SC.den]
 ·have hL:checkB L=false:=by simpa using hL
  rw [hL]
  simp only [errC,Bool.false_eq_true,if_false]
  simp (maxSteps:=2000000) only [go_sem,↓condS,↓runOp,↓imp_tf,↓imp_tt,↓reduceIte,Nat.reduceLT,Nat.reduceEqDiff,Int.reduceBNe]
  exact retV fun E=>by simp [SV.den,SC.den]
set_option maxRecDepth 100000 in
set_option maxHeartbeats 400000 in
theorem isorder_calls (w:World) (o:Int):Calls Try.prog 23 #[.int .i64 o] w (RetV w (.bool (decide (1≤o∧o≤3)))):=by
 refine enter0 (A:=[]) (c:=ir23) (rs:=rs23) (nt:=nt23) [.c (.v (.int .i64 o))] #[.int .i64 o] Try.func23 rfl (by kernel_rfl) (by kernel_rfl) rfl (fun E'=>by simp [SV.den,SC.den]) (of_decide_eq_true rfl) ?_
 simp (maxSteps:=2000000) only [ir23,nt23,rs23,go_sem,↓gateS,↓runOp,↓reduceIte,Nat.reduceLT,Nat.reduceEqDiff,reduceCtorEq]
 exact retV fun E=>by
  simp only [SV.den,SC.den,Value.bool.injEq]
  rw [Bool.eq_iff_iff]
  simp
end Go.Proofs.Ytmcpdafmkkjlcaa.Z
