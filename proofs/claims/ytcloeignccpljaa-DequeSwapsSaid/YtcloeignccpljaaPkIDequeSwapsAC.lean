/- DequeSwapsSaid: what its proof is made of. No condition. -/
import Derived.Test.YtcloeignccpljaaPkIDequeSwapsAB
set_option linter.unusedSimpArgs false
set_option linter.unusedVariables false
namespace Go.Proofs.Ytcloeignccpljaa.Z
open Go Go.RowKit
section
variable {P:Program} {T:TT} {B:Nat} {W:Nat→Prop} {w0:World} {E:Env} {S:St} {a:Act} {w:World}
theorem allOne_den {l:List SC} (h:allOne l=true) (hx:OneC E):∀ (j:Nat) (u:SC),l[j]? = some u→(u.den E).oneCell' = true:=fun j u hu=>one_den hx (allOne_mem h u (List.mem_of_getElem? hu))
theorem mks_ok {t e:Nat} {l c:Operand} {il ic:IX} {ti te:TI} (hT:TOk P T) (ht:look T t=some ti) (htd:ti.desc = .slice e) (he:look T e=some te)
  (hl1:opd l=some il) (hc1:opd c=some ic) {vc:Prop} {out:Out} (h:(stepOut (.mks e te.size te.bytes (scs te.zero.cells) il ic) S).Sel vc out) (hvc:vc) (hs:Sat B W w0 E S a w) :
  ∃ v w',RunsTo ((do pure (Next.value (← Instr.makeSlice t (a.eval l) (a.eval c))):Sem Next).run P w) v w'∧After B W w0 E [] S a w out.val out.cnt out.eff out.arrs v w':=by
 obtain ⟨hut,_⟩:=ti_parts hT ht
 obtain ⟨_,i,hi,hz,hsz,hby⟩:=ti_parts hT he
 rw [htd] at hut
 simp only [stepOut] at h
 split at h
 ·next k1 n k2 m hln hcm =>
  obtain ⟨rfl,rfl⟩:=h
  obtain ⟨h0,hnm,hb,hm,hzc,hpos,h1⟩:=hvc
  have hzl:te.zero.cells.size=te.size:=by rw [len'_eq] at hzc;simpa [scs] using hzc
  have hr:=run_make (P:=P) w t e i te.zero hut hi hz k1 k2 n m h0 hnm (by rw [hby,Int.mul_comm];omega) (by unfold maxLen at hm;omega)
  rw [opd_den hs hl1 hln,opd_den hs hc1 hcm,den_c,den_c,den_v,den_v]
  have hmm:m.toNat≤maxLen:=by omega
  refine det_after (one1 w.heap.size m.toNat false) (one1_one _ _ _) ⟨_,_,Or.inl (run_val hr)⟩ fun E2 hs2 hag=>?_
  have hE:=one1_at hag
  refine ⟨w.alloc (.cells (madeCells te.zero.cells (m.toNat * i.size)) e),Or.inl ?_,fits_allocA (cells:=madeCells te.zero.cells (m.toNat * i.size)) hE (Nat.le_refl _) hmm ?_ ?_ _ (Or.inl rfl)⟩
  ·rw [run_val hr,den_c,den_sl,hE.1,hE.2.1,hE.2.2];simp
  ·rw [← hsz];exact size_madeCells _ _
  ·intro r hr
   rw [len'_eq] at hzc
   refine ⟨hzc,fun j u hu=>⟨?_,allOne_den h1 hs2.one j u hu⟩⟩
   have hj:j<te.size:=by rw [← hzc];exact (List.getElem?_eq_some_iff.1 hu).1
   have hlt:r * te.size+j<m.toNat * i.size:=by
    rw [hsz]
    have:(r+1) * te.size≤m.toNat * te.size:=Nat.mul_le_mul_right _ hr
    rw [Nat.add_mul,Nat.one_mul] at this
    omega
   have hmod:(r * te.size+j) % te.zero.cells.size=j:=by rw [hzl,Nat.mul_comm,Nat.mul_add_mod,Nat.mod_eq_of_lt hj]
   have hu' : te.zero.cells[j]? = some (u.den E2):=by
    simp only [scs,List.getElem?_map,Array.getElem?_toList,Option.map_eq_some_iff] at hu
    obtain ⟨x,hx,rfl⟩:=hu
    rw [den_v];exact hx
   simp only [madeCells]
   simp only [Array.getElem?_map,Array.getElem?_range,hlt,if_true,Option.map_some,hmod]
   rw [getElem!_def,hu']
 ·exact h.elim
theorem RdAt.pre {v:Value} {s m k:Nat} {g:Nat→List SC} (h:RdAt E w v s m g) (hk:k≤m):(Builtin.firstCells s k v).run P w = .ok (cellsOf E k g).toArray w∧(cellsOf E k g).length=k * s∧∀ u∈cellsOf E k g,u.oneCell' = true:=by
 obtain ⟨ba,cap,rfl,h⟩:=h
 have h2:RdAt E w (.slice ba k cap) s k g:=by
  refine ⟨ba,cap,rfl,?_⟩
  rcases h with h | ⟨b,off,rfl,h⟩
  ·exact Or.inl (by omega)
  ·exact Or.inr ⟨b,off,rfl,fun e he=>h e (by omega)⟩
 obtain ⟨h3,h4,h5⟩:=h2.first (P:=P) w rfl
 refine ⟨?_,h4,h5⟩
 rw [← h3]
 cases ba <;> rfl
theorem cpy_ok {t u ty e e' : Nat} {s x:Operand} {is ix:IX} {ti tu te:TI} (hT:TOk P T) (ht:look T t=some ti) (htd:ti.desc = .slice e) (he:look T e=some te)
  (hs1:opd s=some is) (hx1:opd x=some ix) {vc:Prop} {out:Out} (h:(stepOut (.cpy te.size is ix) S).Sel vc out) (hvc:vc) (hs:Sat B W w0 E S a w) :
  ∃ v w',RunsTo ((do pure (Next.value (← Builtin.copy_ #[t,u] ty #[a.eval s,a.eval x])):Sem Next).run P w) v w'∧After B W w0 E [] S a w out.val out.cnt out.eff out.arrs v w':=by
 obtain ⟨hut,_⟩:=ti_parts hT ht
 obtain ⟨_,i,hi,hz,hsz,hby⟩:=ti_parts hT he
 rw [htd] at hut
 simp only [stepOut] at h
 split at h
 ·next xv hxv =>
  split at h
  ·next q m g hsrc =>
   split at h
   ·next y s' o n c hsv =>
    split at h
    ·next p k s'' f t' hlook =>
     obtain ⟨rfl,rfl⟩:=h
     obtain ⟨hp,hq,rfl,rfl,hpos,hok⟩:=hvc
     have rd:∀ E,Sat B W w0 E S a w→RdAt E w (a.eval x) te.size m g:=fun E hs=>by rw [opd_den hs hx1 hxv];exact slSrc_ok hsrc hq hs
     have hmn:Nat.min m n≤m:=Nat.min_le_left _ _
     have hmn2:Nat.min m n≤n:=Nat.min_le_right _ _
     generalize hr:Nat.min m n=r at hmn hmn2
     have hrun:∀ E,Sat B W w0 E S a w→∃ w2,(Builtin.copy_ #[t,u] ty #[a.eval s,a.eval x]).run P w = .ok (.int .i64 (r:Int)) w2∧Fits B W E S w w2 (setN S.own y (.ar k te.size (cpyAt o r f g) t')) []:=by
      intro E hs
      obtain ⟨H,hH,_⟩:=hs.mem
      obtain ⟨hc1,hc2,hc3⟩:=(rd E hs).pre (P:=P) (k:=r) hmn
      have hes:a.eval s = .slice (if E.ν y=true then none else some ⟨E.ρ y,o * te.size,none⟩) n (c.getD (E.κ y - o)):=by rw [opd_den hs hs1 hsv,den_c,den_sl]
      have hlen:(Builtin.lenOf (a.eval x)).run P w = .ok m w:=by
       obtain ⟨ba,cap,e1,_⟩:=rd E hs
       rw [e1];rfl
      rcases ar_heap hH (pkN_at hlook hp) with ⟨hν,hκ,hk0,hHe⟩ | ⟨hν,hkk,hm,cells,hHy,hb,hcs,hcells⟩
      ·have hn0:n=0:=by omega
       have hr0:r=0:=by omega
       refine ⟨w,?_,?_⟩
       ·rw [hes]
        have hc0:cellsOf E r g=[]:=by rw [hr0];simp [cellsOf]
        cases hv:E.ν y <;> simp [Builtin.copy_,run_underlying hut,sizeOf,typeInfo,hi,hlen,hsz,hr,hc1,goInt,hc0,storeCells]
       ·subst hr0
        have hcp:cpyAt o 0 f g=f:=by
         funext e1
         unfold cpyAt
         rw [if_neg (by omega)]
        rw [hcp]
        refine ⟨fun H' hH'=>⟨rfl,rfl,rfl,Nat.le_refl _,fun _ _ _=>rfl,H',fun x b hb=>?_,fun x z b d hb hd hne=>?_,fun x b hb n o hn=>?_⟩,fun _ _ x A h=>by simp [atN,look] at h⟩
        ·rw [atN_setN hlook hp] at hb
         split at hb
         ·split at hb
          ·next e1=>subst e1;cases hb;exact hH'.den _ _ (pkN_at hlook hp)
          ·exact hH'.den _ _ hb
         ·cases hb
        ·have key:∀ x b,atN (setN S.own y (.ar k te.size f t')) x=some b→∃ b',atN S.own x=some b':=by
          intro x b hb
          rw [atN_setN hlook hp] at hb
          split at hb
          ·split at hb
           ·next e1=>subst e1;exact ⟨_,pkN_at hlook hp⟩
           ·exact ⟨_,hb⟩
          ·cases hb
         obtain ⟨b',h1⟩:=key x b hb
         obtain ⟨d',h2⟩:=key z d hd
         exact hH'.disj x z b' d' h1 h2 hne
        ·rw [atN_setN hlook hp] at hb
         split at hb
         ·next e0 =>
          have:∃ b',atN S.own x=some b':=by
           split at hb
           ·next e1=>subst e1;exact ⟨_,pkN_at hlook hp⟩
           ·exact ⟨_,hb⟩
          obtain ⟨b',h1⟩:=this
          exact ⟨(hH'.sub x b' h1 n o hn).1,Or.inr ⟨x,b',(setN_look hlook _ _).2 e0,h1,by rw [hn];simp⟩⟩
         ·cases hb
      ·have hfit:o * te.size+r * te.size≤cells.size:=by
        rw [hcs,← Nat.add_mul]
        exact Nat.mul_le_mul_right _ (by omega)
       have hst:=run_storeCells_at P (E.ρ y) (o * te.size) t' (cellsOf E r g) 0 cells w hb (by rw [hc2];omega) hc3
       simp only [Nat.add_zero] at hst
       refine ⟨w.setRow (E.ρ y) (cells.toList.take (o * te.size)++cellsOf E r g++cells.toList.drop (o * te.size+(cellsOf E r g).length)).toArray,?_,?_⟩
       ·rw [hes,hν]
        simp only [Bool.false_eq_true,if_false]
        simp [Builtin.copy_,run_underlying hut,sizeOf,typeInfo,hi,hlen,hsz,hr,hc1,goInt,hst]
       ·refine fits_write (g:=E.ρ y) (o:=.cells (cells.toList.take (o * te.size)++cellsOf E r g++cells.toList.drop (o * te.size+(cellsOf E r g).length)).toArray t' (0,0)) (b':=.ar k te.size (cpyAt o r f g) t') hlook hp ?_ (fun H hH=>?_) ?_ _ ⟨rfl,rfl,rfl⟩ (heap_setRow hb)
        ·exact (Array.getElem?_eq_some_iff.1 hb).1
        ·rcases ar_heap hH (pkN_at hlook hp) with ⟨_,h3,_⟩ | ⟨_,_,_,cells',h4,h5,_⟩
         ·omega
         ·rw [h4,h5];rfl
        simp only [Blk.den]
        refine Or.inr ⟨hν,hkk,hm,_,rfl,?_,?_⟩
        ·simp only [List.size_toArray,List.length_append,List.length_take,List.length_drop,Array.length_toList,hc2]
         omega
        ·intro e1 he1
         have get:∀ j,(cells.toList.take (o * te.size)++cellsOf E r g++cells.toList.drop (o * te.size+(cellsOf E r g).length)).toArray[j]? = if o * te.size≤j∧j<o * te.size+r * te.size then (cellsOf E r g)[j - o * te.size]? else cells[j]?:=by
          intro j
          obtain ⟨L⟩:=cells
          have e0:(⟨L⟩:Array Value)[j]? = L[j]?:=by simp
          rw [e0]
          have h6:(L.take (o * te.size)++cellsOf E r g++L.drop (o * te.size+(cellsOf E r g).length)).toArray[j]? = (L.take (o * te.size)++(cellsOf E r g++L.drop (o * te.size+(cellsOf E r g).length)))[j]?:=by simp
          have h7:o * te.size+r * te.size≤L.length:=hfit
          rw [h6]
          by_cases h1:j<o * te.size
          ·rw [List.getElem?_append_left (by rw [List.length_take];omega),List.getElem?_take,if_pos h1,if_neg (by omega)]
          ·rw [List.getElem?_append_right (by rw [List.length_take];omega),List.length_take,Nat.min_eq_left (by omega)]
           by_cases h2:j<o * te.size+r * te.size
           ·rw [List.getElem?_append_left (by omega),if_pos ⟨by omega,h2⟩]
           ·rw [List.getElem?_append_right (by omega),if_neg (by omega),List.getElem?_drop]
            congr 1
            omega
         have hgl:∀ e,e<r→(g e).length=te.size:=fun e he=>(rd E hs).lens e (by omega)
         unfold cpyAt
         split
         ·next hin =>
          refine ⟨hgl _ (by omega),fun j u hu=>?_⟩
          have hj:j<te.size:=by rw [← hgl (e1 - o) (by omega)];exact (List.getElem?_eq_some_iff.1 hu).1
          have hmul:o * te.size≤e1 * te.size:=Nat.mul_le_mul_right _ (by omega)
          have hmul2:(e1+1) * te.size≤(o+r) * te.size:=Nat.mul_le_mul_right _ (by omega)
          rw [Nat.add_mul,Nat.one_mul,Nat.add_mul] at hmul2
          rw [get,if_pos ⟨by omega,by omega⟩,show e1 * te.size+j - o * te.size=(e1 - o) * te.size+j by rw [Nat.sub_mul];omega,cellsOf_get hgl (e1 - o) j (by omega) hj,hu]
          exact ⟨rfl,(rd E hs).one _ (by omega) j u hu⟩
         ·next hout =>
          refine ⟨(hcells e1 he1).1,fun j u hu=>?_⟩
          have hj:j<te.size:=by rw [← (hcells e1 he1).1];exact (List.getElem?_eq_some_iff.1 hu).1
          rw [get,if_neg]
          ·exact (hcells e1 he1).2 j u hu
          ·rintro ⟨h1,h2⟩
           rcases Nat.lt_or_ge e1 o with h3 | h3
           ·have:(e1+1) * te.size≤o * te.size:=Nat.mul_le_mul_right _ h3
            rw [Nat.add_mul,Nat.one_mul] at this
            omega
           ·have:(o+r) * te.size≤e1 * te.size:=Nat.mul_le_mul_right _ (by omega)
            rw [Nat.add_mul] at this
            omega
     obtain ⟨w2,h2,_⟩:=hrun E hs
     exact det_after E hs.one ⟨_,_,Or.inl (run_val h2)⟩ fun E2 hs2 _=>let ⟨w3,h3,h4⟩:=hrun E2 hs2;⟨w3,Or.inl (by rw [run_val h3,den_c,den_v]),h4⟩
    ·exact h.elim
   ·exact h.elim
  ·exact h.elim
 ·exact h.elim
def Bnd (v:Option Value) (d r:Int):Prop:=(v=none∧r=d)∨∃ k,v=some (.int k r)
theorem run_slice {t e:Nat} {i:TypeInfo} (hut:P.underlying t=some (.slice e)) (hi:P.info? e=some i) (base:Option Addr) (n cap:Nat) {lo hi' mx:Option Value} {l h m:Int}
  (hlo:Bnd lo 0 l) (hhi:Bnd hi' n h) (hmx:Bnd mx cap m) (himp:mx=none∨hi'≠none) (h0:0≤l) (h1:l≤h) (h2:h≤m) (h3:m≤cap) :
  (Instr.sliceAt t (.slice base n cap) lo hi' mx).run P w = .ok (.slice (if m.toNat=l.toNat then base else base.map (·.add (l.toNat * i.size))) (h.toNat - l.toNat) (m.toNat - l.toNat)) w:=by
 have b:∀ (k:IntKind) (x:Int) (y:Nat) (code:BoundsCode),0≤x→x≤y→(Instr.sliceBound (.int k x) y code).run P w = .ok x.toNat w:=by
  intro k x y code g0 g1
  simp [Instr.sliceBound,asIntOf,g0,g1]
 have hb:(Instr.sliceBounds true n cap lo hi' mx).run P w = .ok (l.toNat,h.toNat,m.toNat) w:=by
  unfold Instr.sliceBounds
  rcases hmx with ⟨rfl,rfl⟩ | ⟨k3,rfl⟩
  ·rcases hhi with ⟨rfl,rfl⟩ | ⟨k2,rfl⟩
   ·rcases hlo with ⟨rfl,rfl⟩ | ⟨k1,rfl⟩
    ·simp
    ·have:=b k1 l n .sliceB h0 h1
     simp [this]
   ·have e2:=b k2 h cap .sliceAcap (by omega) (by omega)
    rcases hlo with ⟨rfl,rfl⟩ | ⟨k1,rfl⟩
    ·simp [e2]
    ·have:=b k1 l h.toNat .sliceB h0 (by omega)
     simp [e2,this]
  ·have e3:=b k3 m cap .slice3Acap (by omega) (by omega)
   rcases hhi with ⟨rfl,rfl⟩ | ⟨k2,rfl⟩
   ·rcases himp with h | h
    ·cases h
    ·exact absurd rfl h
   ·have e2:=b k2 h m.toNat .slice3B (by omega) (by omega)
    rcases hlo with ⟨rfl,rfl⟩ | ⟨k1,rfl⟩
    ·simp [e3,e2]
    ·have:=b k1 l h.toNat .slice3C h0 (by omega)
     simp [e3,e2,this]
 simp only [Instr.sliceAt,Sem.run_bind,run_underlying hut,Result.andThen_ok,Instr.slice,hb,run_sizeOf hi,Sem.run_pure]
theorem slB_bnd (hs:Sat B W w0 E S a w) {lo hi' : Option Operand} {ilo ihi:Option IX} (h1:opdO lo=some ilo) (h2:opdO hi' = some ihi) {n:Nat} {l h:Int} (h3:slB S ilo ihi n=some (l,h)) :
  Bnd (lo.map a.eval) 0 l∧Bnd (hi'.map a.eval) n h:=by
 unfold slB at h3
 have key:∀ {o:Option Operand} {io:Option IX} {d r:Int},opdO o=some io→(match io with | none=>some d | some x=>(S.ev x).bind SV.int?)=some r→Bnd (o.map a.eval) d r:=by
  intro o io d r g1 g2
  cases o with
  | none =>
   simp only [opdO,Option.some.injEq] at g1
   subst g1
   simp only [Option.some.injEq] at g2
   exact Or.inl ⟨rfl,g2.symm⟩
  | some x =>
   simp only [opdO,Option.map_eq_some_iff] at g1
   obtain ⟨ix,hix,rfl⟩:=g1
   simp only [Option.bind_eq_some_iff] at g2
   obtain ⟨v,hv,g2⟩:=g2
   unfold SV.int? at g2
   split at g2
   ·cases g2
    exact Or.inr ⟨_,by rw [Option.map_some,opd_den hs hix hv,den_c,den_v]⟩
   ·cases g2
 split at h3
 ·next l' h' e1 e2 =>
  simp only [Option.some.injEq,Prod.mk.injEq] at h3
  obtain ⟨rfl,rfl⟩:=h3
  exact ⟨key h1 e1,key h2 e2⟩
 ·cases h3
theorem slM_bnd (hs:Sat B W w0 E S a w) {mx:Option Operand} {imx:Option IX} (h1:opdO mx=some imx) {m:Option Int} (h3:slM S imx=some m) :
  (m=none∧mx=none)∨∃ r k,m=some r∧mx.map a.eval=some (.int k r):=by
 cases mx with
 | none =>
  simp only [opdO,Option.some.injEq] at h1
  subst h1
  simp only [slM,Option.some.injEq] at h3
  exact Or.inl ⟨h3.symm,rfl⟩
 | some x =>
  simp only [opdO,Option.map_eq_some_iff] at h1
  obtain ⟨ix,hix,rfl⟩:=h1
  simp only [slM] at h3
  split at h3
  ·next m' hm =>
   simp only [Option.some.injEq] at h3
   subst h3
   simp only [Option.bind_eq_some_iff] at hm
   obtain ⟨v,hv,g2⟩:=hm
   unfold SV.int? at g2
   split at g2
   ·cases g2
    exact Or.inr ⟨_,_,rfl,by rw [Option.map_some,opd_den hs hix hv,den_c,den_v]⟩
   ·cases g2
  ·cases h3
theorem slice_base {ba:Option Addr} {m l s:Nat} (h:l<m∨l=0):(if m=l then ba else ba.map (·.add (l * s)))=ba.map (·.add (l * s)):=by
 split
 ·next e =>
  have:l=0:=by omega
  subst this
  cases ba <;> simp [Addr.add]
 ·rfl
theorem den_xs {y:Nm} {ba:Option Addr} {N cap:Nat} (h:E.χ y = .slice ba N cap) (s o n:Nat) (c:Option Nat):(SC.xs y s o n c).den E = .slice (ba.map (·.add (o * s))) n (c.getD (cap - o)):=by
 simp only [SC.den,h]
 cases ba <;> rfl
theorem add_add (b:Addr) (x y:Nat):(b.add x).add y=b.add (x+y):=by
 unfold Addr.add
 by_cases hx:x=0
 ·subst hx;simp
 ·by_cases hy:y=0
  ·subst hy;simp
  ·simp only [hx,hy,if_false]
   rw [if_neg (by omega)]
   simp [Nat.add_assoc]
theorem slc_ok {t e:Nat} {x:Operand} {lo hi' mx:Option Operand} {ix:IX} {ilo ihi imx:Option IX} {ti te:TI} (hT:TOk P T) (ht:look T t=some ti) (htd:ti.desc = .slice e) (he:look T e=some te)
  (hx1:opd x=some ix) (hlo:opdO lo=some ilo) (hhi:opdO hi' = some ihi) (hmx:opdO mx=some imx) (himp:(ihi.isNone && imx.isSome)=false) {vc:Prop} {out:Out} (h:(stepOut (.slc te.size ix ilo ihi imx) S).Sel vc out) (hvc:vc) :
  (∃ val,out=pureO val∧∀ E,Sat B W w0 E S a w→(Instr.sliceAt t (a.eval x) (lo.map a.eval) (hi'.map a.eval) (mx.map a.eval)).run P w = .ok (val.den E) w) ∨
  (out=endO S te.size∧∀ E,Sat B W w0 E S a w→∃ ba cap,(Instr.sliceAt t (a.eval x) (lo.map a.eval) (hi'.map a.eval) (mx.map a.eval)).run P w = .ok (.slice ba 0 cap) w∧cap≤maxLen):=by
 obtain ⟨hut,_⟩:=ti_parts hT ht
 obtain ⟨_,i,hi,hz,hsz,hby⟩:=ti_parts hT he
 rw [htd] at hut
 have himp' : mx=none∨hi'≠none:=by
  cases mx with
  | none=>exact Or.inl rfl
  | some y =>
   right
   rintro rfl
   simp only [opdO,Option.some.injEq,Option.map_eq_some_iff] at hhi hmx
   obtain ⟨_,_,rfl⟩:=hmx
   subst hhi
   simp at himp
 have himp2:mx.map a.eval=none∨hi'.map a.eval≠none:=by
  rcases himp' with h | h
  ·left;rw [h];rfl
  ·right;cases hi' with
   | none=>exact absurd rfl h
   | some _=>simp
 have bmx:∀ (E:Env) (hs:Sat B W w0 E S a w) (m:Option Int) (cap:Nat),slM S imx=some m→Bnd (mx.map a.eval) cap (m.getD cap):=by
  intro E hs m cap hm
  rcases slM_bnd hs hmx hm with ⟨rfl,rfl⟩ | ⟨r,k,rfl,h2⟩
  ·exact Or.inl ⟨rfl,rfl⟩
  ·exact Or.inr ⟨k,h2⟩
 simp only [stepOut] at h
 split at h
 ·next m hm =>
  split at h
  ·next y s o n c hev =>
   split at h
   ·next l h' p k s' f ty hb hlook =>
    have val:∀ E,Sat B W w0 E S a w→p→∃ cap,a.eval x = .slice (if E.ν y=true then none else some ⟨E.ρ y,o * s,none⟩) n cap∧cap=c.getD (E.κ y - o)∧k≤E.κ y∧(E.ν y=true→k=0):=by
     intro E hs hp
     obtain ⟨H,hH,_⟩:=hs.mem
     refine ⟨_,by rw [opd_den hs hx1 hev,den_c,den_sl],rfl,?_⟩
     rcases ar_heap hH (pkN_at hlook hp) with ⟨_,h2,h3,_⟩ | ⟨h2,h3,_⟩
     ·exact ⟨by omega,fun _=>h3⟩
     ·exact ⟨h3.1,fun h=>by rw [h2] at h;cases h⟩
    split at h
    ·rcases h with ⟨hl0,rfl,rfl⟩ | ⟨hl0,rfl,rfl⟩
     ·obtain ⟨hp,rfl,hs',hon,hq⟩:=hvc
      obtain ⟨rfl,rfl,hl0⟩:=hl0
      refine Or.inr ⟨rfl,fun E hs=>?_⟩
      obtain ⟨cap,e1,e2,hk,hν⟩:=val E hs hp
      obtain ⟨b1,b2⟩:=slB_bnd hs hlo hhi hb
      have hκ:E.κ y≤maxLen:=by
       obtain ⟨H,hH,_⟩:=hs.mem
       rcases ar_heap hH (pkN_at hlook hp) with ⟨_,h2,_,_⟩ | ⟨_,_,h4,_⟩
       ·rw [h2];simp [maxLen]
       ·exact h4
      have hcap:(n:Int)≤cap∧cap≤maxLen:=by
       rw [e2]
       cases c with
       | none=>simp only [Option.getD_none];omega
       | some q=>simp only [Option.getD_some];have:=hq q rfl;omega
      have:=run_slice (P:=P) (w:=w) hut hi (if E.ν y=true then none else some ⟨E.ρ y,o * te.size,none⟩) n cap b1 b2 (bmx E hs none cap hm) himp2 (by omega) (Int.le_refl _) hcap.1 (Int.le_refl _)
      rw [e1,this,Nat.sub_self]
      refine ⟨_,_,rfl,?_⟩
      simp only [Option.getD_none,Int.toNat_natCast]
      omega
     ·obtain ⟨hp,rfl,hs',h0,hlh,hok,hq,hln,hon⟩:=hvc
      refine Or.inl ⟨_,rfl,fun E hs=>?_⟩
      obtain ⟨cap,e1,e2,hk,hν⟩:=val E hs hp
      obtain ⟨b1,b2⟩:=slB_bnd hs hlo hhi hb
      rcases hln with hln | rfl
      ·rcases Int.lt_or_eq_of_le h0 with hpos | hz
       ·have hcap:h'≤cap∧(n:Int)≤cap:=by
         rw [e2]
         cases c with
         | none=>simp only [Option.getD_none];have:=hon hpos;omega
         | some q=>simp only [Option.getD_some];have:=hq q rfl;have:=this.2 hpos;omega
        have hνf:E.ν y=false:=by
         cases h:E.ν y with
         | false=>rfl
         | true=>have:=hν h;have:=hon hpos;omega
        have:=run_slice (P:=P) (w:=w) hut hi (if E.ν y=true then none else some ⟨E.ρ y,o * te.size,none⟩) n cap b1 b2 (bmx E hs none cap hm) himp2 (by omega) hlh hcap.1 (Int.le_refl _)
        rw [e1,this,den_c,den_sl,hνf,hsz]
        simp only [Option.getD_none,Int.toNat_natCast,Bool.false_eq_true,if_false,Option.map_some]
        rw [if_neg (by omega),addr_add0,Nat.add_mul]
        congr 2
        rw [e2]
        cases c with
        | none=>simp only [Option.map_none,Option.getD_none];omega
        | some q=>simp only [Option.map_some,Option.getD_some]
       ·subst hz
        have hcap:h'≤cap:=by
         rw [e2]
         cases c with
         | none=>simp only [Option.getD_none];omega
         | some q=>simp only [Option.getD_some];exact (hq q rfl).1
        have:=run_slice (P:=P) (w:=w) hut hi (if E.ν y=true then none else some ⟨E.ρ y,o * te.size,none⟩) n cap b1 b2 (bmx E hs none cap hm) himp2 (by omega) (by omega) hcap (Int.le_refl _)
        rw [e1,this,den_c,den_sl,e2]
        cases c <;> cases E.ν y <;> simp [Addr.add]
      ·have hcap:h'≤cap:=by
        rw [e2]
        cases c with
        | none=>simp only [Option.getD_none];omega
        | some q=>simp only [Option.getD_some];exact (hq q rfl).1
       have:=run_slice (P:=P) (w:=w) hut hi (if E.ν y=true then none else some ⟨E.ρ y,o * te.size,none⟩) n cap b1 b2 (bmx E hs none cap hm) himp2 (by omega) (by omega) hcap (Int.le_refl _)
       rw [e1,this,den_c,den_sl,e2]
       cases c <;> cases E.ν y <;> simp [Addr.add]
    ·next m =>
     obtain ⟨rfl,rfl⟩:=h
     obtain ⟨hp,rfl,hs',h0,hlh,hhm,hok,hq,hlm⟩:=hvc
     refine Or.inl ⟨_,rfl,fun E hs=>?_⟩
     obtain ⟨cap,e1,e2,hk,hν⟩:=val E hs hp
     obtain ⟨b1,b2⟩:=slB_bnd hs hlo hhi hb
     have hcap:m≤cap:=by
      rw [e2]
      cases c with
      | none=>simp only [Option.getD_none];omega
      | some q=>simp only [Option.getD_some];exact hq q rfl
     have:=run_slice (P:=P) (w:=w) hut hi (if E.ν y=true then none else some ⟨E.ρ y,o * te.size,none⟩) n cap b1 b2 (bmx E hs (some m) cap hm) himp2 h0 hlh hhm hcap
     rw [e1,this,den_c,den_sl,hsz]
     simp only [Option.getD_some]
     rcases hlm with hlm | rfl
     ·rw [if_neg (by omega)]
      cases hν2:E.ν y with
      | true=>simp
      | false=>simp [addr_add0,Nat.add_mul]
     ·simp
      intro _
      cases E.ν y <;> simp [Addr.add]
   ·exact h.elim
  ·next y hev =>
   split at h
   ·next p A hlook =>
    split at h
    ·next l h' hb =>
     have val:∀ E,Sat B W w0 E S a w→p→∃ ba cap,a.eval x = .slice ba A.len cap∧E.χ y = .slice ba A.len cap∧A.len≤cap∧cap≤maxLen:=by
      intro E hs hp
      obtain ⟨ba,cap,hχ,hl,hm,hcell⟩:=hs.arr (pkN_at hlook hp)
      exact ⟨ba,cap,by rw [opd_den hs hx1 hev,den_c,den_xv,hχ],hχ,hl,hm⟩
     have one:∀ {vc:Prop} {out:Out},vc=(p∧A.size=te.size∧0≤l∧l≤h'∧h'≤A.len∧(l<A.len∨l=0))→out=pureO (.c (.xs y te.size l.toNat (h'.toNat - l.toNat) none))→vc→m=none →
       (∃ val,out=pureO val∧∀ E,Sat B W w0 E S a w→(Instr.sliceAt t (a.eval x) (lo.map a.eval) (hi'.map a.eval) (mx.map a.eval)).run P w = .ok (val.den E) w):=by
      rintro _ _ rfl rfl hvc rfl
      obtain ⟨hp,hAs,h0,hlh,hhA,hlA⟩:=hvc
      refine ⟨_,rfl,fun E hs=>?_⟩
      obtain ⟨ba,cap,e1,e2,hle,_⟩:=val E hs hp
      obtain ⟨b1,b2⟩:=slB_bnd hs hlo hhi hb
      have:=run_slice (P:=P) (w:=w) hut hi ba A.len cap b1 b2 (bmx E hs none cap hm) himp2 h0 hlh (by simp only [Option.getD_none];omega) (Int.le_refl _)
      rw [e1,this,den_c,den_xs e2,hsz]
      simp only [Option.getD_none,Int.toNat_natCast]
      rw [slice_base (by omega)]
     split at h
     ·split at h
      ·rcases h with ⟨hl0,rfl,rfl⟩ | ⟨hl0,rfl,rfl⟩
       ·obtain ⟨hp,hAs⟩:=hvc
        obtain ⟨rfl,rfl⟩:=hl0
        refine Or.inr ⟨rfl,fun E hs=>?_⟩
        obtain ⟨ba,cap,e1,e2,hle,hmx'⟩:=val E hs hp
        obtain ⟨b1,b2⟩:=slB_bnd hs hlo hhi hb
        have:=run_slice (P:=P) (w:=w) hut hi ba A.len cap b1 b2 (bmx E hs none cap hm) himp2 (by omega) (Int.le_refl _) (by simp only [Option.getD_none];omega) (Int.le_refl _)
        rw [e1,this,Nat.sub_self]
        refine ⟨_,_,rfl,?_⟩
        simp only [Option.getD_none,Int.toNat_natCast]
        omega
       ·exact Or.inl (one rfl rfl hvc rfl)
      ·obtain ⟨rfl,rfl⟩:=h
       exact Or.inl (one rfl rfl hvc rfl)
     ·obtain ⟨rfl,rfl⟩:=h
      obtain ⟨hp,hAs,h0,hlh,hhm,hmA,hlA⟩:=hvc
      refine Or.inl ⟨_,rfl,fun E hs=>?_⟩
      obtain ⟨ba,cap,e1,e2,hle,_⟩:=val E hs hp
      obtain ⟨b1,b2⟩:=slB_bnd hs hlo hhi hb
      have:=run_slice (P:=P) (w:=w) hut hi ba A.len cap b1 b2 (bmx E hs (some _) cap hm) himp2 h0 hlh hhm (by simp only [Option.getD_some];omega)
      rw [e1,this,den_c,den_xs e2,hsz]
      simp only [Option.getD_some]
      rw [slice_base (by omega)]
    ·exact h.elim
   ·exact h.elim
  ·next y s o n c hev =>
   split at h
   ·next p A hlook =>
    split at h
    ·next l h' hb =>
     have val:∀ E,Sat B W w0 E S a w→p→∃ ba cap,a.eval x = .slice (ba.map (·.add (o * s))) n (c.getD (cap - o))∧E.χ y = .slice ba A.len cap∧A.len≤cap:=by
      intro E hs hp
      obtain ⟨ba,cap,hχ,hl,hm,hcell⟩:=hs.arr (pkN_at hlook hp)
      exact ⟨ba,cap,by rw [opd_den hs hx1 hev,den_c,den_xs hχ],hχ,hl⟩
     have fin:∀ (ba:Option Addr) (l:Nat),(ba.map (·.add (o * te.size))).map (·.add (l * te.size))=ba.map (·.add ((o+l) * te.size)):=by
      intro ba l
      cases ba <;> simp [add_add,Nat.add_mul]
     split at h
     ·obtain ⟨rfl,rfl⟩:=h
      obtain ⟨hp,hAs,rfl,h0,hlh,hon,hq,hln⟩:=hvc
      refine Or.inl ⟨_,rfl,fun E hs=>?_⟩
      obtain ⟨ba,cap,e1,e2,hle⟩:=val E hs hp
      obtain ⟨b1,b2⟩:=slB_bnd hs hlo hhi hb
      have hcap:h'≤(c.getD (cap - o):Nat):=by
       cases c with
       | none=>simp only [Option.getD_none];omega
       | some q=>simp only [Option.getD_some];exact hq q rfl
      have:=run_slice (P:=P) (w:=w) hut hi (ba.map (·.add (o * te.size))) n (c.getD (cap - o)) b1 b2 (bmx E hs none _ hm) himp2 h0 hlh (by simp only [Option.getD_none];omega) (Int.le_refl _)
      rw [e1,this,den_c,den_xs e2,hsz]
      simp only [Option.getD_none,Int.toNat_natCast]
      rw [slice_base (by omega),fin]
      congr 2
      cases c with
      | none=>simp only [Option.map_none,Option.getD_none];omega
      | some q=>simp only [Option.map_some,Option.getD_some]
     ·obtain ⟨rfl,rfl⟩:=h
      obtain ⟨hp,hAs,rfl,h0,hlh,hhm,hmn,hon,hq,hln⟩:=hvc
      refine Or.inl ⟨_,rfl,fun E hs=>?_⟩
      obtain ⟨ba,cap,e1,e2,hle⟩:=val E hs hp
      obtain ⟨b1,b2⟩:=slB_bnd hs hlo hhi hb
      have hcap:n≤c.getD (cap - o):=by
       cases c with
       | none=>simp only [Option.getD_none];omega
       | some q=>simp only [Option.getD_some];exact hq q rfl
      have:=run_slice (P:=P) (w:=w) hut hi (ba.map (·.add (o * te.size))) n (c.getD (cap - o)) b1 b2 (bmx E hs (some _) _ hm) himp2 h0 hlh hhm (by simp only [Option.getD_some];omega)
      rw [e1,this,den_c,den_xs e2,hsz]
      simp only [Option.getD_some]
      rw [slice_base (by omega),fin]
    ·exact h.elim
   ·exact h.elim
  ·exact h.elim
 ·exact h.elim
end
end Go.Proofs.Ytcloeignccpljaa.Z
namespace Go.Proofs.Ytcloeignccpljaa.Z
open Go Go.RowKit
section
variable {P:Program} {T:TT} {B:Nat} {W:Nat→Prop} {w0:World} {E:Env} {S:St} {a:Act} {w:World}
def KeyT (P:Program) (kt:TypeId):KK→Prop
 | .int k=>P.underlying kt=some (.int k)
 | .arr n k=>∃ e i,P.underlying kt=some (.array n e)∧P.underlying e=some (.int k)∧P.info? e=some i∧i.size=1
theorem enc_int {k:IntKind} {a:List Int} (h:a.length=1):∃ n,a=[n]∧KK.enc (.int k) a = .int k n:=by
 match a,h with
 | [n],_=>exact ⟨n,rfl,rfl⟩
theorem eqItems_ints {e:TypeId} {k:IntKind} (hue:P.underlying e=some (.int k)) (d:Nat) (a b:List Int) (hl:a.length=b.length):∀ (n j:Nat),j+n=a.length →
  (Op.eqItems (d+1) e 1 (a.map (Value.int k)).toArray (b.map (Value.int k)).toArray (List.range' j n)).run P w = .ok (a.drop j == b.drop j) w
 | 0,j,h=>by
  have e1:a.drop j=[]:=List.drop_eq_nil_of_le (by omega)
  have e2:b.drop j=[]:=List.drop_eq_nil_of_le (by omega)
  rw [e1,e2]
  rfl
 | n+1,j,h=>by
  have hp:∀ c:List Int,(hj:j<c.length)→(part e (c.map (Value.int k)).toArray (j * 1)).run P w = .ok (.int k c[j]) w:=by
   intro c hj
   simp only [part,Sem.run_bind,run_isAgg hue,isAggD,Result.andThen_ok,Bool.false_eq_true,if_false]
   simp [hj]
  have ha:j<a.length:=by omega
  have hb:j<b.length:=by omega
  rw [List.range'_succ]
  simp only [Op.eqItems,Sem.run_bind,hp a ha,hp b hb,Result.andThen_ok,run_equalIn_int w d e k k _ _ hue]
  rw [List.drop_eq_getElem_cons ha,List.drop_eq_getElem_cons hb]
  have ih:=eqItems_ints hue d a b hl n (j+1) (by omega)
  have hbeq:(a[j] :: a.drop (j+1) == b[j] :: b.drop (j+1))=((a[j] == b[j]) && (a.drop (j+1) == b.drop (j+1))):=rfl
  rw [hbeq]
  cases h1:a[j] == b[j] with
  | true=>simpa using ih
  | false=>simp
theorem key_eq {kt:TypeId} {kk:KK} (hk:KeyT P kt kk) {a b:List Int} (ha:a.length=kk.len) (hb:b.length=kk.len):(Op.equal kt (kk.enc a) (kk.enc b)).run P w = .ok (a == b) w:=by
 cases kk with
 | int k =>
  obtain ⟨n,rfl,e1⟩:=enc_int (k:=k) ha
  obtain ⟨m,rfl,e2⟩:=enc_int (k:=k) hb
  rw [e1,e2]
  unfold Op.equal
  have:=run_equalIn_int (P:=P) w 9999 kt k k n m hk
  rw [show Op.maxDepth=9999+1 from rfl,this]
  congr 1
  simp
 | arr n k =>
  obtain ⟨e,i,h1,h2,h3,h4⟩:=hk
  unfold Op.equal
  rw [show Op.maxDepth=9999+1 from rfl]
  simp only [KK.enc]
  rw [run_equalIn_array (w:=w) 9999 _ _ h1 h3,show P.cellsOf e=1 by simp [Program.cellsOf,h3,h4]]
  have:=eqItems_ints (P:=P) (w:=w) h2 9998 a b (by rw [ha,hb]) n 0 (by rw [ha];simp [KK.len])
  rw [List.range_eq_range',this]
  simp
theorem run_checkKey {kt:TypeId} {kk:KK} (hk:KeyT P kt kk) {a:List Int} (ha:a.length=kk.len) (em:Bool):(Instr.checkKey em 10000 kt (kk.enc a)).run P w = .ok () w:=by
 cases kk with
 | int k =>
  obtain ⟨n,rfl,e1⟩:=enc_int (k:=k) ha
  rw [e1]
  have hk:P.underlying kt=some (.int k):=hk
  unfold Instr.checkKey
  simp [run_underlying hk]
 | arr n k =>
  obtain ⟨e,i,h1,h2,h3,h4⟩:=hk
  have hla:a.length=n:=ha
  unfold Instr.checkKey
  simp only [Sem.run_bind,run_underlying h1,Result.andThen_ok,KK.enc]
  rw [Std.Legacy.Range.forIn_eq_forIn_range']
  simp only [Std.Legacy.Range.size,Nat.sub_zero,Nat.add_one_sub_one,Nat.div_one]
  have key:∀ (m j:Nat),j+m=n→(forIn (m:=Sem) (List.range' j m) PUnit.unit fun i _=>do
    Instr.checkKey em 9999 e (← part e (a.map (Value.int k)).toArray (i * (← sizeOf e)))
    pure (ForInStep.yield PUnit.unit)).run P w = .ok PUnit.unit w:=by
   intro m
   induction m with
   | zero=>intro j _;rfl
   | succ m ih =>
    intro j hj
    have hp:(part e (a.map (Value.int k)).toArray (j * 1)).run P w = .ok (.int k (a[j]'(by omega))) w:=by
     simp only [part,Sem.run_bind,run_isAgg h2,isAggD,Result.andThen_ok,Bool.false_eq_true,if_false]
     have:j<a.length:=by omega
     simp [this]
    rw [List.range'_succ,List.forIn_cons]
    have hck:(Instr.checkKey em 9999 e (.int k (a[j]'(by omega)))).run P w = .ok () w:=by
     unfold Instr.checkKey
     simp [run_underlying h2]
    simp only [Sem.run_bind,run_sizeOf h3,h4,Result.andThen_ok,hp,hck,Sem.run_pure]
    exact ih (j+1) (by omega)
  have:=key n 0 (by omega)
  rw [this]
  rfl
theorem run_findKey' {kt:TypeId} {kk:KK} (hk:KeyT P kt kk) (kd:IntKind) {a:List Int} (ha:a.length=kk.len) (L:List MEnt) (hL:∀ e∈L,e.key.length=kk.len) :
  (Instr.findKey kt (kk.enc a) (L.map (MEnt.den kk kd))).run P w = .ok ((fnd a L 0).map fun p=>(p.1,Value.int kd p.2)) w:=by
 cases kk with
 | int k =>
  obtain ⟨n,rfl,e1⟩:=enc_int (k:=k) ha
  have hk:P.underlying kt=some (.int k):=hk
  have key:∀ (L:List MEnt) (i:Nat),(∀ e∈L,e.key.length=1)→Instr.findNow (.int k) (.int k n) (L.map (MEnt.den (.int k) kd)) i=some ((fnd [n] L i).map fun p=>(p.1,Value.int kd p.2)):=by
   intro L
   induction L with
   | nil=>intro i _;rfl
   | cons e r ih =>
    intro i h
    obtain ⟨m,e2,e3⟩:=enc_int (k:=k) (h e (by simp))
    simp only [List.map_cons,Instr.findNow,MEnt.den,e3]
    simp only [Instr.sameNow,if_true,fnd,e2,List.cons.injEq,and_true]
    by_cases hnm:n=m
    ·subst hnm
     simp
    ·have h1:(n == m)=false:=by simp [hnm]
     rw [h1,if_neg (fun h=>hnm h.symm)]
     exact ih (i+1) (fun e he=>h e (by simp [he]))
  rw [e1]
  unfold Instr.findKey
  simp only [Sem.run_bind,run_underlying hk,Result.andThen_ok,key L 0 hL,Sem.run_pure]
 | arr n k =>
  have hk':=hk
  obtain ⟨e,i,h1,h2,h3,h4⟩:=hk
  have key:∀ (L:List MEnt) (j:Nat),(∀ e∈L,e.key.length=n)→(Instr.findAsking kt (KK.enc (.arr n k) a) (L.map (MEnt.den (.arr n k) kd)) j).run P w = .ok ((fnd a L j).map fun p=>(p.1,Value.int kd p.2)) w:=by
   intro L
   induction L with
   | nil=>intro j _;rfl
   | cons x r ih =>
    intro j h
    have he:=key_eq (w:=w) hk' ha (h x (by simp))
    simp only [List.map_cons,Instr.findAsking,MEnt.den,Sem.run_bind,he,Result.andThen_ok,fnd]
    by_cases hx:x.key=a
    ·rw [if_pos hx]
     simp [hx]
    ·have h5:(a == x.key)=false:=by simp;exact fun h=>hx h.symm
     rw [if_neg hx,h5]
     exact ih (j+1) (fun e he=>h e (by simp [he]))
  unfold Instr.findKey
  simp only [Sem.run_bind,run_underlying h1,Result.andThen_ok]
  cases L with
  | nil=>simp [Instr.findNow,fnd]
  | cons x r =>
   have:Instr.findNow (.array n e) (KK.enc (.arr n k) a) ((x :: r).map (MEnt.den (.arr n k) kd)) 0=none:=by
    simp [Instr.findNow,Instr.sameNow]
   rw [this]
   exact key (x :: r) 0 hL
theorem mapKind_ok {T:TT} (hT:TOk P T) {t:Nat} {kk:KK} {kd:IntKind} (h:mapKind T t=some (kk,kd)):∃ kt et,P.underlying t=some (.map kt et)∧KeyT P kt kk∧∀ w:World,(zeroValue et).run P w = .ok (.int kd 0) w:=by
 unfold mapKind at h
 simp only [Option.bind_eq_some_iff] at h
 obtain ⟨ti,hti,h⟩:=h
 split at h
 ·next k e hd =>
  simp only [Option.bind_eq_some_iff] at h
  obtain ⟨tk,htk,te,hte,h⟩:=h
  obtain ⟨hu,_⟩:=ti_parts hT hti
  obtain ⟨huk,_⟩:=ti_parts hT htk
  obtain ⟨hue,ie,hie,hze,_⟩:=ti_parts hT hte
  refine ⟨k,e,by rw [hu,hd],?_⟩
  have zero:∀ kd',zEq te.zero (.int kd' 0)=true→∀ w:World,(zeroValue e).run P w = .ok (.int kd' 0) w:=by
   intro kd' hz w
   rw [run_zeroValue hie hze,zEq_eq hz]
  split at h
  ·next kd' hkd =>
   split at h
   ·next kk' hkk =>
    split at h
    ·next hz =>
     simp only [Option.some.injEq,Prod.mk.injEq] at h
     obtain ⟨rfl,rfl⟩:=h
     exact ⟨by rw [KeyT,huk,hkk],zero _ hz⟩
    ·cases h
   ·next n x hkk =>
    simp only [Option.bind_eq_some_iff] at h
    obtain ⟨tx,htx,h⟩:=h
    obtain ⟨hux,ix,hix,_,hsx,_⟩:=ti_parts hT htx
    split at h
    ·next kk' hxx =>
     split at h
     ·next hz =>
      simp only [Bool.and_eq_true,beq_iff_eq] at hz
      simp only [Option.some.injEq,Prod.mk.injEq] at h
      obtain ⟨rfl,rfl⟩:=h
      exact ⟨⟨x,ix,by rw [huk,hkk],by rw [hux,hxx],hix,by rw [hsx,hz.1.2]⟩,zero _ hz.1.1⟩
     ·cases h
    ·cases h
   ·cases h
  ·cases h
 ·cases h
theorem intsOf_den {k:IntKind}:∀ {l:List SC} {a:List Int},intsOf k l=some a→∀ E:Env,l.map (SC.den E)=a.map (Value.int k)
 | [],a,h,E=>by
  simp only [intsOf,Option.some.injEq] at h
  subst h
  rfl
 | c :: r,a,h,E=>by
  unfold intsOf at h
  split at h
  ·next heq=>cases heq
  ·next k' n r' heq =>
   cases heq
   split at h
   ·next hk =>
    simp only [Option.map_eq_some_iff] at h
    obtain ⟨b,hb,rfl⟩:=h
    rw [List.map_cons,List.map_cons,den_v,hk,intsOf_den hb E]
   ·cases h
  ·cases h
theorem keyOf_den {kk:KK} {v:SV} {a:List Int} (h:keyOf kk v=some a) (E:Env):v.den E=kk.enc a:=by
 unfold keyOf at h
 split at h
 ·split at h
  ·next hk =>
   simp only [Option.some.injEq] at h
   subst h
   rw [den_c,den_v,hk];rfl
  ·cases h
 ·rw [den_agg,intsOf_den h E];rfl
 ·cases h
theorem mp_heap {own:Own} {H:Nm→PH} (hH:HeapOk B W E own H w) {x:Nm} {kk:KK} {kd:IntKind} {f:List Int→Option Int} (h:atN own x=some (.mp kk kd f)) :
  ∃ es clock,H x=sing (E.ρ x) (.map es clock)∧w.heap[E.ρ x]? = some (.map es clock)∧MapOk kk kd f es clock:=by
 have h1:=hH.den x _ h
 simp only [Blk.den] at h1
 obtain ⟨es,clock,h2,h3⟩:=h1
 exact ⟨es,clock,h2,(hH.sub x _ h (E.ρ x) _ (by rw [h2];simp [sing])).1,h3⟩
theorem run_getObj {r:Nat} {es:Array MapEntry} {clock:Nat} (h:w.heap[r]? = some (.map es clock)):(getObj r).run P w = .ok (.map es clock) w:=by
 simp [getObj,Sem.run,h]
theorem mkm_ok {t:Nat} {kk:KK} {kd:IntKind} (hT:TOk P T) (hk:mapKind T t=some (kk,kd)) {vc:Prop} {out:Out} (h:(stepOut (.mkm kk kd) S).Sel vc out) :
  ∃ v w',RunsTo ((do pure (Next.value (← Instr.makeMap t none)):Sem Next).run P w) v w'∧After B W w0 E [] S a w out.val out.cnt out.eff out.arrs v w':=by
 simp only [stepOut] at h
 obtain ⟨rfl,rfl⟩:=h
 have hr:(Instr.makeMap t none).run P w = .ok (.map (some w.heap.size)) (w.alloc (.map #[] 0)):=by
  simp [Instr.makeMap]
 refine det_after (one1 w.heap.size 0 false) (one1_one _ _ _) ⟨_,_,Or.inl (run_val hr)⟩ fun E2 hs2 hag=>?_
 have hE:=one1_at hag
 refine ⟨w.alloc (.map #[] 0),Or.inl ?_,fits_alloc (o:=.map #[] 0) ?_ _ (Or.inl rfl)⟩
 ·rw [run_val hr,den_c]
  simp only [SC.den,hE.1]
 ·simp only [Blk.den,hE.1]
  exact ⟨#[],0,rfl,[],rfl,fun e he=>(by cases he),List.nodup_nil,fun a _=>rfl,List.nodup_nil⟩
theorem lkp_ok {t:Nat} {kk:KK} {kd:IntKind} {ok:Bool} {m k:Operand} {im ik:IX} (hT:TOk P T) (hk:mapKind T t=some (kk,kd)) (hm:opd m=some im) (hki:opd k=some ik) {vc:Prop} {out:Out} (h:(stepOut (.lkp kk kd ok im ik) S).Sel vc out) (hvc:vc) :
  ∃ val,out=pureO val∧∀ E,Sat B W w0 E S a w→(Instr.lookup t (a.eval m) (a.eval k) ok).run P w = .ok (val.den E) w:=by
 obtain ⟨kt,et,hu,hkt,hz⟩:=mapKind_ok hT hk
 simp only [stepOut] at h
 split at h
 ·next x kv hev hkv =>
  split at h
  ·next p kk' kd' f b hlook hkey =>
   obtain ⟨rfl,rfl⟩:=h
   obtain ⟨hp,rfl,rfl,hbl⟩:=hvc
   refine ⟨_,rfl,fun E hs=>?_⟩
   obtain ⟨H,hH,_⟩:=hs.mem
   obtain ⟨es,clock,_,hb,L,rfl,hL,hnd,hf,_⟩:=mp_heap hH (pkN_at hlook hp)
   have hfk:=run_findKey' (w:=w) hkt kd' hbl L (fun e he=>(hL e he).1)
   rw [opd_den hs hm hev,opd_den hs hki hkv,keyOf_den hkey,den_c]
   simp only [SC.den,Instr.lookup,Sem.run_bind,run_underlying hu,Result.andThen_ok,run_getObj hb,Sem.run_pure,run_checkKey hkt hbl,hfk,hf b hbl]
   cases fnd b L 0 with
   | none=>cases ok <;> simp [hz,SV.den,SC.den,den1]
   | some q=>cases ok <;> simp [SV.den,SC.den,den1]
  ·next p kk' kd' g b hlook hkey =>
   split at h
   ·exact h.elim
   ·next hok =>
    have hok:ok=false:=by simpa using hok
    subst hok
    obtain ⟨rfl,rfl⟩:=h
    obtain ⟨hp,rfl,rfl,hbl⟩:=hvc
    refine ⟨_,rfl,fun E hs=>?_⟩
    obtain ⟨H,hH,_⟩:=hs.mem
    have h1:=hH.den x _ (pkN_at hlook hp)
    simp only [Blk.den] at h1
    obtain ⟨es,clock,h2,f,⟨L,rfl,hL,hnd,hf,_⟩,hg⟩:=h1
    have hb:=(hH.sub x _ (pkN_at hlook hp) (E.ρ x) (.map (L.map (MEnt.den kk' kd')).toArray clock) (by rw [h2];simp [sing])).1
    have hfk:=run_findKey' (w:=w) hkt kd' hbl L (fun e he=>(hL e he).1)
    rw [opd_den hs hm hev,opd_den hs hki hkv,keyOf_den hkey,den_c,← hg b hbl]
    simp only [SC.den,Instr.lookup,Sem.run_bind,run_underlying hu,Result.andThen_ok,run_getObj hb,Sem.run_pure,run_checkKey hkt hbl,hfk,hf b hbl]
    cases fnd b L 0 with
    | none=>simp [hz,SV.den,SC.den]
    | some q=>simp [SV.den,SC.den]
  ·exact h.elim
 ·exact h.elim
theorem fnd_get {a:List Int}:∀ {L:List MEnt} {i j:Nat} {v:Int},fnd a L i=some (j,v)→i≤j∧∃ e,L[j - i]? = some e∧e.key=a∧e.val=v
 | [],i,j,v,h=>by cases h
 | e :: r,i,j,v,h=>by
  simp only [fnd] at h
  split at h
  ·next hk =>
   cases h
   exact ⟨Nat.le_refl _,e,by simp,hk,rfl⟩
  ·obtain ⟨h1,x,h2,h3,h4⟩:=fnd_get h
   refine ⟨by omega,x,?_,h3,h4⟩
   rw [show j - i=(j - (i+1))+1 by omega]
   simpa using h2
theorem fnd_none {a:List Int}:∀ {L:List MEnt} {i:Nat},fnd a L i=none→∀ e∈L,e.key≠a
 | [],i,h,e,he=>by cases he
 | x :: r,i,h,e,he=>by
  simp only [fnd] at h
  split at h
  ·cases h
  ·next hk =>
   rcases List.mem_cons.1 he with rfl | he
   ·exact hk
   ·exact fnd_none h e he
def MEnt.set (a:List Int) (n:Int) (e:MEnt):MEnt:=if e.key=a then ⟨e.key,n,e.born⟩ else e
theorem fnd_set {a b:List Int} {n:Int}:∀ {L:List MEnt} {i:Nat},fnd b (L.map (MEnt.set a n)) i=(fnd b L i).map fun p=>(p.1,if b=a then n else p.2)
 | [],i=>rfl
 | e :: r,i=>by
  have hk:(MEnt.set a n e).key=e.key:=by unfold MEnt.set;split <;> rfl
  simp only [List.map_cons,fnd,hk]
  split
  ·next h =>
   simp only [Option.map_some,Option.some.injEq,Prod.mk.injEq,true_and]
   unfold MEnt.set
   rw [h]
   split <;> rfl
  ·exact fnd_set
theorem fnd_push {b:List Int} (e:MEnt):∀ {L:List MEnt} {i:Nat},fnd b (L++[e]) i=(fnd b L i).or (if e.key=b then some (i+L.length,e.val) else none)
 | [],i=>by simp only [List.nil_append,fnd,List.length_nil,Nat.add_zero];rfl
 | x :: r,i=>by
  simp only [List.cons_append,fnd]
  split
  ·rfl
  ·rw [fnd_push e]
   simp only [List.length_cons]
   rw [show i+1+r.length=i+(r.length+1) by omega]
theorem modify_set {a:List Int} {n:Int} {L:List MEnt} {j:Nat} {e:MEnt} (hnd:(L.map (·.key)).Nodup) (hj:L[j]? = some e) (hk:e.key=a):L.modify j (fun e=>⟨e.key,n,e.born⟩)=L.map (MEnt.set a n):=by
 apply List.ext_getElem?
 intro i
 rw [List.getElem?_modify,List.getElem?_map]
 cases hi:L[i]? with
 | none=>simp
 | some x =>
  by_cases e1:j=i
  ·subst e1
   rw [hi] at hj
   cases hj
   simp [MEnt.set,hk]
  ·simp only [e1,if_false,Option.map_some]
   have:x.key≠a:=by
    intro h
    apply e1
    have h1:(L.map (·.key))[j]? = some a:=by rw [List.getElem?_map,hj,← hk];rfl
    have h2:(L.map (·.key))[i]? = some a:=by rw [List.getElem?_map,hi,← h];rfl
    have hjl:j<(L.map (·.key)).length:=(List.getElem?_eq_some_iff.1 h1).1
    exact (List.getElem?_inj hjl hnd).1 (h1.trans h2.symm)
   unfold MEnt.set
   rw [if_neg this]
   rfl
theorem sameBits_enc {kk:KK} {a:List Int} (h:a.length=kk.len):Instr.sameBits 10000 (kk.enc a) (kk.enc a)=true:=by
 cases kk with
 | int k =>
  obtain ⟨n,rfl,e1⟩:=enc_int (k:=k) h
  rw [e1]
  simp [Instr.sameBits]
 | arr n k =>
  simp only [KK.enc,Instr.sameBits,BEq.rfl,Bool.true_and,List.all_eq_true]
  intro p hp
  have:p.1=p.2:=by
   have hz:∀ l:List Value,∀ q∈l.zip l,q.1=q.2:=by
    intro l
    induction l with
    | nil=>intro q hq;simp at hq
    | cons x r ih =>
     intro q hq
     simp only [List.zip_cons_cons,List.mem_cons] at hq
     rcases hq with rfl | hq
     ·rfl
     ·exact ih q hq
   exact hz _ p hp
  obtain ⟨x,y⟩:=p
  simp only at this
  subst this
  have hx:=(List.of_mem_zip hp).1
  simp only [List.mem_map] at hx
  obtain ⟨z,_,rfl⟩:=hx
  simp [Instr.sameBits]
theorem born_push {kk:KK} {L:List MEnt} {clock:Nat} {b:List Int} {n:Int} (hL:∀ e∈L,e.key.length=kk.len∧e.born<clock) (hnb:(L.map (·.born)).Nodup):((L++[(⟨b,n,clock⟩:MEnt)]).map (·.born)).Nodup:=by
 rw [List.map_append,List.nodup_append]
 refine ⟨hnb,by simp,?_⟩
 intro q hq q' hq'
 simp only [List.map_cons,List.map_nil,List.mem_singleton] at hq'
 subst hq'
 obtain ⟨e,he,rfl⟩:=List.mem_map.1 hq
 have:=(hL e he).2
 omega
theorem born_set {a:List Int} {n:Int} {L:List MEnt}:(L.map (MEnt.set a n)).map (·.born)=L.map (·.born):=by
 rw [List.map_map]
 refine List.map_congr_left fun e _=>?_
 simp only [Function.comp,MEnt.set]
 split <;> rfl
theorem mup_ok {t:Nat} {kk:KK} {kd:IntKind} {m k v:Operand} {im ik iv:IX} (hT:TOk P T) (hk:mapKind T t=some (kk,kd)) (hm:opd m=some im) (hki:opd k=some ik) (hvi:opd v=some iv) {vc:Prop} {out:Out} (h:(stepOut (.mup kk kd im ik iv) S).Sel vc out) (hvc:vc) :
  out.val = .c (.v undef)∧out.cnt=0∧out.arrs=[]∧∀ E,Sat B W w0 E S a w→∃ w',(Instr.mapUpdate t (a.eval m) (a.eval k) (a.eval v)).run P w = .ok () w'∧Fits B W E S w w' out.eff []:=by
 obtain ⟨kt,et,hu,hkt,hz⟩:=mapKind_ok hT hk
 simp only [stepOut] at h
 split at h
 ·next x kv kd'' n hev hkv hvv =>
  split at h
  ·next p kk' kd' f b hlook hkey =>
   obtain ⟨rfl,rfl⟩:=h
   obtain ⟨hp,rfl,rfl,rfl,hbl⟩:=hvc
   refine ⟨rfl,rfl,rfl,fun E hs=>?_⟩
   obtain ⟨H,hH,_⟩:=hs.mem
   obtain ⟨es,clock,hHx,hb,L,rfl,hL,hnd,hf,hnb⟩:=mp_heap hH (pkN_at hlook hp)
   have hfk:=run_findKey' (w:=w) hkt kd'' hbl L (fun e he=>(hL e he).1)
   have hlt:E.ρ x<w.heap.size:=(Array.getElem?_eq_some_iff.1 hb).1
   have fin:∀ (es' : Array MapEntry) (clock' : Nat),MapOk kk' kd'' (fun q=>if q=b then some n else f q) es' clock'→Fits B W E S w { w with heap:=w.heap.setIfInBounds (E.ρ x) (.map es' clock') } (setN S.own x (.mp kk' kd'' fun q=>if q=b then some n else f q)) []:=by
    intro es' clock' hok
    refine fits_write (g:=E.ρ x) (o:=.map es' clock') hlook hp hlt (fun H hH=>?_) ?_ _ ⟨rfl,rfl,rfl⟩ (fun j=>?_)
    ·obtain ⟨es2,c2,g1,g2,_⟩:=mp_heap hH (pkN_at hlook hp)
     rw [g1,g2];rfl
    ·simp only [Blk.den]
     exact ⟨es',clock',rfl,hok⟩
    ·simp only [Array.getElem?_setIfInBounds]
     by_cases e:j=E.ρ x
     ·subst e;simp [hlt]
     ·simp [e,Ne.symm e]
   have hset:∀ es' clock',(setObj (E.ρ x) (.map es' clock')).run P w = .ok () { w with heap:=w.heap.setIfInBounds (E.ρ x) (.map es' clock') }:=by
    intro es' clock'
    simp [setObj,Sem.run,hb]
   rw [opd_den hs hm hev,opd_den hs hki hkv,opd_den hs hvi hvv,keyOf_den hkey,den_c,den_c,den_v]
   have run0:(Instr.mapUpdate t (SC.den E (.mp x)) (kk'.enc b) (.int kd'' n)).run P w=(match (fnd b L 0).map fun p=>(p.1,Value.int kd'' p.2) with
     | some (i,_)=>do
      let key ← Instr.keyThatStays (((((L.map (MEnt.den kk' kd'')).toArray)[i]?).map (·.key)).getD (kk'.enc b)) (kk'.enc b)
      setObj (E.ρ x) (.map (((L.map (MEnt.den kk' kd'')).toArray).modify i fun e=>{ e with key,val:=.int kd'' n }) clock)
     | none=>setObj (E.ρ x) (.map (((L.map (MEnt.den kk' kd'')).toArray).push { key:=kk'.enc b,val:=.int kd'' n,born:=clock }) (clock+1)):Sem Unit).run P w:=by
    simp only [SC.den,Instr.mapUpdate,Sem.run_bind,run_underlying hu,Result.andThen_ok,run_getObj hb,run_checkKey hkt hbl,hfk]
    cases fnd b L 0 <;> rfl
   rw [run0]
   cases hfd:fnd b L 0 with
   | none =>
    refine ⟨_,by simp only [Option.map_none];exact hset _ _,fin _ _ ⟨L++[⟨b,n,clock⟩],?_,?_,?_,?_,born_push hL hnb⟩⟩
    ·simp [MEnt.den]
    ·intro e he
     rcases List.mem_append.1 he with he | he
     ·have:=hL e he;exact ⟨this.1,by omega⟩
     ·simp only [List.mem_singleton] at he
      subst he
      exact ⟨hbl,by simp⟩
    ·rw [List.map_append,List.nodup_append]
     refine ⟨hnd,by simp,?_⟩
     intro q hq q' hq'
     simp only [List.map_cons,List.map_nil,List.mem_singleton] at hq'
     subst hq'
     obtain ⟨e,he,rfl⟩:=List.mem_map.1 hq
     exact fnd_none hfd e he
    ·intro q hq
     rw [fnd_push]
     by_cases e:q=b
     ·subst e
      rw [if_pos rfl,hfd]
      simp
     ·simp only [if_neg e,hf q hq]
      have:¬ b=q:=fun h=>e h.symm
      simp only [this,if_false,Option.or_none]
   | some pr =>
    obtain ⟨i,v0⟩:=pr
    obtain ⟨_,e0,h1,h2,h3⟩:=fnd_get hfd
    rw [Nat.sub_zero] at h1
    have hkey2:(((L.map (MEnt.den kk' kd'')).toArray)[i]?).map (·.key)=some (kk'.enc b):=by
     simp [h1,MEnt.den,h2]
    have hmod:((L.map (MEnt.den kk' kd'')).toArray).modify i (fun e=>{ e with key:=kk'.enc b,val:=.int kd'' n })=((L.map (MEnt.set b n)).map (MEnt.den kk' kd'')).toArray:=by
     rw [← modify_set hnd h1 h2]
     apply Array.ext'
     simp only [Array.toList_modify]
     apply List.ext_getElem?
     intro j
     simp only [List.getElem?_modify,List.getElem?_map]
     by_cases e:i=j
     ·subst e
      simp [h1,MEnt.den,h2]
     ·simp [e]
    refine ⟨_,by
     simp only [Option.map_some,Sem.run_bind,hkey2,Option.getD_some,Instr.keyThatStays,sameBits_enc hbl,if_true,Sem.run_pure,Result.andThen_ok]
     exact hset _ _,fin _ _ ⟨L.map (MEnt.set b n),hmod,?_,?_,?_,by rw [born_set];exact hnb⟩⟩
    ·intro e he
     obtain ⟨e',he',rfl⟩:=List.mem_map.1 he
     have:=hL e' he'
     unfold MEnt.set
     split <;> exact this
    ·have:(L.map (MEnt.set b n)).map (·.key)=L.map (·.key):=by
      rw [List.map_map]
      refine List.map_congr_left fun e _=>?_
      simp only [Function.comp,MEnt.set]
      split <;> rfl
     rw [this];exact hnd
    ·intro q hq
     rw [fnd_set]
     by_cases e:q=b
     ·subst e
      simp [hfd]
     ·simp only [if_neg e,hf q hq]
      cases fnd q L 0 <;> simp [e]
  ·exact h.elim
 ·exact h.elim
theorem enc_inj {kk:KK} {a b:List Int} (ha:a.length=kk.len) (hb:b.length=kk.len) (h:kk.enc a=kk.enc b):a=b:=by
 cases kk with
 | int k =>
  obtain ⟨n,rfl,e1⟩:=enc_int (k:=k) ha
  obtain ⟨m,rfl,e2⟩:=enc_int (k:=k) hb
  rw [e1,e2] at h
  simp only [Value.int.injEq,true_and] at h
  rw [h]
 | arr n k =>
  simp only [KK.enc,Value.agg.injEq,Array.mk.injEq] at h
  exact (List.map_inj_right (fun x y e=>by simpa using e)).1 h
theorem modify_key {kk:KK} {kd:IntKind} {L:List MEnt} {i:Nat} {b:List Int} {e0:MEnt} (h1:L[i]? = some e0) (h2:e0.key=b):((L.map (MEnt.den kk kd)).toArray).modify i (fun e=>{ e with key:=kk.enc b })=(L.map (MEnt.den kk kd)).toArray:=by
 apply Array.ext'
 simp only [Array.toList_modify]
 apply List.ext_getElem?
 intro j
 simp only [List.getElem?_modify,List.getElem?_map]
 by_cases e:i=j
 ·subst e
  simp [h1,MEnt.den,h2]
 ·simp [e]
theorem ent_ok {t:Nat} {kk:KK} {kd:IntKind} {m k:Operand} {im ik:IX} (hT:TOk P T) (hk:mapKind T t=some (kk,kd)) (hm:opd m=some im) (hki:opd k=some ik) {vc:Prop} {out:Out} (h:(stepOut (.ent kk kd im ik) S).Sel vc out) (hvc:vc) (hs0:Sat B W w0 E S a w) :
  ∃ v w',RunsTo ((do pure (Next.value (← Instr.mapEntry t (a.eval m) (a.eval k))):Sem Next).run P w) v w'∧After B W w0 E [] S a w out.val out.cnt out.eff out.arrs v w':=by
 obtain ⟨kt,et,hu,hkt,hz⟩:=mapKind_ok hT hk
 simp only [stepOut] at h
 split at h
 ·next x kv hev hkv =>
  split at h
  ·next p kk' kd' f b hlook hkey =>
   obtain ⟨rfl,rfl⟩:=h
   obtain ⟨hp,rfl,rfl,hbl⟩:=hvc
   -- what it comes to,under any reading of the names
   have key:∀ E,Sat B W w0 E S a w→∃ (born:Nat) (w' : World),(Instr.mapEntry t (a.eval m) (a.eval k)).run P w = .ok (.tuple #[.int kd' ((f b).getD 0),.int .i64 born]) w' ∧
     ∀ y,E.χ y = .int .i64 born→Fits B W E S w w' (setN S.own x (.mpe kk' kd' f b y)) []:=by
    intro E hs
    obtain ⟨H,hH,_⟩:=hs.mem
    obtain ⟨es,clock,hHx,hb,L,rfl,hL,hnd,hf,hnb⟩:=mp_heap hH (pkN_at hlook hp)
    have hfk:=run_findKey' (w:=w) hkt kd' hbl L (fun e he=>(hL e he).1)
    have hlt:E.ρ x<w.heap.size:=(Array.getElem?_eq_some_iff.1 hb).1
    have fin:∀ (es' : Array MapEntry) (clock' : Nat) (y:Nm),(Blk.mpe kk' kd' f b y).den E x (sing (E.ρ x) (.map es' clock'))→Fits B W E S w { w with heap:=w.heap.setIfInBounds (E.ρ x) (.map es' clock') } (setN S.own x (.mpe kk' kd' f b y)) []:=by
     intro es' clock' y hden
     refine fits_write (g:=E.ρ x) (o:=.map es' clock') hlook hp hlt (fun H hH=>?_) hden _ ⟨rfl,rfl,rfl⟩ (fun j=>?_)
     ·obtain ⟨es2,c2,g1,g2,_⟩:=mp_heap hH (pkN_at hlook hp)
      rw [g1,g2];rfl
     ·simp only [Array.getElem?_setIfInBounds]
      by_cases e:j=E.ρ x
      ·subst e;simp [hlt]
      ·simp [e,Ne.symm e]
    have hset:∀ es' clock',(setObj (E.ρ x) (.map es' clock')).run P w = .ok () { w with heap:=w.heap.setIfInBounds (E.ρ x) (.map es' clock') }:=by
     intro es' clock'
     simp [setObj,Sem.run,hb]
    rw [opd_den hs hm hev,opd_den hs hki hkv,keyOf_den hkey,den_c]
    have run0:(Instr.mapEntry t (SC.den E (.mp x)) (kk'.enc b)).run P w=(match (fnd b L 0).map fun p=>(p.1,Value.int kd' p.2) with
      | some (i,v)=>do
       let key ← Instr.keyThatStays (((((L.map (MEnt.den kk' kd')).toArray)[i]?).map (·.key)).getD (kk'.enc b)) (kk'.enc b)
       setObj (E.ρ x) (.map (((L.map (MEnt.den kk' kd')).toArray).modify i fun e=>{ e with key }) clock)
       pure (.tuple #[v,goInt (((((L.map (MEnt.den kk' kd')).toArray)[i]?).map (·.born)).getD 0)])
      | none=>do
       let zero ← zeroValue et
       setObj (E.ρ x) (.map (((L.map (MEnt.den kk' kd')).toArray).push { key:=kk'.enc b,val:=zero,born:=clock }) (clock+1))
       pure (.tuple #[zero,goInt clock]):Sem Value).run P w:=by
     simp only [SC.den,Instr.mapEntry,Sem.run_bind,run_underlying hu,Result.andThen_ok,run_getObj hb,run_checkKey hkt hbl,hfk]
     cases fnd b L 0 <;> rfl
    rw [run0]
    cases hfd:fnd b L 0 with
    | none =>
     have hf0:f b=none:=by rw [hf b hbl,hfd];rfl
     refine ⟨clock,_,by simp only [Option.map_none,Sem.run_bind,hz,Result.andThen_ok,hset,Sem.run_pure,hf0,Option.getD_none];rfl,fun y hy=>fin _ _ y ?_⟩
     refine ⟨_,_,rfl,⟨L++[⟨b,0,clock⟩],by simp [MEnt.den],?_,?_,?_,born_push hL hnb⟩,L.length,⟨kk'.enc b,.int kd' 0,clock⟩,by simp,rfl,hy⟩
     ·intro e he
      rcases List.mem_append.1 he with he | he
      ·have:=hL e he;exact ⟨this.1,by omega⟩
      ·simp only [List.mem_singleton] at he
       subst he
       exact ⟨hbl,by simp⟩
     ·rw [List.map_append,List.nodup_append]
      refine ⟨hnd,by simp,?_⟩
      intro q hq q' hq'
      simp only [List.map_cons,List.map_nil,List.mem_singleton] at hq'
      subst hq'
      obtain ⟨e,he,rfl⟩:=List.mem_map.1 hq
      exact fnd_none hfd e he
     ·intro q hq
      rw [fnd_push]
      by_cases e:q=b
      ·subst e
       rw [if_pos rfl,hfd,hf0]
       simp
      ·simp only [if_neg e,hf q hq]
       have:¬ b=q:=fun h=>e h.symm
       simp only [this,if_false,Option.or_none]
    | some pr =>
     obtain ⟨i,v0⟩:=pr
     obtain ⟨_,e0,h1,h2,h3⟩:=fnd_get hfd
     rw [Nat.sub_zero] at h1
     have hf0:f b=some v0:=by rw [hf b hbl,hfd];rfl
     have hkey2:(((L.map (MEnt.den kk' kd')).toArray)[i]?).map (·.key)=some (kk'.enc b):=by
      simp [h1,MEnt.den,h2]
     have hborn:(((L.map (MEnt.den kk' kd')).toArray)[i]?).map (fun x=>(x.born:Int))=some (e0.born:Int):=by
      simp [h1,MEnt.den]
     have hfe:(fun q=>if q=b then some ((f b).getD 0) else f q)=f:=by
      funext q
      by_cases e:q=b
      ·subst e;rw [if_pos rfl,hf0];rfl
      ·rw [if_neg e]
     refine ⟨e0.born,_,by
      simp only [Option.map_some,Sem.run_bind,hkey2,hborn,Option.getD_some,Instr.keyThatStays,sameBits_enc hbl,if_true,Sem.run_pure,Result.andThen_ok,modify_key h1 h2,hset,hf0];rfl,fun y hy=>fin _ _ y ?_⟩
     refine ⟨_,_,rfl,by rw [hfe];exact ⟨L,rfl,hL,hnd,hf,hnb⟩,i,e0.den kk' kd',by simp [h1],by simp [MEnt.den,h2],hy⟩
   obtain ⟨born,w1,h1,_⟩:=key E hs0
   refine det_after ⟨fun _=>0,fun _=>0,fun _=>false,fun _=>.int .i64 born⟩ (fun _=>rfl) ⟨_,_,Or.inl (run_val h1)⟩ fun E2 hs2 hag=>?_
   have hχ:E2.χ (S.nid,0,0) = .int .i64 born:=(hag (S.nid,0,0) ⟨Nat.le_refl _,Nat.lt_succ_self _⟩).2.2.2
   obtain ⟨born2,w2,g1,g2⟩:=key E2 hs2
   have he:born2=born∧w2=w1:=by
    rw [h1] at g1
    simp only [Result.ok.injEq,Value.tuple.injEq,Array.mk.injEq,List.cons.injEq,Value.int.injEq,true_and,and_true] at g1
    exact ⟨by omega,g1.2.symm⟩
   obtain ⟨rfl,rfl⟩:=he
   refine ⟨w2,Or.inl ?_,g2 _ hχ⟩
   rw [run_val h1]
   simp [SV.den,den1,SC.den,hχ]
  ·exact h.elim
 ·exact h.elim
theorem ests_ok {t:Nat} {kk:KK} {kd:IntKind} {m s v:Operand} {im is iv:IX} (hm:opd m=some im) (hsi:opd s=some is) (hvi:opd v=some iv) {vc:Prop} {out:Out} (h:(stepOut (.ests kk kd im is iv) S).Sel vc out) (hvc:vc) :
  out.val = .c (.v undef)∧out.cnt=0∧out.arrs=[]∧∀ E,Sat B W w0 E S a w→∃ w',(Instr.entryStore t (a.eval m) (a.eval s) (a.eval v)).run P w = .ok () w'∧Fits B W E S w w' out.eff []:=by
 simp only [stepOut] at h
 split at h
 ·next x y kd'' n hev hsv hvv =>
  split at h
  ·next p kk' kd' f b y' hlook =>
   obtain ⟨rfl,rfl⟩:=h
   obtain ⟨hp,rfl,rfl,rfl,rfl,hbl⟩:=hvc
   refine ⟨rfl,rfl,rfl,fun E hs=>?_⟩
   obtain ⟨H,hH,_⟩:=hs.mem
   have hden:∀ H,HeapOk B W E S.own H w→∃ es clock,H x=sing (E.ρ x) (.map es clock)∧w.heap[E.ρ x]? = some (.map es clock)∧MapOk kk' kd'' (fun q=>if q=b then some ((f b).getD 0) else f q) es clock∧∃ (i:Nat) (e:MapEntry),es[i]? = some e∧e.key=kk'.enc b∧E.χ y' = .int .i64 e.born:=fun H hH=>by
    have h1:=hH.den x _ (pkN_at hlook hp)
    simp only [Blk.den] at h1
    obtain ⟨es,clock,h2,h3⟩:=h1
    exact ⟨es,clock,h2,(hH.sub x _ (pkN_at hlook hp) (E.ρ x) _ (by rw [h2];simp [sing])).1,h3⟩
   obtain ⟨es,clock,hHx,hb,⟨L,rfl,hL,hnd,hf,hnb⟩,i,e,hi,hke,hχ⟩:=hden H hH
   have hlt:E.ρ x<w.heap.size:=(Array.getElem?_eq_some_iff.1 hb).1
   -- the entry
   obtain ⟨e0,h1,rfl⟩:∃ e0,L[i]? = some e0∧e=e0.den kk' kd'':=by
    simp only [List.getElem?_toArray,List.getElem?_map,Option.map_eq_some_iff] at hi
    obtain ⟨e0,h1,h2⟩:=hi
    exact ⟨e0,h1,h2.symm⟩
   have hi0:i<L.length:=(List.getElem?_eq_some_iff.1 h1).1
   have hk0:e0.key=b:=enc_inj ((hL e0 (List.mem_of_getElem? h1)).1) hbl hke
   have hfi:((L.map (MEnt.den kk' kd'')).toArray).findIdx? (fun e=>(e.born:Int) == (e0.born:Int))=some i:=by
    rw [List.findIdx?_toArray,List.findIdx?_map]
    rw [List.findIdx?_eq_some_iff_getElem]
    refine ⟨hi0,?_,fun j hj=>?_⟩
    ·have:L[i]=e0:=by rw [List.getElem?_eq_getElem hi0] at h1;exact Option.some.inj h1
     simp [Function.comp,MEnt.den,this]
    ·have:L[i]=e0:=by rw [List.getElem?_eq_getElem hi0] at h1;exact Option.some.inj h1
     simp only [Function.comp,MEnt.den,beq_iff_eq]
     intro hc
     have hjl:j<L.length:=by omega
     have hc:(L[j].born:Int)=e0.born:=by simpa using hc
     have hc:L[j].born=e0.born:=by omega
     have q1:(L.map (·.born))[j]? = some e0.born:=by rw [List.getElem?_map,List.getElem?_eq_getElem hjl];simp [hc]
     have q2:(L.map (·.born))[i]? = some e0.born:=by rw [List.getElem?_map,h1];rfl
     have:=(List.getElem?_inj (by simpa using hjl) hnb).1 (q1.trans q2.symm)
     omega
   have hmod:((L.map (MEnt.den kk' kd'')).toArray).modify i (fun e=>{ e with val:=.int kd'' n })=((L.map (MEnt.set b n)).map (MEnt.den kk' kd'')).toArray:=by
    rw [← modify_set hnd h1 hk0]
    apply Array.ext'
    simp only [Array.toList_modify]
    apply List.ext_getElem?
    intro j
    simp only [List.getElem?_modify,List.getElem?_map]
    by_cases e:i=j
    ·subst e
     simp [h1,MEnt.den]
    ·simp [e]
   have hfb:∃ q,fnd b L 0=some q:=by
    cases hq:fnd b L 0 with
    | none=>exact absurd hk0 (fnd_none hq e0 (List.mem_of_getElem? h1))
    | some q=>exact ⟨q,rfl⟩
   have hok:MapOk kk' kd'' (fun q=>if q=b then some n else f q) (((L.map (MEnt.set b n)).map (MEnt.den kk' kd'')).toArray) clock:=by
    refine ⟨L.map (MEnt.set b n),rfl,?_,?_,?_,by rw [born_set];exact hnb⟩
    ·intro e he
     obtain ⟨e',he',rfl⟩:=List.mem_map.1 he
     have:=hL e' he'
     unfold MEnt.set
     split <;> exact this
    ·have:(L.map (MEnt.set b n)).map (·.key)=L.map (·.key):=by
      rw [List.map_map]
      refine List.map_congr_left fun e _=>?_
      simp only [Function.comp,MEnt.set]
      split <;> rfl
     rw [this];exact hnd
    ·intro q hq
     rw [fnd_set]
     by_cases e:q=b
     ·subst e
      obtain ⟨q',hq'⟩:=hfb
      simp [hq']
     ·have:=hf q hq
      simp only [if_neg e] at this ⊢
      rw [this]
      cases fnd q L 0 <;> simp [e]
   refine ⟨{ w with heap:=w.heap.setIfInBounds (E.ρ x) (.map (((L.map (MEnt.set b n)).map (MEnt.den kk' kd'')).toArray) clock) },?_,?_⟩
   ·rw [opd_den hs hm hev,opd_den hs hsi hsv,opd_den hs hvi hvv,den_c,den_c,den_c,den_v,den_xv,hχ]
    simp only [SC.den,Instr.entryStore,Sem.run_bind,run_getObj hb,Result.andThen_ok]
    have has:(asInt (.int .i64 ((MEnt.den kk' kd'' e0).born:Int))).run P w = .ok (e0.born:Int) w:=rfl
    simp only [has,Result.andThen_ok,hfi,hmod]
    simp [setObj,Sem.run,hb]
   ·refine fits_write (g:=E.ρ x) (o:=.map (((L.map (MEnt.set b n)).map (MEnt.den kk' kd'')).toArray) clock) hlook hp hlt (fun H hH=>?_) ?_ _ ⟨rfl,rfl,rfl⟩ (fun j=>?_)
    ·obtain ⟨es2,c2,g1,g2,_⟩:=hden H hH
     rw [g1,g2];rfl
    ·simp only [Blk.den]
     exact ⟨_,_,rfl,hok⟩
    ·simp only [Array.getElem?_setIfInBounds]
     by_cases e:j=E.ρ x
     ·subst e;simp [hlt]
     ·simp [e,Ne.symm e]
  ·exact h.elim
 ·exact h.elim
end
end Go.Proofs.Ytcloeignccpljaa.Z
