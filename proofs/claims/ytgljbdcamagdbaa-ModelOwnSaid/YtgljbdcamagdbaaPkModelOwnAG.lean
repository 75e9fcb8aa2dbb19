/- ModelOwnSaid: what its proof is made of. No condition. -/
import Derived.Test.YtgljbdcamagdbaaPkModelOwnAF
set_option linter.unusedSimpArgs false
set_option linter.unusedVariables false
namespace Go.Proofs.Ytgljbdcamagdbaa.Z
open Go Go.RowKit
section
variable {P:Program} {T:TT} {B:Nat} {W:Nat→Prop} {w0:World} {E:Env} {S:St} {a:Act} {w:World}
def RunsTo (r:Result Next) (v:Value) (w' : World):Prop:=r = .ok (.value v) w'∨(r = .ok .skip w'∧v=undef)
theorem det_after {r:Result Next} {val:SV} {cnt:Nat} {eff:Own} {arrs' : List (Nat×Fm ArrF)} (N:Env) (hN:OneC N) (hex:∃ v w',RunsTo r v w')
  (h:∀ E2,Sat B W w0 E2 S a w→AgreeD (NewIds S.nid cnt) N E2→∃ w2,(r = .ok (.value (val.den E2)) w2∨(r = .ok .skip w2∧val = .c (.v undef)))∧Fits B W E2 S w w2 eff arrs') :
  ∃ v w',RunsTo r v w'∧After B W w0 E [] S a w val cnt eff arrs' v w':=by
 obtain ⟨v,w',hr⟩:=hex
 refine ⟨v,w',hr,N,hN,fun E2 hs2 _ hag=>?_⟩
 obtain ⟨w2,h1,h2⟩:=h E2 hs2 hag
 rcases hr with hr | ⟨hr,rfl⟩
 ·rcases h1 with h1 | ⟨h1,_⟩
  ·rw [hr] at h1
   simp only [Result.ok.injEq,Next.value.injEq] at h1
   obtain ⟨rfl,rfl⟩:=h1
   exact ⟨rfl,h2.G⟩
  ·rw [hr] at h1
   simp at h1
 ·rcases h1 with h1 | ⟨h1,hv⟩
  ·rw [hr] at h1
   simp at h1
  ·rw [hr] at h1
   simp only [Result.ok.injEq,true_and] at h1
   subst h1
   exact ⟨by rw [hv,den_c,den_v],h2.G⟩
theorem pure_after {r:Result Next} {val:SV} (hs:Sat B W w0 E S a w) (h:∀ E2,Sat B W w0 E2 S a w→r = .ok (.value (val.den E2)) w) :
  ∃ v w',RunsTo r v w'∧After B W w0 E [] S a w (pureO val).val (pureO val).cnt (pureO val).eff (pureO val).arrs v w' :=
 det_after E hs.one ⟨_,_,Or.inl (h E hs)⟩ fun E2 hs2 _=>⟨w,Or.inl (h E2 hs2),fits_nil⟩
theorem run_val {s:Sem Value} {v:Value} {w' : World} (h:s.run P w = .ok v w'):(do pure (Next.value (← s)):Sem Next).run P w = .ok (.value v) w':=by
 simp only [Sem.run_bind,h,Result.andThen_ok,Sem.run_pure]
theorem run_unit {s:Sem Unit} {w' : World} (h:s.run P w = .ok () w'):(do s;pure Next.skip:Sem Next).run P w = .ok .skip w':=by
 simp only [Sem.run_bind,h,Result.andThen_ok,Sem.run_pure]
theorem ld_ok {t:Nat} {x:Operand} {ix:IX} {ti:TI} (hT:TOk P T) (ht:look T t=some ti) (hx:opd x=some ix) {vc:Prop} {out:Out}
  (h:(stepOut (.ld (isAggD ti.desc) ti.size ix) S).Sel vc out) (hvc:vc):∃ val,out=pureO val∧∀ E,Sat B W w0 E S a w→(Instr.loadAt t (a.eval x)).run P w = .ok (val.den E) w:=by
 simp only [stepOut] at h
 split at h
 ·next y off hev =>
  split at h
  ·next p cs ty hlook =>
   cases hd:isAggD ti.desc with
   | true =>
    rw [hd,if_pos rfl] at h
    split at h
    ·next hfit =>
     obtain ⟨rfl,rfl⟩:=h
     refine ⟨_,rfl,fun E hs=>?_⟩
     obtain ⟨H,hH,_⟩:=hs.mem
     have hoc:=bk_cell hH (pkN_at hlook hvc)
     rw [opd_den hs hx hev,den_c,den_ptr]
     rw [len'_eq] at hfit
     have:=run_ldv (P:=P) (w:=w) hT ht (E.ρ y) off ((take' ti.size (drop' off cs)).map (SC.den E)) (by rw [List.length_map,seg_len hfit]) (fun j u hu=>by
      rw [List.getElem?_map,Option.map_eq_some_iff] at hu
      obtain ⟨c,hc,rfl⟩:=hu
      rw [hoc,seg_get hc];rfl)
     rw [hd] at this
     simpa [den_agg] using this
    ·exact h.elim
   | false =>
    rw [hd,if_neg (by simp)] at h
    split at h
    ·next c hn =>
     obtain ⟨rfl,rfl⟩:=h
     refine ⟨_,rfl,fun E hs=>?_⟩
     obtain ⟨H,hH,_⟩:=hs.mem
     have hoc:=bk_cell hH (pkN_at hlook hvc)
     rw [opd_den hs hx hev,den_c,den_ptr,den_c]
     rw [nth_eq] at hn
     exact run_ld1 hT ht hd _ _ _ (by rw [hoc,hn];rfl)
    ·exact h.elim
  ·exact h.elim
 ·next y s k j hev =>
  split at h
  ·next p m s' at_ ty hlook =>
   cases hd:isAggD ti.desc with
   | true =>
    rw [hd,if_pos rfl] at h
    by_cases hwide:s=1∧1<ti.size
    ·rw [if_pos hwide] at h
     obtain ⟨rfl,rfl⟩:=h
     obtain ⟨hp,rfl,rfl,rfl,hkn,hn0⟩:=hvc
     refine ⟨_,rfl,fun E hs=>?_⟩
     obtain ⟨H,hH,_⟩:=hs.mem
     have hcl:=fun e (he:e<m)=>ar_cell hH (pkN_at hlook hp) he
     obtain ⟨hl1,hget⟩:=rowC_get ti.size k at_ fun e he=>(hcl (k+e) (by omega)).2.1
     rw [opd_den hs hx hev,den_c,den_pe]
     have:=run_ldv (P:=P) (w:=w) hT ht (E.ρ y) (k * 1+0) ((rowC ti.size k at_).map (SC.den E)) (by rw [List.length_map,hl1]) (fun q u hu=>by
      have hq:q<ti.size:=by have:=(List.getElem?_eq_some_iff.1 hu).1;rw [List.length_map,hl1] at this;exact this
      rw [List.getElem?_map,Option.map_eq_some_iff,hget q hq] at hu
      obtain ⟨c,hc,rfl⟩:=hu
      have:=((hcl (k+q) (by omega)).2.2 0 c hc).1
      rwa [show (k+q) * 1+0=k * 1+0+q by omega] at this)
     rw [hd] at this
     simpa [den_agg] using this
    rw [if_neg hwide] at h
    obtain ⟨rfl,rfl⟩:=h
    obtain ⟨hp,hk,hsz,hj⟩:=hvc
    refine ⟨_,rfl,fun E hs=>?_⟩
    obtain ⟨H,hH,_⟩:=hs.mem
    obtain ⟨_,hlen,hcell⟩:=ar_cell hH (pkN_at hlook hp) hk
    rw [opd_den hs hx hev,den_c,den_pe]
    have:=run_ldv (P:=P) (w:=w) hT ht (E.ρ y) (k * s+j) ((take' ti.size (drop' j (at_ k))).map (SC.den E)) (by rw [List.length_map,seg_len (by omega)]) (fun q u hu=>by
      rw [List.getElem?_map,Option.map_eq_some_iff] at hu
      obtain ⟨c,hc,rfl⟩:=hu
      have:=(hcell (j+q) c (seg_get hc)).1
      rw [hsz] at this
      rw [show k * s+j+q=k * s+(j+q) by omega];exact this)
    rw [hd] at this
    simpa [den_agg] using this
   | false =>
    rw [hd,if_neg (by simp)] at h
    split at h
    ·next c hn =>
     obtain ⟨rfl,rfl⟩:=h
     obtain ⟨hp,hk,hsz⟩:=hvc
     refine ⟨_,rfl,fun E hs=>?_⟩
     obtain ⟨H,hH,_⟩:=hs.mem
     obtain ⟨_,hlen,hcell⟩:=ar_cell hH (pkN_at hlook hp) hk
     rw [opd_den hs hx hev,den_c,den_pe,den_c]
     rw [nth_eq] at hn
     have hc:=(hcell j c hn).1
     rw [hsz] at hc
     exact run_ld1 hT ht hd _ _ _ hc
    ·exact h.elim
  ·exact h.elim
 ·next y s k j hev =>
  split at h
  ·next p A hlook =>
   have arr:∀ E,Sat B W w0 E S a w→p→k<A.len→A.size=s→∃ b off,(SC.ep y s k j).den E = .pointer (some ⟨b,off+k * s+j,none⟩)∧(A.at_ k).length=A.size∧∀ q u,(A.at_ k)[q]? = some u→w.cell? ⟨b,off+k * s+q,none⟩=some (u.den E):=by
    intro E hs hp hk hsz
    obtain ⟨ba,cap,hχ,hl,hm,hcell⟩:=hs.arr (pkN_at hlook hp)
    rcases hcell with h0 | ⟨b,off,rfl,_,hcell⟩
    ·omega
    obtain ⟨hlen,hcell⟩:=hcell k hk
    refine ⟨b,off,?_,hlen,fun q u hu=>?_⟩
    ·simp only [SC.den,hχ]
    ·rw [← hsz];exact (hcell q u hu).1
   cases hd:isAggD ti.desc with
   | true =>
    rw [hd,if_pos rfl] at h
    obtain ⟨rfl,rfl⟩:=h
    obtain ⟨hp,hk,hsz,hj⟩:=hvc
    refine ⟨_,rfl,fun E hs=>?_⟩
    obtain ⟨b,off,hden,hlen,hcell⟩:=arr E hs hp hk hsz
    rw [opd_den hs hx hev,den_c,hden]
    have:=run_ldv (P:=P) (w:=w) hT ht b (off+k * s+j) ((take' ti.size (drop' j (A.at_ k))).map (SC.den E)) (by rw [List.length_map,seg_len (by omega)]) (fun q u hu=>by
      rw [List.getElem?_map,Option.map_eq_some_iff] at hu
      obtain ⟨c,hc,rfl⟩:=hu
      have:=hcell (j+q) c (seg_get hc)
      rw [show off+k * s+j+q=off+k * s+(j+q) by omega];exact this)
    rw [hd] at this
    simpa [den_agg] using this
   | false =>
    rw [hd,if_neg (by simp)] at h
    split at h
    ·next c hn =>
     obtain ⟨rfl,rfl⟩:=h
     obtain ⟨hp,hk,hsz⟩:=hvc
     refine ⟨_,rfl,fun E hs=>?_⟩
     obtain ⟨b,off,hden,hlen,hcell⟩:=arr E hs hp hk hsz
     rw [opd_den hs hx hev,den_c,hden,den_c]
     rw [nth_eq] at hn
     exact run_ld1 hT ht hd _ _ _ (hcell j c hn)
    ·exact h.elim
  ·exact h.elim
 ·exact h.elim
theorem heap_setRow {g:Nat} {old cs:Array Value} {t:TypeId} {fr:Nat×Nat} (hg:w.heap[g]? = some (.cells old t fr)) (n:Nat):(w.setRow g cs).heap[n]? = if n=g then some (.cells cs t fr) else w.heap[n]?:=by
 split
 ·next e=>subst e;exact setRow_heap w n old cs t fr hg
 ·next e=>exact setRow_other w g n cs e
theorem put_get {l:List SC} {off:Nat} {cs:List SC} (h:off+cs.length≤l.length) (j:Nat):(put l off cs)[j]? = if j<off then l[j]? else if j<off+cs.length then cs[j - off]? else l[j]?:=by
 rw [put_eq,List.append_assoc]
 by_cases h1:j<off
 ·rw [if_pos h1,List.getElem?_append_left (by rw [List.length_take];omega),List.getElem?_take,if_pos h1]
 ·rw [if_neg h1,List.getElem?_append_right (by rw [List.length_take];omega),List.length_take,Nat.min_eq_left (by omega)]
  by_cases h2:j<off+cs.length
  ·rw [if_pos h2,List.getElem?_append_left (by omega)]
  ·rw [if_neg h2,List.getElem?_append_right (by omega),List.getElem?_drop]
   congr 1
   omega
theorem splice_get {E:Env} (L news:List Value) (new:List SC) (hn:news=new.map (SC.den E)) {o:Nat} (h:o+new.length≤L.length) (q:Nat) :
  (L.take o++news++L.drop (o+new.length)).toArray[q]? = if o≤q∧q<o+new.length then (new[q - o]?).map (SC.den E) else L[q]?:=by
 subst hn
 have e:(L.take o++new.map (SC.den E)++L.drop (o+new.length)).toArray[q]? = (L.take o++(new.map (SC.den E)++L.drop (o+new.length)))[q]?:=by simp
 rw [e]
 by_cases h1:q<o
 ·rw [List.getElem?_append_left (by rw [List.length_take];omega),List.getElem?_take,if_pos h1,if_neg (by omega)]
 ·rw [List.getElem?_append_right (by rw [List.length_take];omega),List.length_take,Nat.min_eq_left (by omega)]
  by_cases h2:q<o+new.length
  ·rw [List.getElem?_append_left (by rw [List.length_map];omega),if_pos ⟨by omega,h2⟩,List.getElem?_map]
  ·rw [List.getElem?_append_right (by rw [List.length_map];omega),if_neg (by omega),List.getElem?_drop,List.length_map]
   congr 1
   omega
theorem st_ok {t:Nat} {x y:Operand} {ix iy:IX} {ti:TI} (hT:TOk P T) (ht:look T t=some ti) (hx:opd x=some ix) (hy:opd y=some iy) {vc:Prop} {out:Out}
  (h:(stepOut (.st ti.size ix iy) S).Sel vc out) (hvc:vc):out.val = .c (.v undef)∧out.cnt=0∧out.arrs=[]∧∀ E,Sat B W w0 E S a w→∃ w',(Instr.storeAt t (a.eval x) (a.eval y)).run P w = .ok () w'∧Fits B W E S w w' out.eff []:=by
 obtain ⟨hu,i,hi,hz,hsz,_⟩:=ti_parts hT ht
 simp only [stepOut] at h
 split at h
 ·next z off v hev hev2 =>
  split at h
  ·next p cs ty new hlook hcells =>
   split at h
   ·next hfit =>
    obtain ⟨rfl,rfl⟩:=h
    refine ⟨rfl,rfl,rfl,fun E hs=>?_⟩
    obtain ⟨hn,hle⟩:=hfit
    rw [len'_eq] at hn hle
    obtain ⟨hcd,hone⟩:=cells_den hcells hs.one
    obtain ⟨H,hH,_⟩:=hs.mem
    have hb:=bk_heap hH (pkN_at hlook hvc)
    rw [opd_den hs hx hev,opd_den hs hy hev2]
    have hst:=run_storeCells_at (P:=P) (E.ρ z) off ty (new.map (SC.den E)) 0 _ w hb (by simp;omega) hone
    refine ⟨w.setRow (E.ρ z) ((put cs off new).map (SC.den E)).toArray,?_,?_⟩
    ·simp only [den_c,den_ptr,Instr.storeAt,Instr.sureAddr,Sem.run_bind,Sem.run_pure,Result.andThen_ok,storeVar,run_sizeOf hi,hcd,List.size_toArray,List.length_map,hn,hsz,ne_eq,not_true_eq_false,if_false]
     rw [hst]
     simp only [put_eq,Nat.add_zero,List.length_map,List.map_append,List.map_take,List.map_drop]
    ·refine fits_write (g:=E.ρ z) (o:=.cells ((put cs off new).map (SC.den E)).toArray ty (0,0)) (b':=.bk (put cs off new) ty) hlook hvc ?_ (fun H hH=>?_) (by simp only [Blk.den]) _ ⟨rfl,rfl,rfl⟩ (heap_setRow hb)
     ·exact (Array.getElem?_eq_some_iff.1 hb).1
     ·have h1:=hH.den z _ (pkN_at hlook hvc)
      simp only [Blk.den] at h1
      rw [h1,hb];rfl
   ·exact h.elim
  ·exact h.elim
 ·next z s k j v hev hev2 =>
  split at h
  ·next p m s' at_ ty new hlook hcells =>
   by_cases hwide:s=1∧1<ti.size
   ·rw [if_pos hwide] at h
    obtain ⟨rfl,rfl⟩:=h
    refine ⟨rfl,rfl,rfl,fun E hs=>?_⟩
    obtain ⟨hp,rfl,rfl,rfl,rfl,hn,hnm,h0⟩:=hvc
    rw [len'_eq] at hn
    obtain ⟨hcd,hone⟩:=cells_den hcells hs.one
    obtain ⟨H,hH,_⟩:=hs.mem
    rcases ar_heap hH (pkN_at hlook hp) with ⟨_,_,h0,_⟩ | ⟨hν,hκ,hm,cells,hHz,hb,hcs,hc⟩
    ·omega
    rw [opd_den hs hx hev,opd_den hs hy hev2]
    have hfit:new.length≤cells.size:=by rw [hcs];omega
    have hst:=run_storeCells_at (P:=P) (E.ρ z) 0 ty (new.map (SC.den E)) 0 _ w hb (by simp;omega) hone
    refine ⟨w.setRow (E.ρ z) (cells.toList.take 0++new.map (SC.den E)++cells.toList.drop (0+new.length)).toArray,?_,?_⟩
    ·simp only [den_c,den_pe,Nat.zero_mul,Nat.add_zero,Instr.storeAt,Instr.sureAddr,Sem.run_bind,Sem.run_pure,Result.andThen_ok,storeVar,run_sizeOf hi,hcd,List.size_toArray,List.length_map,hn,hsz,ne_eq,not_true_eq_false,if_false]
     rw [hst]
     simp only [Nat.add_zero,List.length_map,hn]
    ·refine fits_write (g:=E.ρ z) (o:=.cells (cells.toList.take 0++new.map (SC.den E)++cells.toList.drop (0+new.length)).toArray ty (0,0)) (b':=.ar m 1 (segs 1 new) ty) hlook hp ?_ (fun H hH=>?_) ?_ _ ⟨rfl,rfl,rfl⟩ (heap_setRow hb)
     ·exact (Array.getElem?_eq_some_iff.1 hb).1
     ·rcases ar_heap hH (pkN_at hlook hp) with ⟨_,_,h3,_⟩ | ⟨_,_,_,cells',h4,h5,_⟩
      ·omega
      ·rw [h4,h5];rfl
     simp only [Blk.den]
     refine Or.inr ⟨hν,hκ,hm,_,rfl,?_,?_⟩
     ·simp only [List.size_toArray,List.length_append,List.length_take,List.length_map,List.length_drop,Array.length_toList]
      omega
     ·intro e he
      have get:∀ q,(cells.toList.take 0++new.map (SC.den E)++cells.toList.drop (0+new.length)).toArray[q]? = if 0≤q∧q<0+new.length then (new[q - 0]?).map (SC.den E) else cells[q]?:=by
       intro q
       obtain ⟨L⟩:=cells
       have e0:(⟨L⟩:Array Value)[q]? = L[q]?:=by simp
       rw [e0]
       exact splice_get (E:=E) L (new.map (SC.den E)) new rfl (by simpa using hfit) q
      have hsg:segs 1 new e=[new[e]'(by omega)]:=by
       unfold segs
       rw [take'_eq,drop'_eq,Nat.mul_one,List.drop_eq_getElem_cons (by omega)]
       rfl
      rw [hsg]
      refine ⟨rfl,fun q u hu=>?_⟩
      cases q with
      | zero =>
       simp only [List.getElem?_cons_zero,Option.some.injEq] at hu
       subst hu
       rw [get,if_pos ⟨by omega,by omega⟩,show e * 1+0 - 0=e by omega,List.getElem?_eq_getElem (by omega)]
       exact ⟨rfl,hone _ (List.mem_map.2 ⟨_,List.getElem_mem _,rfl⟩)⟩
      | succ q=>simp at hu
   rw [if_neg hwide] at h
   obtain ⟨rfl,rfl⟩:=h
   refine ⟨rfl,rfl,rfl,fun E hs=>?_⟩
   obtain ⟨hp,hk,hss,hn,hle⟩:=hvc
   subst hss
   rw [len'_eq] at hn
   obtain ⟨hcd,hone⟩:=cells_den hcells hs.one
   obtain ⟨H,hH,_⟩:=hs.mem
   rcases ar_heap hH (pkN_at hlook hp) with ⟨_,_,h0,_⟩ | ⟨hν,hκ,hm,cells,hHz,hb,hcs,hc⟩
   ·omega
   have hlen:=(hc k hk).1
   have hfit:k * s' + j+new.length≤cells.size:=by
    have h2:(k+1) * s'≤E.κ z * s':=Nat.mul_le_mul_right _ (by omega)
    rw [Nat.add_mul,Nat.one_mul] at h2
    omega
   rw [opd_den hs hx hev,opd_den hs hy hev2]
   have hst:=run_storeCells_at (P:=P) (E.ρ z) (k * s' + j) ty (new.map (SC.den E)) 0 _ w hb (by simp;omega) hone
   refine ⟨w.setRow (E.ρ z) (cells.toList.take (k * s' + j)++new.map (SC.den E)++cells.toList.drop (k * s' + j+new.length)).toArray,?_,?_⟩
   ·simp only [den_c,den_pe,Instr.storeAt,Instr.sureAddr,Sem.run_bind,Sem.run_pure,Result.andThen_ok,storeVar,run_sizeOf hi,hcd,List.size_toArray,List.length_map,hn,hsz,ne_eq,not_true_eq_false,if_false]
    rw [hst]
    simp only [Nat.add_zero,List.length_map,hn]
   ·refine fits_write (g:=E.ρ z) (o:=.cells (cells.toList.take (k * s' + j)++new.map (SC.den E)++cells.toList.drop (k * s' + j+new.length)).toArray ty (0,0)) (b':=.ar m s' (setAt k at_ (put (at_ k) j new)) ty) hlook hp ?_ (fun H hH=>?_) ?_ _ ⟨rfl,rfl,rfl⟩ (heap_setRow hb)
    ·exact (Array.getElem?_eq_some_iff.1 hb).1
    ·rcases ar_heap hH (pkN_at hlook hp) with ⟨_,_,h3,_⟩ | ⟨_,_,_,cells',h4,h5,_⟩
     ·omega
     ·rw [h4,h5];rfl
    simp only [Blk.den]
    refine Or.inr ⟨hν,hκ,hm,_,rfl,?_,?_⟩
    ·simp only [List.size_toArray,List.length_append,List.length_take,List.length_map,List.length_drop,Array.length_toList]
     omega
    ·intro e he
     have get:∀ q,(cells.toList.take (k * s' + j)++new.map (SC.den E)++cells.toList.drop (k * s' + j+new.length)).toArray[q]? = if k * s' + j≤q∧q<k * s' + j+new.length then (new[q - (k * s' + j)]?).map (SC.den E) else cells[q]?:=by
      intro q
      obtain ⟨L⟩:=cells
      have e0:(⟨L⟩:Array Value)[q]? = L[q]?:=by simp
      rw [e0]
      exact splice_get (E:=E) L (new.map (SC.den E)) new rfl (by simpa using hfit) q
     unfold setAt
     split
     ·next e1 =>
      subst e1
      have hle' : j+new.length≤(at_ e).length:=by rw [hlen];omega
      refine ⟨?_,fun q u hu=>?_⟩
      ·rw [put_eq]
       simp only [List.length_append,List.length_take,List.length_drop]
       omega
      ·rw [put_get hle'] at hu
       rw [get]
       split at hu
       ·rw [if_neg (by omega)]
        exact (hc e he).2 q u hu
       ·next h1 =>
        split at hu
        ·next h2 =>
         rw [if_pos ⟨by omega,by omega⟩,show e * s' + q - (e * s' + j)=q - j by omega,hu]
         exact ⟨rfl,hone _ (List.mem_map.2 ⟨u,List.mem_of_getElem? hu,rfl⟩)⟩
        ·next h2 =>
         rw [if_neg (by omega)]
         exact (hc e he).2 q u hu
     ·next e1 =>
      refine ⟨(hc e he).1,fun q u hu=>?_⟩
      have hq:q<s':=by rw [← (hc e he).1];exact (List.getElem?_eq_some_iff.1 hu).1
      rw [get,if_neg]
      ·exact (hc e he).2 q u hu
      ·intro h3
       rcases Nat.lt_or_gt_of_ne e1 with h4 | h4
       ·have:(e+1) * s'≤k * s':=Nat.mul_le_mul_right _ (by omega)
        rw [Nat.add_mul,Nat.one_mul] at this
        omega
       ·have:(k+1) * s'≤e * s':=Nat.mul_le_mul_right _ (by omega)
        rw [Nat.add_mul,Nat.one_mul] at this
        omega
  ·exact h.elim
 ·exact h.elim
end
end Go.Proofs.Ytgljbdcamagdbaa.Z
namespace Go.Proofs.Ytgljbdcamagdbaa.Z
open Go Go.RowKit
def RdAt (E:Env) (w:World) (v:Value) (s m:Nat) (g:Nat→List SC):Prop :=
 ∃ ba cap,v = .slice ba m cap∧(m=0∨∃ b off,ba=some ⟨b,off,none⟩∧∀ e,e<m→(g e).length=s∧∀ j u,(g e)[j]? = some u→w.cell? ⟨b,off+e * s+j,none⟩=some (u.den E)∧(u.den E).oneCell' = true)
def cellsOf (E:Env) (m:Nat) (g:Nat→List SC):List Value:=(List.range m).flatMap fun e=>(g e).map (SC.den E)
theorem cellsOf_succ (E:Env) (m:Nat) (g:Nat→List SC):cellsOf E (m+1) g=cellsOf E m g++(g m).map (SC.den E):=by
 simp [cellsOf,List.range_succ]
theorem cellsOf_len {E:Env} {s:Nat} {g:Nat→List SC}:∀ {m:Nat},(∀ e,e<m→(g e).length=s)→(cellsOf E m g).length=m * s
 | 0,_=>by simp [cellsOf]
 | m+1,h=>by
  rw [cellsOf_succ,List.length_append,cellsOf_len (fun e he=>h e (by omega)),List.length_map,h m (by omega),Nat.add_mul,Nat.one_mul]
theorem cellsOf_get {E:Env} {s:Nat} {g:Nat→List SC}:∀ {m:Nat},(∀ e,e<m→(g e).length=s)→∀ e j,e<m→j<s→(cellsOf E m g)[e * s+j]? = ((g e)[j]?).map (SC.den E)
 | 0,_,e,j,he,_=>by omega
 | m+1,h,e,j,he,hj=>by
  have hl:(cellsOf E m g).length=m * s:=cellsOf_len (fun e he=>h e (by omega))
  rw [cellsOf_succ]
  by_cases h1:e<m
  ·have:(e+1) * s≤m * s:=Nat.mul_le_mul_right _ h1
   rw [Nat.add_mul,Nat.one_mul] at this
   rw [List.getElem?_append_left (by omega)]
   exact cellsOf_get (fun e he=>h e (by omega)) e j h1 hj
  ·have e1:e=m:=by omega
   subst e1
   rw [List.getElem?_append_right (by omega),hl,List.getElem?_map]
   congr 2
   omega
theorem cellsOf_inv {E:Env} {s:Nat} {g:Nat→List SC} {m i:Nat} {u:Value} (h:∀ e,e<m→(g e).length=s) (hu:(cellsOf E m g)[i]? = some u) :
  ∃ e j c,e<m∧j<s∧i=e * s+j∧(g e)[j]? = some c∧u=c.den E:=by
 have hi:i<m * s:=by rw [← cellsOf_len (E:=E) h];exact (List.getElem?_eq_some_iff.1 hu).1
 have h0:0<s:=by
  rcases Nat.eq_zero_or_pos s with h0 | h0
  ·subst h0;rw [Nat.mul_zero] at hi;omega
  ·exact h0
 have hk:i / s<m:=Nat.div_lt_of_lt_mul (by rw [Nat.mul_comm];exact hi)
 have hm:i % s<s:=Nat.mod_lt _ h0
 have e1:i / s * s+i % s=i:=by rw [Nat.mul_comm];exact Nat.div_add_mod i s
 have hx:=cellsOf_get (E:=E) h (i / s) (i % s) hk hm
 rw [e1,hu] at hx
 cases hc:(g (i / s))[i % s]? with
 | none=>rw [hc] at hx;cases hx
 | some c =>
  rw [hc] at hx
  exact ⟨_,_,c,hk,hm,e1.symm,hc,by simpa using hx⟩
section
variable {P:Program} {T:TT} {B:Nat} {W:Nat→Prop} {w0:World} {E:Env} {S:St} {a:Act} {w:World}
theorem RdAt.lens {v:Value} {s m:Nat} {g:Nat→List SC} (h:RdAt E w v s m g):∀ e,e<m→(g e).length=s:=by
 obtain ⟨_,_,_,h | ⟨_,_,_,h⟩⟩:=h
 ·intro e he;omega
 ·exact fun e he=>(h e he).1
theorem RdAt.first {v:Value} {s m:Nat} {g:Nat→List SC} (h:RdAt E w v s m g) (w' : World) (hw:w'.heap=w.heap):(Builtin.firstCells s m v).run P w' = .ok (cellsOf E m g).toArray w'∧(cellsOf E m g).length=m * s∧∀ u∈cellsOf E m g,u.oneCell' = true:=by
 have hl:=h.lens
 obtain ⟨ba,cap,rfl,h⟩:=h
 have hcell:∀ p,w'.cell? p=w.cell? p:=fun p=>by unfold World.cell?;rw [hw]
 rcases h with h | ⟨b,off,rfl,h⟩
 ·subst h
  refine ⟨?_,by simp [cellsOf],fun u hu=>by simp [cellsOf] at hu⟩
  cases ba with
  | none=>exact run_firstCells_none w' s 0 0 cap
  | some b=>exact run_firstCells_some w' s 0 b 0 cap [] (by simp) (by simp)
 ·refine ⟨run_firstCells_some w' s m ⟨b,off,none⟩ m cap _ (cellsOf_len hl) (fun i u hu=>?_),cellsOf_len hl,fun u hu=>?_⟩
  ·obtain ⟨e,j,c,he,hj,rfl,hc,rfl⟩:=cellsOf_inv hl hu
   rw [addr_add0,hcell,show off+(e * s+j)=off+e * s+j by omega]
   exact ((h e he).2 j c hc).1
  ·obtain ⟨i,hi⟩:=List.mem_iff_getElem?.1 hu
   obtain ⟨e,j,c,he,hj,rfl,hc,rfl⟩:=cellsOf_inv hl hi
   exact ((h e he).2 j c hc).2
theorem RdAt.src {v:Value} {s m:Nat} {g:Nat→List SC} {tx e' : TypeId} (hk:P.underlying tx=some (.slice e')) (h:RdAt E w v s m g):Src P s tx v m (cellsOf E m g) w:=by
 obtain ⟨h1,h2,h3⟩:=h.first (P:=P) w rfl
 obtain ⟨h4,_,_⟩:=h.first (P:=P) w.drew rfl
 refine ⟨.inl ⟨e',hk⟩,fun w'=>?_,h1,h4,h2,h3⟩
 obtain ⟨ba,cap,rfl,_⟩:=h
 rfl
theorem slSrc_ok {s m:Nat} {v:SV} {q:Prop} {g:Nat→List SC} (h:slSrc S s v=some (q,m,g)) (hq:q) (hs:Sat B W w0 E S a w):RdAt E w (v.den E) s m g:=by
 unfold slSrc at h
 split at h
 ·simp only [Option.some.injEq,Prod.mk.injEq] at h
  obtain ⟨_,rfl,rfl⟩:=h
  exact ⟨none,0,by rw [den_c,den_v],Or.inl rfl⟩
 ·next x s' o n c =>
  split at h
  ·next p m' s'' at_ ty hlook =>
   simp only [Option.some.injEq,Prod.mk.injEq] at h
   obtain ⟨rfl,rfl,rfl⟩:=h
   obtain ⟨hp,rfl,rfl,hon⟩:=hq
   obtain ⟨H,hH,_⟩:=hs.mem
   have hat:=pkN_at hlook hp
   refine ⟨_,_,by rw [den_c,den_sl],?_⟩
   rcases Nat.eq_zero_or_pos n with h0 | h0
   ·exact Or.inl h0
   ·right
    obtain ⟨hν,_,_⟩:=ar_cell hH hat (show o<m' by omega)
    refine ⟨E.ρ x,o * s'',by rw [hν];rfl,fun e he=>?_⟩
    obtain ⟨_,h1,h2⟩:=ar_cell hH hat (show o+e<m' by omega)
    refine ⟨h1,fun j u hu=>?_⟩
    rw [← Nat.add_mul]
    exact h2 j u hu
  ·cases h
 ·next x =>
  split at h
  ·next p A hlook =>
   simp only [Option.some.injEq,Prod.mk.injEq] at h
   obtain ⟨rfl,rfl,rfl⟩:=h
   obtain ⟨hp,rfl⟩:=hq
   obtain ⟨ba,cap,hχ,hl,hm,hcell⟩:=hs.arr (pkN_at hlook hp)
   rw [den_c,den_xv]
   exact ⟨ba,cap,hχ,hcell.imp id fun ⟨b,off,h1,_,h2⟩=>⟨b,off,h1,h2⟩⟩
  ·cases h
 ·next x s' o n c =>
  split at h
  ·next p A hlook =>
   simp only [Option.some.injEq,Prod.mk.injEq] at h
   obtain ⟨rfl,rfl,rfl⟩:=h
   obtain ⟨hp,rfl,hsz,hon⟩:=hq
   obtain ⟨ba,cap,hχ,hl,hm,hcell⟩:=hs.arr (pkN_at hlook hp)
   rw [den_c]
   simp only [SC.den,hχ]
   rcases Nat.eq_zero_or_pos n with h0 | h0
   ·cases ba with
    | none=>exact ⟨_,_,rfl,Or.inl h0⟩
    | some b=>exact ⟨_,_,rfl,Or.inl h0⟩
   ·rcases hcell with h1 | ⟨b,off,rfl,_,hcell⟩
    ·omega
    refine ⟨_,_,rfl,Or.inr ⟨b,off+o * s',by rw [addr_add0],fun e he=>?_⟩⟩
    obtain ⟨h1,h2⟩:=hcell (o+e) (by omega)
    refine ⟨h1.trans hsz,fun j u hu=>?_⟩
    have:=h2 j u hu
    rw [hsz,Nat.add_mul] at this
    rw [show off+o * s' + e * s' + j=off+(o * s' + e * s')+j by omega]
    exact this
  ·cases h
 ·cases h
theorem cellsOf_congr {f g:Nat→List SC}:∀ {n:Nat},(∀ e,e<n→f e=g e)→cellsOf E n f=cellsOf E n g
 | 0,_=>by simp [cellsOf]
 | n+1,h=>by rw [cellsOf_succ,cellsOf_succ,cellsOf_congr (fun e he=>h e (by omega)),h n (by omega)]
theorem appAt_len {s n m:Nat} {f g:Nat→List SC} (hf:∀ e,e<n→(f e).length=s) (hg:∀ e,e<m→(g e).length=s):∀ e,e<n+m→(appAt n f g e).length=s:=by
 intro e he
 unfold appAt
 split
 ·next h=>exact hf e h
 ·exact hg _ (by omega)
theorem cellsOf_app {n m:Nat} {f g:Nat→List SC}:cellsOf E (n+m) (appAt n f g)=cellsOf E n f++cellsOf E m g:=by
 induction m with
 | zero =>
  rw [Nat.add_zero,show cellsOf E 0 g=[] by simp [cellsOf],List.append_nil]
  exact cellsOf_congr fun e he=>by simp [appAt,he]
 | succ m ih =>
  rw [← Nat.add_assoc,cellsOf_succ,ih,cellsOf_succ,List.append_assoc]
  have:appAt n f g (n+m)=g m:=by
   unfold appAt
   rw [if_neg (by omega)]
   congr 1
   omega
  rw [this]
theorem RdAt.one {v:Value} {s m:Nat} {g:Nat→List SC} (h:RdAt E w v s m g):∀ e,e<m→∀ (j:Nat) (u:SC),(g e)[j]? = some u→(u.den E).oneCell' = true:=by
 obtain ⟨_,_,_,h | ⟨_,_,_,h⟩⟩:=h
 ·intro e he;omega
 ·exact fun e he j u hu=>((h e he).2 j u hu).2
def ArCells (E:Env) (n s:Nat) (at_:Nat→List SC) (cells:Array Value):Prop:=∀ e,e<n→(at_ e).length=s∧∀ j u,(at_ e)[j]? = some u→cells[e * s+j]? = some (u.den E)∧(u.den E).oneCell' = true
theorem arCells_of {s n:Nat} {f:Nat→List SC} {cells:Array Value} (hl:∀ e,e<n→(f e).length=s) (h1:∀ e,e<n→∀ (j:Nat) (u:SC),(f e)[j]? = some u→(u.den E).oneCell' = true) (hc:∀ (i:Nat) (u:Value),(cellsOf E n f)[i]? = some u→cells[i]? = some u):ArCells E n s f cells:=by
 intro e he
 refine ⟨hl e he,fun j u hu=>⟨?_,h1 e he j u hu⟩⟩
 have hj:j<s:=by rw [← hl e he];exact (List.getElem?_eq_some_iff.1 hu).1
 refine hc _ _ ?_
 rw [cellsOf_get hl e j he hj,hu]
 rfl
theorem app_grow {t u ty e:TypeId} {i:TypeInfo} {z:Value} (ht:P.underlying t=some (.slice e)) {e' : TypeId} (hu:P.underlying u=some (.slice e')) (hi:P.info? e=some i) (hz:i.zero=some z)
  {ba:Option Addr} {n cap m:Nat} {xv:Value} {f g:Nat→List SC} (hs:RdAt E w (.slice ba n cap) i.size n f) (hx:RdAt E w xv i.size m g) (hg:cap<n+m) (hb:(n+m+(n+m) / 4+192) * i.bytes≤281474976710656∨(cap=0∧(n+m) * i.bytes≤281474976710656)) (hm:n+m≤maxLen) :
  ∃ cells,(Builtin.append_ #[t,u] ty #[.slice ba n cap,xv]).run P w = .ok (.slice (some ⟨w.heap.size,0,none⟩) (n+m) (grownCap w (n+m) cap e)) (w.drew.alloc (.cells cells e)) ∧
   (z.cells.size=i.size→cells.size=grownCap w (n+m) cap e * i.size)∧ArCells E (n+m) i.size (appAt n f g) cells:=by
 have hfit:Builtin.nextslicecap (n+m) cap * i.bytes≤281474976710656:=by
  rcases hb with hb | ⟨rfl,hb⟩
  ·exact growslice_fits_wide hg hb
  ·rw [nextslicecap_zero hg];exact hb
 have h63:((n+m:Nat):Int)≤9223372036854775807:=by unfold maxLen at hm;omega
 obtain ⟨ho,hlo,_⟩:=hs.first (P:=P) w.drew rfl
 have hr:=run_append_grow_src (P:=P) w t u ty e i z ht hi hz ba n cap (cellsOf E n f) ho xv m (cellsOf E m g) (hx.src hu) hg h63 hfit
 refine ⟨_,hr,fun hzs=>?_,?_⟩
 ·have hge:=grownCap_ge w (n+m) cap e
  simp only [Array.size_append,List.size_toArray,List.length_append,size_zeroCells,hzs,cellsOf_len hs.lens,cellsOf_len hx.lens,← Nat.add_mul]
  congr 1
  omega
 ·refine arCells_of (appAt_len hs.lens hx.lens) (fun k hk j c hc=>?_) (fun k c hc=>?_)
  ·unfold appAt at hc
   split at hc
   ·next h=>exact hs.one k h j c hc
   ·exact hx.one _ (by omega) j c hc
  ·rw [cellsOf_app] at hc
   have hlt:=(List.getElem?_eq_some_iff.1 hc).1
   rw [Array.getElem?_append_left (by simpa using hlt)]
   simpa using hc
theorem app_room {t u ty e:TypeId} {i:TypeInfo} (ht:P.underlying t=some (.slice e)) {e' : TypeId} (hu:P.underlying u=some (.slice e')) (hi:P.info? e=some i)
  {b n cap m tb:Nat} {xv:Value} {g:Nat→List SC} {cells:Array Value} (hb:w.heap[b]? = some (.cells cells tb (0,0))) (hcap:cells.size=cap * i.size) (hx:RdAt E w xv i.size m g) (hroom:n+m≤cap) :
  (Builtin.append_ #[t,u] ty #[.slice (some ⟨b,0,none⟩) n cap,xv]).run P w = .ok (.slice (some ⟨b,0,none⟩) (n+m) cap) (w.setRow b (cells.toList.take (n * i.size)++cellsOf E m g++cells.toList.drop (n * i.size+(cellsOf E m g).length)).toArray):=by
 obtain ⟨_,hl,h1⟩:=hx.first (P:=P) w rfl
 have hsrc:=hx.src (P:=P) hu
 have hle:(n+m) * i.size≤cap * i.size:=Nat.mul_le_mul_right _ hroom
 rw [Nat.add_mul] at hle
 have hst:=run_storeCells_at P b (n * i.size) tb (cellsOf E m g) 0 cells w hb (by rw [hl];omega) h1
 simp only [Nat.add_zero] at hst
 rcases hsrc.kind with ⟨e'',hk⟩ | hk
 ·simp [Builtin.append_,run_underlying ht,run_underlying hk,sizeOf,typeInfo,hi,hsrc.len,hroom,hsrc.cells,Addr.add_lit,hst]
 ·rw [hu] at hk;cases hk
end
end Go.Proofs.Ytgljbdcamagdbaa.Z
namespace Go.Proofs.Ytgljbdcamagdbaa.Z
open Go Go.RowKit
section
variable {P:Program} {T:TT} {B:Nat} {W:Nat→Prop} {w0:World} {E:Env} {S:St} {a:Act} {w:World}
theorem emp_some {n:Nat} {o:Obj} (h:emp n=some o):False:=by cases h
theorem fits_emp {b:Blk} {i:Nat} (hb:b.den E (i,0,0) emp):Fits B W E S w w [(i,.one b)] []:=by
 refine ⟨fun H hH=>?_,fun _ _ x A h=>by simp [atN,look] at h⟩
 have hat:∀ x c,atN [(i,Fm.one b)] x=some c→x=(i,0,0)∧c=b:=by
  rintro ⟨j,k,l⟩ c h
  simp only [atN,look] at h
  by_cases e:i=j
  ·subst e
   simp only [if_true,Fm.get] at h
   split at h
   ·next e =>
    obtain ⟨rfl,rfl⟩:=e
    cases h
    exact ⟨rfl,rfl⟩
   ·cases h
  ·rw [if_neg e] at h
   cases h
 refine ⟨rfl,rfl,rfl,Nat.le_refl _,fun _ _ _=>rfl,fun _=>emp,fun x c h=>?_,fun x y c d hx hy hne n=>Or.inl rfl,fun x c hx n o hn=>(emp_some hn).elim⟩
 obtain ⟨rfl,rfl⟩:=hat x c h
 exact hb
theorem fits_move {b b' : Blk} {y:Nm} {p:Prop} {i:Nat} {h' : PH} {w1:World} (hy:pkN S.own y=some (p,b)) (hp:p) (hb:b'.den E (i,0,0) h') (h0:w1.os=w.os∧w1.tape=w.tape∧w1.output=w.output)
  (hsz:w.heap.size≤w1.heap.size) (hk:∀ H,HeapOk B W E S.own H w→∀ n,n<w.heap.size→H y n=none→w1.heap[n]? = w.heap[n]?)
  (hs:∀ H,HeapOk B W E S.own H w→∀ n o,h' n=some o→w1.heap[n]? = some o∧(w.heap.size≤n∨H y n≠none)):Fits B W E S w w1 ((i,.one b') :: setN S.own y .no) []:=by
 refine ⟨fun H hH=>?_,fun _ _ x A h=>by simp [atN,look] at h⟩
 have hat:=pkN_at hy hp
 have hkey:∀ j,(look ((i,Fm.one b') :: setN S.own y .no) j).isSome=true↔(j=i∨j=y.1):=by
  intro j
  rw [look_cons]
  split
  ·next e=>subst e;simp
  ·next e=>rw [setN_look hy];simp [Ne.symm e]
 have hget:∀ x c,atN ((i,Fm.one b') :: setN S.own y .no) x=some c→(x=(i,0,0)∧c=b')∨(x.1≠i∧x.1=y.1∧((x=y∧c = .no)∨(x≠y∧atN S.own x=some c))):=by
  intro x c h
  unfold atN at h
  rw [look_cons] at h
  by_cases e:i=x.1
  ·rw [if_pos e] at h
   left
   obtain ⟨j,k,l⟩:=x
   simp only [Fm.get] at h e
   split at h
   ·next e2 =>
    obtain ⟨rfl,rfl⟩:=e2
    cases h
    subst e
    exact ⟨rfl,rfl⟩
   ·cases h
  ·rw [if_neg e] at h
   right
   have h2:atN (setN S.own y .no) x=some c:=h
   rw [atN_setN hy hp] at h2
   split at h2
   ·next e1 =>
    refine ⟨Ne.symm e,e1,?_⟩
    split at h2
    ·next e2=>cases h2;exact Or.inl ⟨e2,rfl⟩
    ·next e2=>exact Or.inr ⟨e2,h2⟩
   ·cases h2
 -- an own block that is not y's lies in w1 as it did
 have hother:∀ x c,x≠y→atN S.own x=some c→∀ n o,H x n=some o→w1.heap[n]? = some o∧H y n=none∧n<w.heap.size:=by
  intro x c hne hx n o hn
  have h1:=(hH.sub x c hx n o hn).1
  have hlt:=hH.lt hx hn
  have hyn:H y n=none:=by
   rcases hH.disj y x b c hat hx (Ne.symm hne) n with h | h
   ·exact h
   ·rw [h] at hn;cases hn
  exact ⟨by rw [hk H hH n hlt hyn];exact h1,hyn,hlt⟩
 refine ⟨h0.1,h0.2.1,h0.2.2,hsz,fun n hn h=>hk H hH n hn (h y b ((hkey _).2 (Or.inr rfl)) hat),fun x=>if x.1=i then h' else if x=y then emp else H x,?_,?_,?_⟩
 ·intro x c hc
  rcases hget x c hc with ⟨rfl,rfl⟩ | ⟨e1,e2,⟨rfl,rfl⟩ | ⟨e3,h⟩⟩
  ·simpa using hb
  ·simp only [e1,if_false,if_true,Blk.den]
  ·simp only [e1,e3,if_false]
   exact hH.den x c h
 ·intro x z c d hc hd hne n
  have key:∀ z d,z≠y→atN S.own z=some d→h' n=none∨H z n=none:=by
   intro z d hz hd
   cases e1:h' n with
   | none=>exact Or.inl rfl
   | some o =>
    right
    cases e2:H z n with
    | none=>rfl
    | some o' =>
     obtain ⟨_,h3,h4⟩:=hother z d hz hd n o' e2
     rcases (hs H hH n o e1).2 with h5 | h5
     ·omega
     ·exact absurd h3 h5
  rcases hget x c hc with ⟨rfl,rfl⟩ | ⟨e1,e2,⟨rfl,rfl⟩ | ⟨e3,h⟩⟩
  ·rcases hget z d hd with ⟨rfl,rfl⟩ | ⟨f1,f2,⟨rfl,rfl⟩ | ⟨f3,h2⟩⟩
   ·exact absurd rfl hne
   ·right;simp only [f1,if_false,if_true];rfl
   ·simp only [f1,f3,if_true,if_false]
    exact key z d f3 h2
  ·left;simp only [e1,if_false,if_true];rfl
  ·rcases hget z d hd with ⟨rfl,rfl⟩ | ⟨f1,f2,⟨rfl,rfl⟩ | ⟨f3,h2⟩⟩
   ·simp only [e1,e3,if_true,if_false]
    exact (key x c e3 h).symm
   ·right;simp only [f1,if_false,if_true];rfl
   ·simp only [e1,e3,f1,f3,if_false]
    exact hH.disj x z c d h h2 hne n
 ·intro x c hc n o hn
  rcases hget x c hc with ⟨rfl,rfl⟩ | ⟨e1,e2,⟨rfl,rfl⟩ | ⟨e3,h⟩⟩
  ·simp only [if_true] at hn
   obtain ⟨g1,g2⟩:=hs H hH n o hn
   exact ⟨g1,g2.imp id fun h=>⟨y,b,(hkey _).2 (Or.inr rfl),hat,h⟩⟩
  ·simp only [e1,if_false,if_true] at hn
   exact (emp_some hn).elim
  ·simp only [e1,e3,if_false] at hn
   obtain ⟨g1,g2,g3⟩:=hother x c e3 h n o hn
   exact ⟨g1,Or.inr ⟨x,c,(hkey _).2 (Or.inr e2),h,by rw [hn];simp⟩⟩
def one1 (b k:Nat) (nil:Bool):Env:=⟨fun _=>b,fun _=>k,fun _=>nil,fun _=>.bool true⟩
theorem one1_one (b k:Nat) (nil:Bool):OneC (one1 b k nil):=fun _=>rfl
theorem one1_at {b k:Nat} {nil:Bool} {i:Nat} (h:AgreeD (NewIds i 1) (one1 b k nil) E):E.ρ (i,0,0)=b∧E.κ (i,0,0)=k∧E.ν (i,0,0)=nil:=by
 have:=h (i,0,0) ⟨Nat.le_refl _,by simp⟩
 exact ⟨this.1,this.2.1,this.2.2.1⟩
theorem ar_den {i n s ty:Nat} {at_:Nat→List SC} {cells:Array Value} {b k:Nat} (hE:E.ρ (i,0,0)=b∧E.κ (i,0,0)=k∧E.ν (i,0,0)=false) (hn:n≤k) (hp:0<k) (hk:k≤maxLen) (hsz:cells.size=k * s) (hc:ArCells E n s at_ cells) :
  Blk.den E (i,0,0) (.ar n s at_ ty) (sing b (.cells cells ty (0,0))):=by
 obtain ⟨h1,h2,h3⟩:=hE
 simp only [Blk.den]
 exact Or.inr ⟨h3,by omega,by omega,cells,by rw [h1],by rw [h2];exact hsz,hc⟩
theorem fits_allocA {i n s ty:Nat} {at_:Nat→List SC} {cells:Array Value} {k:Nat} (hE:E.ρ (i,0,0)=w.heap.size∧E.κ (i,0,0)=k∧E.ν (i,0,0)=false) (hn:n≤k) (hk:k≤maxLen) (hsz:cells.size=k * s) (hc:ArCells E n s at_ cells)
  (w1:World) (hw:w1=w.alloc (.cells cells ty (0,0))∨w1=w.drew.alloc (.cells cells ty (0,0))):Fits B W E S w w1 [(i,.one (.ar n s at_ ty))] []:=by
 rcases Nat.eq_zero_or_pos k with h0 | h0
 ·have hf:Fits B W E S w w [(i,.one (.ar n s at_ ty))] []:=fits_emp (by simp only [Blk.den];exact Or.inl ⟨trivial,by omega,by omega,by trivial⟩)
  refine ⟨fun H hH=>?_,hf.2⟩
  obtain ⟨g1,g2,g3,g4,g5,H',g6,g7,g8⟩:=hf.1 H hH
  have e1:w1.heap=w.heap.push (.cells cells ty (0,0)):=by rcases hw with rfl | rfl <;> rfl
  refine ⟨by rcases hw with rfl | rfl <;> rfl,by rcases hw with rfl | rfl <;> rfl,by rcases hw with rfl | rfl <;> rfl,by rw [e1];simp,fun n hn _=>?_,H',g6,g7,fun x b hb n o hn=>?_⟩
  ·rw [e1,Array.getElem?_push]
   rw [if_neg (by omega)]
  ·obtain ⟨q1,q2⟩:=g8 x b hb n o hn
   refine ⟨?_,q2⟩
   rw [e1,Array.getElem?_push,if_neg (by have:=(Array.getElem?_eq_some_iff.1 q1).1;omega)]
   exact q1
 ·exact fits_alloc (ar_den hE hn h0 hk hsz hc) w1 hw
theorem sl_parts {x:Nm} {s n:Nat} {E E2:Env} (h:(SC.sl x s 0 n none).den E=(SC.sl x s 0 n none).den E2):E2.κ x=E.κ x∧E2.ν x=E.ν x∧(E.ν x=false→E2.ρ x=E.ρ x):=by
 rw [den_sl,den_sl] at h
 simp only [Value.slice.injEq,true_and,Option.getD_none,Nat.sub_zero] at h
 obtain ⟨h1,h2⟩:=h
 cases e1:E.ν x <;> cases e2:E2.ν x <;> rw [e1,e2] at h1 <;> simp at h1
 ·exact ⟨h2.symm,rfl,fun _=>h1.symm⟩
 ·exact ⟨h2.symm,rfl,fun h=>by cases h⟩
theorem own_rd {own:Own} {H:Nm→PH} (hH:HeapOk B W E own H w) {x:Nm} {k s ty n o:Nat} {f:Nat→List SC} {c:Nat} (h:atN own x=some (.ar k s f ty)) (hon:o+n≤k):RdAt E w (.slice (if E.ν x=true then none else some ⟨E.ρ x,o * s,none⟩) n c) s n (fun e=>f (o+e)):=by
 refine ⟨_,_,rfl,?_⟩
 rcases Nat.eq_zero_or_pos n with h0 | h0
 ·exact Or.inl h0
 ·right
  obtain ⟨hν,_,_⟩:=ar_cell hH h (show o<k by omega)
  refine ⟨E.ρ x,o * s,by rw [hν];rfl,fun e he=>?_⟩
  obtain ⟨_,h1,h2⟩:=ar_cell hH h (show o+e<k by omega)
  refine ⟨h1,fun j u hu=>?_⟩
  rw [← Nat.add_mul]
  exact h2 j u hu
def Grown (P:Program) (E:Env) (w:World) (t u ty e:TypeId) (zs size:Nat) (sv xv:Value) (n m cap:Nat) (f g:Nat→List SC):Prop :=
 ∃ cells,(Builtin.append_ #[t,u] ty #[sv,xv]).run P w = .ok (.slice (some ⟨w.heap.size,0,none⟩) (n+m) (grownCap w (n+m) cap e)) (w.drew.alloc (.cells cells e)) ∧
   (zs=size→cells.size=grownCap w (n+m) cap e * size)∧ArCells E (n+m) size (appAt n f g) cells
theorem app_ok {t u ty e e' : Nat} {s x:Operand} {is ix:IX} {ti tu te:TI} (hT:TOk P T) (ht:look T t=some ti) (htd:ti.desc = .slice e) (hu:look T u=some tu) (hud:tu.desc = .slice e') (he:look T e=some te)
  (hs1:opd s=some is) (hx1:opd x=some ix) {vc:Prop} {out:Out} (h:(stepOut (.app e te.size te.bytes (scs te.zero.cells) is ix) S).Sel vc out) (hvc:vc) (hs:Sat B W w0 E S a w) :
  ∃ v w',RunsTo ((do pure (Next.value (← Builtin.append_ #[t,u] ty #[a.eval s,a.eval x])):Sem Next).run P w) v w'∧After B W w0 E [] S a w out.val out.cnt out.eff out.arrs v w':=by
 obtain ⟨hut,_⟩:=ti_parts hT ht
 obtain ⟨huu,_⟩:=ti_parts hT hu
 obtain ⟨_,i,hi,hz,hsz,hby⟩:=ti_parts hT he
 rw [htd] at hut
 rw [hud] at huu
 have hzl:∀ {n:Nat},len' (scs te.zero.cells)=n→te.zero.cells.size=n:=by
  intro n h;rw [len'_eq] at h;simpa [scs] using h
 simp only [stepOut] at h
 split at h
 ·next xv hxv =>
  split at h
  ·next q m g hsrc =>
   split at h
   ·next hsv =>
    -- onto nil
    obtain ⟨rfl,rfl⟩:=h
    obtain ⟨hq,hzc,hpos,hb,hm⟩:=hvc
    have hzc:=hzl hzc
    have rd:∀ E,Sat B W w0 E S a w→RdAt E w (a.eval x) i.size m g:=fun E hs=>by rw [opd_den hs hx1 hxv,hsz];exact slSrc_ok hsrc hq hs
    have hes:a.eval s = .slice none 0 0:=by rw [opd_den hs hs1 hsv,den_c,den_v]
    rw [hes]
    rcases Nat.eq_zero_or_pos m with h0 | h0
    ·subst h0
     have hrun:∀ E,Sat B W w0 E S a w→(Builtin.append_ #[t,u] ty #[.slice none 0 0,a.eval x]).run P w = .ok (.slice none 0 0) w:=by
      intro E hs
      have hsrc:=(rd E hs).src (P:=P) huu
      simp [Builtin.append_,run_underlying hut,run_underlying huu,sizeOf,typeInfo,hi,hsrc.len,hsrc.cells]
     refine det_after (one1 0 0 true) (one1_one _ _ _) ⟨_,_,Or.inl (run_val (hrun E hs))⟩ fun E2 hs2 hag=>⟨w,Or.inl ?_,?_⟩
     ·obtain ⟨_,h2,h3⟩:=one1_at hag
      rw [run_val (hrun E2 hs2),den_c,den_sl,h2,h3];rfl
     ·obtain ⟨_,h2,h3⟩:=one1_at hag
      exact fits_emp (by simp only [Blk.den];exact Or.inl ⟨trivial,h2,by trivial,by trivial⟩)
    ·have hgrow:=fun E hs=>app_grow (E:=E) (w:=w) (ty:=ty) hut huu hi hz (ba:=none) (n:=0) (cap:=0) (f:=fun _=>[]) ⟨none,0,rfl,Or.inl rfl⟩ (rd E hs) (by omega) (Or.inr ⟨rfl,by rw [hby,Nat.zero_add];exact hb⟩) (by omega)
     obtain ⟨cells,hr,_⟩:=hgrow E hs
     have hge:=grownCap_ge w (0+m) 0 e
     have hcm:=grownCap_le_maxLen w (0+m) 0 e (by omega)
     refine det_after (one1 w.heap.size (grownCap w (0+m) 0 e) false) (one1_one _ _ _) ⟨_,_,Or.inl (run_val hr)⟩ fun E2 hs2 hag=>?_
     obtain ⟨cells2,hr2,hc2,hat2⟩:=hgrow E2 hs2
     have hE:=one1_at hag
     refine ⟨w.drew.alloc (.cells cells2 e),Or.inl ?_,fits_allocA (cells:=cells2) hE (n:=m) (by omega) hcm ?_ ?_ _ (Or.inr rfl)⟩
     ·rw [run_val hr2,den_c,den_sl,hE.1,hE.2.1,hE.2.2];simp
     ·rw [← hsz];exact hc2 (by rw [hzc,hsz])
     ·rw [← hsz]
      intro k hk
      have:=hat2 k (by omega)
      have e0:appAt 0 (fun _=>[]) g k=g k:=by simp [appAt]
      rw [e0] at this
      exact this
   ·next y s' n hsv =>
    split at h
    ·next p k s'' f t' hlook =>
     -- onto a slice of the state's own
     obtain ⟨rfl,rfl⟩:=h
     obtain ⟨hp,hq,rfl,rfl,rfl,hzc,hpos,hnk,hb,hm⟩:=hvc
     have hzc:=hzl hzc
     rw [← hsz] at hlook hpos
     have rd:∀ E,Sat B W w0 E S a w→RdAt E w (a.eval x) i.size m g:=fun E hs=>by rw [opd_den hs hx1 hxv,hsz];exact slSrc_ok hsrc hq hs
     have hes:∀ E,Sat B W w0 E S a w→a.eval s = .slice (if E.ν y=true then none else some ⟨E.ρ y,0,none⟩) n (E.κ y):=fun E hs=>by
      rw [opd_den hs hs1 hsv,den_c,den_sl];simp
     have same:∀ E2,Sat B W w0 E2 S a w→E2.κ y=E.κ y∧E2.ν y=E.ν y∧(E.ν y=false→E2.ρ y=E.ρ y):=fun E2 hs2 =>
      sl_parts ((opd_den hs hs1 hsv).symm.trans (opd_den hs2 hs1 hsv))
     have hmem:∀ E,Sat B W w0 E S a w→∃ H,HeapOk B W E S.own H w:=fun E hs=>let ⟨H,hH,_⟩:=hs.mem;⟨H,hH⟩
     by_cases hroom:n+m≤E.κ y
     ·by_cases hz:E.κ y=0
      ·-- no room,and nothing comes
       have hn0:n=0:=by omega
       have hm0:m=0:=by omega
       subst hn0 hm0
       have hrun:∀ E2,Sat B W w0 E2 S a w→(Builtin.append_ #[t,u] ty #[a.eval s,a.eval x]).run P w = .ok (.slice (if E.ν y=true then none else some ⟨E.ρ y,0,none⟩) 0 0) w:=by
        intro E2 hs2
        have hsrc:=(rd E2 hs2).src (P:=P) huu
        obtain ⟨f1,f2,f3⟩:=same E2 hs2
        have ev:(if E2.ν y=true then none else some ⟨E2.ρ y,0,none⟩:Option Addr)=if E.ν y=true then none else some ⟨E.ρ y,0,none⟩:=by
         rw [f2]
         cases hv:E.ν y with
         | true=>rfl
         | false=>rw [f3 hv]
        rw [hes E2 hs2,f1,hz,ev]
        have hc0:cellsOf E2 0 g=[]:=by simp [cellsOf]
        cases hv:E.ν y <;> simp [Builtin.append_,run_underlying hut,run_underlying huu,sizeOf,typeInfo,hi,hsrc.len,hsrc.cells,hc0,storeCells]
       refine det_after (one1 (E.ρ y) 0 (E.ν y)) (one1_one _ _ _) ⟨_,_,Or.inl (run_val (hrun E hs))⟩ fun E2 hs2 hag=>⟨w,Or.inl ?_,?_⟩
       ·obtain ⟨h1,h2,h3⟩:=one1_at hag
        rw [run_val (hrun E2 hs2),den_c,den_sl,h1,h2,h3];simp
       ·obtain ⟨_,h2,h3⟩:=one1_at hag
        exact fits_move hlook hp (h':=emp) (by simp only [Blk.den];exact Or.inl ⟨trivial,h2,by trivial,by trivial⟩) ⟨rfl,rfl,rfl⟩ (Nat.le_refl _) (fun _ _ _ _ _=>rfl) (fun _ _ n o hn=>(emp_some hn).elim)
      ·have hν:E.ν y=false:=by
        obtain ⟨H,hH⟩:=hmem E hs
        rcases ar_heap hH (pkN_at hlook hp) with ⟨_,h2,_⟩ | ⟨h2,_⟩
        ·exact absurd h2 hz
        ·exact h2
       have hbl:∀ E2,Sat B W w0 E2 S a w→k≤E2.κ y∧E2.κ y≤maxLen∧∃ cells,w.heap[E2.ρ y]? = some (.cells cells t' (0,0))∧cells.size=E2.κ y * i.size∧ArCells E2 k i.size f cells∧∀ H,HeapOk B W E2 S.own H w→H y=sing (E2.ρ y) (.cells cells t' (0,0)):=by
        intro E2 hs2
        obtain ⟨H,hH⟩:=hmem E2 hs2
        rcases ar_heap hH (pkN_at hlook hp) with ⟨_,h2,_⟩ | ⟨h2,h3,h4,cells,h5,h6,h7,h8⟩
        ·rw [(same E2 hs2).1] at h2;exact absurd h2 hz
        ·refine ⟨h3.1,h4,cells,h6,h7,h8,fun H' hH'=>?_⟩
         rcases ar_heap hH' (pkN_at hlook hp) with ⟨_,g2,_⟩ | ⟨_,_,_,cells',g5,g6,_,_⟩
         ·omega
         ·rw [h6] at g6
          cases g6
          exact g5
       have hrun:∀ E2 (hs2:Sat B W w0 E2 S a w) cells,w.heap[E2.ρ y]? = some (.cells cells t' (0,0))→cells.size=E2.κ y * i.size →
         (Builtin.append_ #[t,u] ty #[a.eval s,a.eval x]).run P w = .ok (.slice (some ⟨E2.ρ y,0,none⟩) (n+m) (E2.κ y)) (w.setRow (E2.ρ y) (cells.toList.take (n * i.size)++cellsOf E2 m g++cells.toList.drop (n * i.size+(cellsOf E2 m g).length)).toArray):=by
        intro E2 hs2 cells h1 h2
        rw [hes E2 hs2,(same E2 hs2).2.1,hν]
        exact app_room hut huu hi h1 h2 (rd E2 hs2) (by rw [(same E2 hs2).1];exact hroom)
       obtain ⟨_,_,cells,h1,h2,_,_⟩:=hbl E hs
       refine det_after (one1 (E.ρ y) (E.κ y) false) (one1_one _ _ _) ⟨_,_,Or.inl (run_val (hrun E hs cells h1 h2))⟩ fun E2 hs2 hag=>?_
       obtain ⟨hk2,hm2,cells2,g1,g2,g3,g4⟩:=hbl E2 hs2
       have hE:=one1_at hag
       have hsame:=same E2 hs2
       have eρ:=hsame.2.2 hν
       have hlen:(cellsOf E2 m g).length=m * i.size:=cellsOf_len (rd E2 hs2).lens
       have hle:(n+m) * i.size≤E2.κ y * i.size:=Nat.mul_le_mul_right _ (by rw [hsame.1];exact hroom)
       rw [Nat.add_mul] at hle
       refine ⟨w.setRow (E2.ρ y) (cells2.toList.take (n * i.size)++cellsOf E2 m g++cells2.toList.drop (n * i.size+(cellsOf E2 m g).length)).toArray,Or.inl ?_,fits_move hlook hp (h':=sing (E2.ρ y) (.cells (cells2.toList.take (n * i.size)++cellsOf E2 m g++cells2.toList.drop (n * i.size+(cellsOf E2 m g).length)).toArray t' (0,0))) ?_ ⟨rfl,rfl,rfl⟩ ?_ ?_ ?_⟩
       ·rw [run_val (hrun E2 hs2 cells2 g1 g2),den_c,den_sl,hE.1,hE.2.1,hE.2.2,eρ,hsame.1];simp
       ·rw [← hsz]
        refine ar_den (by rw [eρ];exact hE) (by omega) (by omega) (by rw [← hsame.1];exact hm2) ?_ ?_
        ·simp only [List.size_toArray,List.length_append,List.length_take,List.length_drop,Array.length_toList,hlen]
         rw [hsame.1] at g2 hle
         omega
        ·have hfl:∀ e,e<n→(f e).length=i.size:=fun e he=>(g3 e (by omega)).1
         have hcl:=cellsOf_len (E:=E2) hfl
         refine arCells_of (appAt_len hfl (rd E2 hs2).lens) (fun r hr j c hc=>?_) (fun r c hc=>?_)
         ·unfold appAt at hc
          split at hc
          ·next h=>exact ((g3 r (by omega)).2 j c hc).2
          ·exact (rd E2 hs2).one _ (by omega) j c hc
         ·rw [cellsOf_app] at hc
          have hlt:=(List.getElem?_eq_some_iff.1 hc).1
          rw [List.length_append,hcl,hlen] at hlt
          simp only [List.getElem?_toArray]
          rw [List.getElem?_append_left (by simp only [List.length_append,List.length_take,Array.length_toList,hlen];omega)]
          by_cases hr:r<n * i.size
          ·rw [List.getElem?_append_left (by rw [hcl];exact hr)] at hc
           obtain ⟨e1,j,c1,he1,hj,rfl,hc1,rfl⟩:=cellsOf_inv hfl hc
           rw [List.getElem?_append_left (by simp only [List.length_take,Array.length_toList];omega),List.getElem?_take,if_pos hr,Array.getElem?_toList]
           exact ((g3 e1 (by omega)).2 j c1 hc1).1
          ·rw [List.getElem?_append_right (by rw [hcl];omega),hcl] at hc
           rw [List.getElem?_append_right (by simp only [List.length_take,Array.length_toList];omega)]
           simp only [List.length_take,Array.length_toList]
           rw [Nat.min_eq_left (by omega)]
           exact hc
       ·show w.heap.size≤(w.setRow _ _).heap.size
        simp [World.setRow]
       ·intro H hH r hr hHr
        have e1:=g4 H hH
        refine setRow_other _ _ _ _ fun e2=>?_
        rw [e1,e2] at hHr
        simp [sing] at hHr
       ·intro H hH r o hr
        obtain ⟨rfl,rfl⟩:=sing_some hr
        refine ⟨setRow_heap w _ _ _ _ _ g1,Or.inr ?_⟩
        rw [g4 H hH]
        simp [sing]
     ·-- there is no room
      have hgrow:∀ E2,Sat B W w0 E2 S a w→Grown P E2 w t u ty t' te.zero.cells.size i.size (a.eval s) (a.eval x) n m (E2.κ y) f g:=fun E2 hs2=>by
       obtain ⟨H,hH⟩:=hmem E2 hs2
       rw [hes E2 hs2]
       have hr:=own_rd hH (c:=E2.κ y) (pkN_at hlook hp) (show 0+n≤k by omega)
       simp only [Nat.zero_add,Nat.zero_mul] at hr
       exact app_grow (E:=E2) (w:=w) (ty:=ty) (u:=u) hut huu hi hz hr (rd E2 hs2) (by rw [(same E2 hs2).1];omega) (Or.inl (by rw [hby];exact hb)) hm
      obtain ⟨cells,hr,_⟩:=hgrow E hs
      have hge:=grownCap_ge w (n+m) (E.κ y) t'
      have hcm:=grownCap_le_maxLen w (n+m) (E.κ y) t' (by omega)
      refine det_after (one1 w.heap.size (grownCap w (n+m) (E.κ y) t') false) (one1_one _ _ _) ⟨_,_,Or.inl (run_val hr)⟩ fun E2 hs2 hag=>?_
      obtain ⟨cells2,hr2,hc2,hat2⟩:=hgrow E2 hs2
      have hE:=one1_at hag
      rw [(same E2 hs2).1] at hr2 hc2
      refine ⟨w.drew.alloc (.cells cells2 t'),Or.inl ?_,fits_move hlook hp (h':=sing w.heap.size (.cells cells2 t' (0,0))) (ar_den hE (by omega) (by omega) hcm ?_ ?_) ⟨rfl,rfl,rfl⟩ ?_ ?_ ?_⟩
      ·rw [run_val hr2,den_c,den_sl,hE.1,hE.2.1,hE.2.2];simp
      ·rw [← hsz];exact hc2 (by rw [hzc,hsz])
      ·rw [← hsz];exact hat2
      ·simp
      ·intro H hH r hr _
       exact Below.heap_alloc w.drew _ _ hr
      ·intro H hH r o hr
       obtain ⟨rfl,rfl⟩:=sing_some hr
       exact ⟨heap_alloc_new w.drew _,Or.inl (Nat.le_refl _)⟩
    ·exact h.elim
   ·next y s' o n c hsv =>
    split at h
    ·next p k s'' f t' hlook =>
     -- onto a slice without spare room
     obtain ⟨rfl,rfl⟩:=h
     obtain ⟨hp,hq,rfl,rfl,hzc,hpos,hnk,rfl,hm0,hb,hm⟩:=hvc
     have hzc:=hzl hzc
     rw [← hsz] at hlook hpos
     have rd:∀ E,Sat B W w0 E S a w→RdAt E w (a.eval x) i.size m g:=fun E hs=>by rw [opd_den hs hx1 hxv,hsz];exact slSrc_ok hsrc hq hs
     have hgrow:∀ E2,Sat B W w0 E2 S a w→Grown P E2 w t u ty e te.zero.cells.size i.size (a.eval s) (a.eval x) c m c (fun e=>f (o+e)) g:=fun E2 hs2=>by
      obtain ⟨H,hH,_⟩:=hs2.mem
      have hr:=own_rd hH (c:=c) (pkN_at hlook hp) hnk
      have e1:a.eval s = .slice (if E2.ν y=true then none else some ⟨E2.ρ y,o * i.size,none⟩) c c:=by
       rw [opd_den hs2 hs1 hsv,den_c,den_sl,hsz];rfl
      rw [e1]
      exact app_grow (E:=E2) (w:=w) (ty:=ty) (u:=u) hut huu hi hz hr (rd E2 hs2) (by omega) (Or.inl (by rw [hby];exact hb)) hm
     obtain ⟨cells,hr,_⟩:=hgrow E hs
     have hge:=grownCap_ge w (c+m) c e
     have hcm:=grownCap_le_maxLen w (c+m) c e (by omega)
     refine det_after (one1 w.heap.size (grownCap w (c+m) c e) false) (one1_one _ _ _) ⟨_,_,Or.inl (run_val hr)⟩ fun E2 hs2 hag=>?_
     obtain ⟨cells2,hr2,hc2,hat2⟩:=hgrow E2 hs2
     have hE:=one1_at hag
     refine ⟨w.drew.alloc (.cells cells2 e),Or.inl ?_,fits_allocA (cells:=cells2) hE (by omega) hcm ?_ ?_ _ (Or.inr rfl)⟩
     ·rw [run_val hr2,den_c,den_sl,hE.1,hE.2.1,hE.2.2];simp
     ·rw [← hsz];exact hc2 (by rw [hzc,hsz])
     ·rw [← hsz];exact hat2
    ·exact h.elim
   ·next y s' o n c hsv =>
    split at h
    ·next p A hlook =>
     -- onto a borrowed slice without spare room
     obtain ⟨rfl,rfl⟩:=h
     obtain ⟨hp,hq,rfl,hAs,hzc,hpos,hnk,rfl,hm0,hb,hm⟩:=hvc
     have hzc:=hzl hzc
     have rd:∀ E,Sat B W w0 E S a w→RdAt E w (a.eval x) i.size m g:=fun E hs=>by rw [opd_den hs hx1 hxv,hsz];exact slSrc_ok hsrc hq hs
     have hgrow:∀ E2,Sat B W w0 E2 S a w→Grown P E2 w t u ty e te.zero.cells.size i.size (a.eval s) (a.eval x) c m c (fun e=>A.at_ (o+e)) g:=fun E2 hs2=>by
      have hr:=slSrc_ok (s:=te.size) (v:=.c (.xs y te.size o c (some c))) (m:=c) (q:=p∧te.size=te.size∧A.size=te.size∧o+c≤A.len) (g:=fun e=>A.at_ (o+e)) (by simp only [slSrc,hlook]) ⟨hp,rfl,hAs,hnk⟩ hs2
      rw [← hsz] at hr
      have e1:a.eval s=(SV.c (.xs y te.size o c (some c))).den E2:=opd_den hs2 hs1 hsv
      rw [← hsz] at e1
      rw [← e1] at hr
      obtain ⟨ba,cap,e2,h3⟩:=hr
      have e3:cap=c:=by
       rw [e1] at e2
       obtain ⟨ba',cap',hχ,_⟩:=hs2.arr (pkN_at hlook hp)
       rw [den_c] at e2
       simp only [SC.den,hχ] at e2
       cases ba' <;> simp at e2 <;> exact e2.2.symm
      subst e3
      rw [e2]
      exact app_grow (E:=E2) (w:=w) (ty:=ty) (u:=u) hut huu hi hz (ba:=ba) ⟨ba,cap,rfl,h3⟩ (rd E2 hs2) (by omega) (Or.inl (by rw [hby];exact hb)) hm
     obtain ⟨cells,hr,_⟩:=hgrow E hs
     have hge:=grownCap_ge w (c+m) c e
     have hcm:=grownCap_le_maxLen w (c+m) c e (by omega)
     refine det_after (one1 w.heap.size (grownCap w (c+m) c e) false) (one1_one _ _ _) ⟨_,_,Or.inl (run_val hr)⟩ fun E2 hs2 hag=>?_
     obtain ⟨cells2,hr2,hc2,hat2⟩:=hgrow E2 hs2
     have hE:=one1_at hag
     refine ⟨w.drew.alloc (.cells cells2 e),Or.inl ?_,fits_allocA (cells:=cells2) hE (by omega) hcm ?_ ?_ _ (Or.inr rfl)⟩
     ·rw [run_val hr2,den_c,den_sl,hE.1,hE.2.1,hE.2.2];simp
     ·rw [← hsz];exact hc2 (by rw [hzc,hsz])
     ·rw [← hsz];exact hat2
    ·exact h.elim
   ·exact h.elim
  ·exact h.elim
 ·exact h.elim
end
end Go.Proofs.Ytgljbdcamagdbaa.Z
namespace Go.Proofs.Ytgljbdcamagdbaa.Z
open Go Go.RowKit
section
variable {P:Program} {T:TT} {B:Nat} {W:Nat→Prop} {w0:World} {E:Env} {S:St} {a:Act} {w:World}
theorem allOne_den {l:List SC} (h:allOne l=true) (hx:OneC E):∀ (j:Nat) (u:SC),l[j]? = some u→(u.den E).oneCell' = true:=fun j u hu=>one_den hx (allOne_mem h u (List.mem_of_getElem? hu))
theorem mks_ok {t e:Nat} {l c:Operand} {il ic:IX} {ti te:TI} (hT:TOk P T) (ht:look T t=some ti) (htd:ti.desc = .slice e) (he:look T e=some te)
  (hl1:opd l=some il) (hc1:opd c=some ic) {vc:Prop} {out:Out} (h:(stepOut (.mks e te.size te.bytes (scs te.zero.cells) il ic) S).Sel vc out) (hvc:vc) (hs:Sat B W w0 E S a w) :
  ∃ v w',RunsTo ((do pure (Next.value (← Instr.makeSlice t (a.eval l) (a.eval c))):Sem Next).run P w) v w'∧After B W w0 E [] S a w out.val out.cnt out.eff out.arrs v w':=by
 obtain ⟨hut,_⟩:=ti_parts hT ht
 obtain ⟨_,i,hi,hz,hsz,hby⟩:=ti_parts hT he
 rw [htd] at hut
 simp only [stepOut] at h
 split at h
 ·next k1 n k2 m hln hcm =>
  obtain ⟨rfl,rfl⟩:=h
  obtain ⟨h0,hnm,hb,hm,hzc,hpos,h1⟩:=hvc
  have hzl:te.zero.cells.size=te.size:=by rw [len'_eq] at hzc;simpa [scs] using hzc
  have hr:=run_make (P:=P) w t e i te.zero hut hi hz k1 k2 n m h0 hnm (by rw [hby,Int.mul_comm];omega) (by unfold maxLen at hm;omega)
  rw [opd_den hs hl1 hln,opd_den hs hc1 hcm,den_c,den_c,den_v,den_v]
  have hmm:m.toNat≤maxLen:=by omega
  refine det_after (one1 w.heap.size m.toNat false) (one1_one _ _ _) ⟨_,_,Or.inl (run_val hr)⟩ fun E2 hs2 hag=>?_
  have hE:=one1_at hag
  refine ⟨w.alloc (.cells (madeCells te.zero.cells (m.toNat * i.size)) e),Or.inl ?_,fits_allocA (cells:=madeCells te.zero.cells (m.toNat * i.size)) hE (Nat.le_refl _) hmm ?_ ?_ _ (Or.inl rfl)⟩
  ·rw [run_val hr,den_c,den_sl,hE.1,hE.2.1,hE.2.2];simp
  ·rw [← hsz];exact size_madeCells _ _
  ·intro r hr
   rw [len'_eq] at hzc
   refine ⟨hzc,fun j u hu=>⟨?_,allOne_den h1 hs2.one j u hu⟩⟩
   have hj:j<te.size:=by rw [← hzc];exact (List.getElem?_eq_some_iff.1 hu).1
   have hlt:r * te.size+j<m.toNat * i.size:=by
    rw [hsz]
    have:(r+1) * te.size≤m.toNat * te.size:=Nat.mul_le_mul_right _ hr
    rw [Nat.add_mul,Nat.one_mul] at this
    omega
   have hmod:(r * te.size+j) % te.zero.cells.size=j:=by rw [hzl,Nat.mul_comm,Nat.mul_add_mod,Nat.mod_eq_of_lt hj]
   have hu' : te.zero.cells[j]? = some (u.den E2):=by
    simp only [scs,List.getElem?_map,Array.getElem?_toList,Option.map_eq_some_iff] at hu
    obtain ⟨x,hx,rfl⟩:=hu
    rw [den_v];exact hx
   simp only [madeCells]
   simp only [Array.getElem?_map,Array.getElem?_range,hlt,if_true,Option.map_some,hmod]
   rw [getElem!_def,hu']
 ·exact h.elim
theorem RdAt.pre {v:Value} {s m k:Nat} {g:Nat→List SC} (h:RdAt E w v s m g) (hk:k≤m):(Builtin.firstCells s k v).run P w = .ok (cellsOf E k g).toArray w∧(cellsOf E k g).length=k * s∧∀ u∈cellsOf E k g,u.oneCell' = true:=by
 obtain ⟨ba,cap,rfl,h⟩:=h
 have h2:RdAt E w (.slice ba k cap) s k g:=by
  refine ⟨ba,cap,rfl,?_⟩
  rcases h with h | ⟨b,off,rfl,h⟩
  ·exact Or.inl (by omega)
  ·exact Or.inr ⟨b,off,rfl,fun e he=>h e (by omega)⟩
 obtain ⟨h3,h4,h5⟩:=h2.first (P:=P) w rfl
 refine ⟨?_,h4,h5⟩
 rw [← h3]
 cases ba <;> rfl
theorem cpy_ok {t u ty e e' : Nat} {s x:Operand} {is ix:IX} {ti tu te:TI} (hT:TOk P T) (ht:look T t=some ti) (htd:ti.desc = .slice e) (he:look T e=some te)
  (hs1:opd s=some is) (hx1:opd x=some ix) {vc:Prop} {out:Out} (h:(stepOut (.cpy te.size is ix) S).Sel vc out) (hvc:vc) (hs:Sat B W w0 E S a w) :
  ∃ v w',RunsTo ((do pure (Next.value (← Builtin.copy_ #[t,u] ty #[a.eval s,a.eval x])):Sem Next).run P w) v w'∧After B W w0 E [] S a w out.val out.cnt out.eff out.arrs v w':=by
 obtain ⟨hut,_⟩:=ti_parts hT ht
 obtain ⟨_,i,hi,hz,hsz,hby⟩:=ti_parts hT he
 rw [htd] at hut
 simp only [stepOut] at h
 split at h
 ·next xv hxv =>
  split at h
  ·next q m g hsrc =>
   split at h
   ·next y s' o n c hsv =>
    split at h
    ·next p k s'' f t' hlook =>
     obtain ⟨rfl,rfl⟩:=h
     obtain ⟨hp,hq,rfl,rfl,hpos,hok⟩:=hvc
     have rd:∀ E,Sat B W w0 E S a w→RdAt E w (a.eval x) te.size m g:=fun E hs=>by rw [opd_den hs hx1 hxv];exact slSrc_ok hsrc hq hs
     have hmn:Nat.min m n≤m:=Nat.min_le_left _ _
     have hmn2:Nat.min m n≤n:=Nat.min_le_right _ _
     generalize hr:Nat.min m n=r at hmn hmn2
     have hrun:∀ E,Sat B W w0 E S a w→∃ w2,(Builtin.copy_ #[t,u] ty #[a.eval s,a.eval x]).run P w = .ok (.int .i64 (r:Int)) w2∧Fits B W E S w w2 (setN S.own y (.ar k te.size (cpyAt o r f g) t')) []:=by
      intro E hs
      obtain ⟨H,hH,_⟩:=hs.mem
      obtain ⟨hc1,hc2,hc3⟩:=(rd E hs).pre (P:=P) (k:=r) hmn
      have hes:a.eval s = .slice (if E.ν y=true then none else some ⟨E.ρ y,o * te.size,none⟩) n (c.getD (E.κ y - o)):=by rw [opd_den hs hs1 hsv,den_c,den_sl]
      have hlen:(Builtin.lenOf (a.eval x)).run P w = .ok m w:=by
       obtain ⟨ba,cap,e1,_⟩:=rd E hs
       rw [e1];rfl
      rcases ar_heap hH (pkN_at hlook hp) with ⟨hν,hκ,hk0,hHe⟩ | ⟨hν,hkk,hm,cells,hHy,hb,hcs,hcells⟩
      ·have hn0:n=0:=by omega
       have hr0:r=0:=by omega
       refine ⟨w,?_,?_⟩
       ·rw [hes]
        have hc0:cellsOf E r g=[]:=by rw [hr0];simp [cellsOf]
        cases hv:E.ν y <;> simp [Builtin.copy_,run_underlying hut,sizeOf,typeInfo,hi,hlen,hsz,hr,hc1,goInt,hc0,storeCells]
       ·subst hr0
        have hcp:cpyAt o 0 f g=f:=by
         funext e1
         unfold cpyAt
         rw [if_neg (by omega)]
        rw [hcp]
        refine ⟨fun H' hH'=>⟨rfl,rfl,rfl,Nat.le_refl _,fun _ _ _=>rfl,H',fun x b hb=>?_,fun x z b d hb hd hne=>?_,fun x b hb n o hn=>?_⟩,fun _ _ x A h=>by simp [atN,look] at h⟩
        ·rw [atN_setN hlook hp] at hb
         split at hb
         ·split at hb
          ·next e1=>subst e1;cases hb;exact hH'.den _ _ (pkN_at hlook hp)
          ·exact hH'.den _ _ hb
         ·cases hb
        ·have key:∀ x b,atN (setN S.own y (.ar k te.size f t')) x=some b→∃ b',atN S.own x=some b':=by
          intro x b hb
          rw [atN_setN hlook hp] at hb
          split at hb
          ·split at hb
           ·next e1=>subst e1;exact ⟨_,pkN_at hlook hp⟩
           ·exact ⟨_,hb⟩
          ·cases hb
         obtain ⟨b',h1⟩:=key x b hb
         obtain ⟨d',h2⟩:=key z d hd
         exact hH'.disj x z b' d' h1 h2 hne
        ·rw [atN_setN hlook hp] at hb
         split at hb
         ·next e0 =>
          have:∃ b',atN S.own x=some b':=by
           split at hb
           ·next e1=>subst e1;exact ⟨_,pkN_at hlook hp⟩
           ·exact ⟨_,hb⟩
          obtain ⟨b',h1⟩:=this
          exact ⟨(hH'.sub x b' h1 n o hn).1,Or.inr ⟨x,b',(setN_look hlook _ _).2 e0,h1,by rw [hn];simp⟩⟩
         ·cases hb
      ·have hfit:o * te.size+r * te.size≤cells.size:=by
        rw [hcs,← Nat.add_mul]
        exact Nat.mul_le_mul_right _ (by omega)
       have hst:=run_storeCells_at P (E.ρ y) (o * te.size) t' (cellsOf E r g) 0 cells w hb (by rw [hc2];omega) hc3
       simp only [Nat.add_zero] at hst
       refine ⟨w.setRow (E.ρ y) (cells.toList.take (o * te.size)++cellsOf E r g++cells.toList.drop (o * te.size+(cellsOf E r g).length)).toArray,?_,?_⟩
       ·rw [hes,hν]
        simp only [Bool.false_eq_true,if_false]
        simp [Builtin.copy_,run_underlying hut,sizeOf,typeInfo,hi,hlen,hsz,hr,hc1,goInt,hst]
       ·refine fits_write (g:=E.ρ y) (o:=.cells (cells.toList.take (o * te.size)++cellsOf E r g++cells.toList.drop (o * te.size+(cellsOf E r g).length)).toArray t' (0,0)) (b':=.ar k te.size (cpyAt o r f g) t') hlook hp ?_ (fun H hH=>?_) ?_ _ ⟨rfl,rfl,rfl⟩ (heap_setRow hb)
        ·exact (Array.getElem?_eq_some_iff.1 hb).1
        ·rcases ar_heap hH (pkN_at hlook hp) with ⟨_,h3,_⟩ | ⟨_,_,_,cells',h4,h5,_⟩
         ·omega
         ·rw [h4,h5];rfl
        simp only [Blk.den]
        refine Or.inr ⟨hν,hkk,hm,_,rfl,?_,?_⟩
        ·simp only [List.size_toArray,List.length_append,List.length_take,List.length_drop,Array.length_toList,hc2]
         omega
        ·intro e1 he1
         have get:∀ j,(cells.toList.take (o * te.size)++cellsOf E r g++cells.toList.drop (o * te.size+(cellsOf E r g).length)).toArray[j]? = if o * te.size≤j∧j<o * te.size+r * te.size then (cellsOf E r g)[j - o * te.size]? else cells[j]?:=by
          intro j
          obtain ⟨L⟩:=cells
          have e0:(⟨L⟩:Array Value)[j]? = L[j]?:=by simp
          rw [e0]
          have h6:(L.take (o * te.size)++cellsOf E r g++L.drop (o * te.size+(cellsOf E r g).length)).toArray[j]? = (L.take (o * te.size)++(cellsOf E r g++L.drop (o * te.size+(cellsOf E r g).length)))[j]?:=by simp
          have h7:o * te.size+r * te.size≤L.length:=hfit
          rw [h6]
          by_cases h1:j<o * te.size
          ·rw [List.getElem?_append_left (by rw [List.length_take];omega),List.getElem?_take,if_pos h1,if_neg (by omega)]
          ·rw [List.getElem?_append_right (by rw [List.length_take];omega),List.length_take,Nat.min_eq_left (by omega)]
           by_cases h2:j<o * te.size+r * te.size
           ·rw [List.getElem?_append_left (by omega),if_pos ⟨by omega,h2⟩]
           ·rw [List.getElem?_append_right (by omega),if_neg (by omega),List.getElem?_drop]
            congr 1
            omega
         have hgl:∀ e,e<r→(g e).length=te.size:=fun e he=>(rd E hs).lens e (by omega)
         unfold cpyAt
         split
         ·next hin =>
          refine ⟨hgl _ (by omega),fun j u hu=>?_⟩
          have hj:j<te.size:=by rw [← hgl (e1 - o) (by omega)];exact (List.getElem?_eq_some_iff.1 hu).1
          have hmul:o * te.size≤e1 * te.size:=Nat.mul_le_mul_right _ (by omega)
          have hmul2:(e1+1) * te.size≤(o+r) * te.size:=Nat.mul_le_mul_right _ (by omega)
          rw [Nat.add_mul,Nat.one_mul,Nat.add_mul] at hmul2
          rw [get,if_pos ⟨by omega,by omega⟩,show e1 * te.size+j - o * te.size=(e1 - o) * te.size+j by rw [Nat.sub_mul];omega,cellsOf_get hgl (e1 - o) j (by omega) hj,hu]
          exact ⟨rfl,(rd E hs).one _ (by omega) j u hu⟩
         ·next hout =>
          refine ⟨(hcells e1 he1).1,fun j u hu=>?_⟩
          have hj:j<te.size:=by rw [← (hcells e1 he1).1];exact (List.getElem?_eq_some_iff.1 hu).1
          rw [get,if_neg]
          ·exact (hcells e1 he1).2 j u hu
          ·rintro ⟨h1,h2⟩
           rcases Nat.lt_or_ge e1 o with h3 | h3
           ·have:(e1+1) * te.size≤o * te.size:=Nat.mul_le_mul_right _ h3
            rw [Nat.add_mul,Nat.one_mul] at this
            omega
           ·have:(o+r) * te.size≤e1 * te.size:=Nat.mul_le_mul_right _ (by omega)
            rw [Nat.add_mul] at this
            omega
     obtain ⟨w2,h2,_⟩:=hrun E hs
     exact det_after E hs.one ⟨_,_,Or.inl (run_val h2)⟩ fun E2 hs2 _=>let ⟨w3,h3,h4⟩:=hrun E2 hs2;⟨w3,Or.inl (by rw [run_val h3,den_c,den_v]),h4⟩
    ·exact h.elim
   ·exact h.elim
  ·exact h.elim
 ·exact h.elim
def Bnd (v:Option Value) (d r:Int):Prop:=(v=none∧r=d)∨∃ k,v=some (.int k r)
theorem run_slice {t e:Nat} {i:TypeInfo} (hut:P.underlying t=some (.slice e)) (hi:P.info? e=some i) (base:Option Addr) (n cap:Nat) {lo hi' mx:Option Value} {l h m:Int}
  (hlo:Bnd lo 0 l) (hhi:Bnd hi' n h) (hmx:Bnd mx cap m) (himp:mx=none∨hi'≠none) (h0:0≤l) (h1:l≤h) (h2:h≤m) (h3:m≤cap) :
  (Instr.sliceAt t (.slice base n cap) lo hi' mx).run P w = .ok (.slice (if m.toNat=l.toNat then base else base.map (·.add (l.toNat * i.size))) (h.toNat - l.toNat) (m.toNat - l.toNat)) w:=by
 have b:∀ (k:IntKind) (x:Int) (y:Nat) (code:BoundsCode),0≤x→x≤y→(Instr.sliceBound (.int k x) y code).run P w = .ok x.toNat w:=by
  intro k x y code g0 g1
  simp [Instr.sliceBound,asIntOf,g0,g1]
 have hb:(Instr.sliceBounds true n cap lo hi' mx).run P w = .ok (l.toNat,h.toNat,m.toNat) w:=by
  unfold Instr.sliceBounds
  rcases hmx with ⟨rfl,rfl⟩ | ⟨k3,rfl⟩
  ·rcases hhi with ⟨rfl,rfl⟩ | ⟨k2,rfl⟩
   ·rcases hlo with ⟨rfl,rfl⟩ | ⟨k1,rfl⟩
    ·simp
    ·have:=b k1 l n .sliceB h0 h1
     simp [this]
   ·have e2:=b k2 h cap .sliceAcap (by omega) (by omega)
    rcases hlo with ⟨rfl,rfl⟩ | ⟨k1,rfl⟩
    ·simp [e2]
    ·have:=b k1 l h.toNat .sliceB h0 (by omega)
     simp [e2,this]
  ·have e3:=b k3 m cap .slice3Acap (by omega) (by omega)
   rcases hhi with ⟨rfl,rfl⟩ | ⟨k2,rfl⟩
   ·rcases himp with h | h
    ·cases h
    ·exact absurd rfl h
   ·have e2:=b k2 h m.toNat .slice3B (by omega) (by omega)
    rcases hlo with ⟨rfl,rfl⟩ | ⟨k1,rfl⟩
    ·simp [e3,e2]
    ·have:=b k1 l h.toNat .slice3C h0 (by omega)
     simp [e3,e2,this]
 simp only [Instr.sliceAt,Sem.run_bind,run_underlying hut,Result.andThen_ok,Instr.slice,hb,run_sizeOf hi,Sem.run_pure]
theorem slB_bnd (hs:Sat B W w0 E S a w) {lo hi' : Option Operand} {ilo ihi:Option IX} (h1:opdO lo=some ilo) (h2:opdO hi' = some ihi) {n:Nat} {l h:Int} (h3:slB S ilo ihi n=some (l,h)) :
  Bnd (lo.map a.eval) 0 l∧Bnd (hi'.map a.eval) n h:=by
 unfold slB at h3
 have key:∀ {o:Option Operand} {io:Option IX} {d r:Int},opdO o=some io→(match io with | none=>some d | some x=>(S.ev x).bind SV.int?)=some r→Bnd (o.map a.eval) d r:=by
  intro o io d r g1 g2
  cases o with
  | none =>
   simp only [opdO,Option.some.injEq] at g1
   subst g1
   simp only [Option.some.injEq] at g2
   exact Or.inl ⟨rfl,g2.symm⟩
  | some x =>
   simp only [opdO,Option.map_eq_some_iff] at g1
   obtain ⟨ix,hix,rfl⟩:=g1
   simp only [Option.bind_eq_some_iff] at g2
   obtain ⟨v,hv,g2⟩:=g2
   unfold SV.int? at g2
   split at g2
   ·cases g2
    exact Or.inr ⟨_,by rw [Option.map_some,opd_den hs hix hv,den_c,den_v]⟩
   ·cases g2
 split at h3
 ·next l' h' e1 e2 =>
  simp only [Option.some.injEq,Prod.mk.injEq] at h3
  obtain ⟨rfl,rfl⟩:=h3
  exact ⟨key h1 e1,key h2 e2⟩
 ·cases h3
theorem slM_bnd (hs:Sat B W w0 E S a w) {mx:Option Operand} {imx:Option IX} (h1:opdO mx=some imx) {m:Option Int} (h3:slM S imx=some m) :
  (m=none∧mx=none)∨∃ r k,m=some r∧mx.map a.eval=some (.int k r):=by
 cases mx with
 | none =>
  simp only [opdO,Option.some.injEq] at h1
  subst h1
  simp only [slM,Option.some.injEq] at h3
  exact Or.inl ⟨h3.symm,rfl⟩
 | some x =>
  simp only [opdO,Option.map_eq_some_iff] at h1
  obtain ⟨ix,hix,rfl⟩:=h1
  simp only [slM] at h3
  split at h3
  ·next m' hm =>
   simp only [Option.some.injEq] at h3
   subst h3
   simp only [Option.bind_eq_some_iff] at hm
   obtain ⟨v,hv,g2⟩:=hm
   unfold SV.int? at g2
   split at g2
   ·cases g2
    exact Or.inr ⟨_,_,rfl,by rw [Option.map_some,opd_den hs hix hv,den_c,den_v]⟩
   ·cases g2
  ·cases h3
theorem slice_base {ba:Option Addr} {m l s:Nat} (h:l<m∨l=0):(if m=l then ba else ba.map (·.add (l * s)))=ba.map (·.add (l * s)):=by
 split
 ·next e =>
  have:l=0:=by omega
  subst this
  cases ba <;> simp [Addr.add]
 ·rfl
theorem den_xs {y:Nm} {ba:Option Addr} {N cap:Nat} (h:E.χ y = .slice ba N cap) (s o n:Nat) (c:Option Nat):(SC.xs y s o n c).den E = .slice (ba.map (·.add (o * s))) n (c.getD (cap - o)):=by
 simp only [SC.den,h]
 cases ba <;> rfl
theorem add_add (b:Addr) (x y:Nat):(b.add x).add y=b.add (x+y):=by
 unfold Addr.add
 by_cases hx:x=0
 ·subst hx;simp
 ·by_cases hy:y=0
  ·subst hy;simp
  ·simp only [hx,hy,if_false]
   rw [if_neg (by omega)]
   simp [Nat.add_assoc]
theorem slc_ok {t e:Nat} {x:Operand} {lo hi' mx:Option Operand} {ix:IX} {ilo ihi imx:Option IX} {ti te:TI} (hT:TOk P T) (ht:look T t=some ti) (htd:ti.desc = .slice e) (he:look T e=some te)
  (hx1:opd x=some ix) (hlo:opdO lo=some ilo) (hhi:opdO hi' = some ihi) (hmx:opdO mx=some imx) (himp:(ihi.isNone && imx.isSome)=false) {vc:Prop} {out:Out} (h:(stepOut (.slc te.size ix ilo ihi imx) S).Sel vc out) (hvc:vc) :
  (∃ val,out=pureO val∧∀ E,Sat B W w0 E S a w→(Instr.sliceAt t (a.eval x) (lo.map a.eval) (hi'.map a.eval) (mx.map a.eval)).run P w = .ok (val.den E) w) ∨
  (out=endO S te.size∧∀ E,Sat B W w0 E S a w→∃ ba cap,(Instr.sliceAt t (a.eval x) (lo.map a.eval) (hi'.map a.eval) (mx.map a.eval)).run P w = .ok (.slice ba 0 cap) w∧cap≤maxLen):=by
 obtain ⟨hut,_⟩:=ti_parts hT ht
 obtain ⟨_,i,hi,hz,hsz,hby⟩:=ti_parts hT he
 rw [htd] at hut
 have himp' : mx=none∨hi'≠none:=by
  cases mx with
  | none=>exact Or.inl rfl
  | some y =>
   right
   rintro rfl
   simp only [opdO,Option.some.injEq,Option.map_eq_some_iff] at hhi hmx
   obtain ⟨_,_,rfl⟩:=hmx
   subst hhi
   simp at himp
 have himp2:mx.map a.eval=none∨hi'.map a.eval≠none:=by
  rcases himp' with h | h
  ·left;rw [h];rfl
  ·right;cases hi' with
   | none=>exact absurd rfl h
   | some _=>simp
 have bmx:∀ (E:Env) (hs:Sat B W w0 E S a w) (m:Option Int) (cap:Nat),slM S imx=some m→Bnd (mx.map a.eval) cap (m.getD cap):=by
  intro E hs m cap hm
  rcases slM_bnd hs hmx hm with ⟨rfl,rfl⟩ | ⟨r,k,rfl,h2⟩
  ·exact Or.inl ⟨rfl,rfl⟩
  ·exact Or.inr ⟨k,h2⟩
 simp only [stepOut] at h
 split at h
 ·next m hm =>
  split at h
  ·next y s o n c hev =>
   split at h
   ·next l h' p k s' f ty hb hlook =>
    have val:∀ E,Sat B W w0 E S a w→p→∃ cap,a.eval x = .slice (if E.ν y=true then none else some ⟨E.ρ y,o * s,none⟩) n cap∧cap=c.getD (E.κ y - o)∧k≤E.κ y∧(E.ν y=true→k=0):=by
     intro E hs hp
     obtain ⟨H,hH,_⟩:=hs.mem
     refine ⟨_,by rw [opd_den hs hx1 hev,den_c,den_sl],rfl,?_⟩
     rcases ar_heap hH (pkN_at hlook hp) with ⟨_,h2,h3,_⟩ | ⟨h2,h3,_⟩
     ·exact ⟨by omega,fun _=>h3⟩
     ·exact ⟨h3.1,fun h=>by rw [h2] at h;cases h⟩
    split at h
    ·rcases h with ⟨hl0,rfl,rfl⟩ | ⟨hl0,rfl,rfl⟩
     ·obtain ⟨hp,rfl,hs',hon,hq⟩:=hvc
      obtain ⟨rfl,rfl,hl0⟩:=hl0
      refine Or.inr ⟨rfl,fun E hs=>?_⟩
      obtain ⟨cap,e1,e2,hk,hν⟩:=val E hs hp
      obtain ⟨b1,b2⟩:=slB_bnd hs hlo hhi hb
      have hκ:E.κ y≤maxLen:=by
       obtain ⟨H,hH,_⟩:=hs.mem
       rcases ar_heap hH (pkN_at hlook hp) with ⟨_,h2,_,_⟩ | ⟨_,_,h4,_⟩
       ·rw [h2];simp [maxLen]
       ·exact h4
      have hcap:(n:Int)≤cap∧cap≤maxLen:=by
       rw [e2]
       cases c with
       | none=>simp only [Option.getD_none];omega
       | some q=>simp only [Option.getD_some];have:=hq q rfl;omega
      have:=run_slice (P:=P) (w:=w) hut hi (if E.ν y=true then none else some ⟨E.ρ y,o * te.size,none⟩) n cap b1 b2 (bmx E hs none cap hm) himp2 (by omega) (Int.le_refl _) hcap.1 (Int.le_refl _)
      rw [e1,this,Nat.sub_self]
      refine ⟨_,_,rfl,?_⟩
      simp only [Option.getD_none,Int.toNat_natCast]
      omega
     ·obtain ⟨hp,rfl,hs',h0,hlh,hok,hq,hln,hon⟩:=hvc
      refine Or.inl ⟨_,rfl,fun E hs=>?_⟩
      obtain ⟨cap,e1,e2,hk,hν⟩:=val E hs hp
      obtain ⟨b1,b2⟩:=slB_bnd hs hlo hhi hb
      rcases hln with hln | rfl
      ·rcases Int.lt_or_eq_of_le h0 with hpos | hz
       ·have hcap:h'≤cap∧(n:Int)≤cap:=by
         rw [e2]
         cases c with
         | none=>simp only [Option.getD_none];have:=hon hpos;omega
         | some q=>simp only [Option.getD_some];have:=hq q rfl;have:=this.2 hpos;omega
        have hνf:E.ν y=false:=by
         cases h:E.ν y with
         | false=>rfl
         | true=>have:=hν h;have:=hon hpos;omega
        have:=run_slice (P:=P) (w:=w) hut hi (if E.ν y=true then none else some ⟨E.ρ y,o * te.size,none⟩) n cap b1 b2 (bmx E hs none cap hm) himp2 (by omega) hlh hcap.1 (Int.le_refl _)
        rw [e1,this,den_c,den_sl,hνf,hsz]
        simp only [Option.getD_none,Int.toNat_natCast,Bool.false_eq_true,if_false,Option.map_some]
        rw [if_neg (by omega),addr_add0,Nat.add_mul]
        congr 2
        rw [e2]
        cases c with
        | none=>simp only [Option.map_none,Option.getD_none];omega
        | some q=>simp only [Option.map_some,Option.getD_some]
       ·subst hz
        have hcap:h'≤cap:=by
         rw [e2]
         cases c with
         | none=>simp only [Option.getD_none];omega
         | some q=>simp only [Option.getD_some];exact (hq q rfl).1
        have:=run_slice (P:=P) (w:=w) hut hi (if E.ν y=true then none else some ⟨E.ρ y,o * te.size,none⟩) n cap b1 b2 (bmx E hs none cap hm) himp2 (by omega) (by omega) hcap (Int.le_refl _)
        rw [e1,this,den_c,den_sl,e2]
        cases c <;> cases E.ν y <;> simp [Addr.add]
      ·have hcap:h'≤cap:=by
        rw [e2]
        cases c with
        | none=>simp only [Option.getD_none];omega
        | some q=>simp only [Option.getD_some];exact (hq q rfl).1
       have:=run_slice (P:=P) (w:=w) hut hi (if E.ν y=true then none else some ⟨E.ρ y,o * te.size,none⟩) n cap b1 b2 (bmx E hs none cap hm) himp2 (by omega) (by omega) hcap (Int.le_refl _)
       rw [e1,this,den_c,den_sl,e2]
       cases c <;> cases E.ν y <;> simp [Addr.add]
    ·next m =>
     obtain ⟨rfl,rfl⟩:=h
     obtain ⟨hp,rfl,hs',h0,hlh,hhm,hok,hq,hlm⟩:=hvc
     refine Or.inl ⟨_,rfl,fun E hs=>?_⟩
     obtain ⟨cap,e1,e2,hk,hν⟩:=val E hs hp
     obtain ⟨b1,b2⟩:=slB_bnd hs hlo hhi hb
     have hcap:m≤cap:=by
      rw [e2]
      cases c with
      | none=>simp only [Option.getD_none];omega
      | some q=>simp only [Option.getD_some];exact hq q rfl
     have:=run_slice (P:=P) (w:=w) hut hi (if E.ν y=true then none else some ⟨E.ρ y,o * te.size,none⟩) n cap b1 b2 (bmx E hs (some m) cap hm) himp2 h0 hlh hhm hcap
     rw [e1,this,den_c,den_sl,hsz]
     simp only [Option.getD_some]
     rcases hlm with hlm | rfl
     ·rw [if_neg (by omega)]
      cases hν2:E.ν y with
      | true=>simp
      | false=>simp [addr_add0,Nat.add_mul]
     ·simp
      intro _
      cases E.ν y <;> simp [Addr.add]
   ·exact h.elim
  ·next y hev =>
   split at h
   ·next p A hlook =>
    split at h
    ·next l h' hb =>
     have val:∀ E,Sat B W w0 E S a w→p→∃ ba cap,a.eval x = .slice ba A.len cap∧E.χ y = .slice ba A.len cap∧A.len≤cap∧cap≤maxLen:=by
      intro E hs hp
      obtain ⟨ba,cap,hχ,hl,hm,hcell⟩:=hs.arr (pkN_at hlook hp)
      exact ⟨ba,cap,by rw [opd_den hs hx1 hev,den_c,den_xv,hχ],hχ,hl,hm⟩
     have one:∀ {vc:Prop} {out:Out},vc=(p∧A.size=te.size∧0≤l∧l≤h'∧h'≤A.len∧(l<A.len∨l=0))→out=pureO (.c (.xs y te.size l.toNat (h'.toNat - l.toNat) none))→vc→m=none →
       (∃ val,out=pureO val∧∀ E,Sat B W w0 E S a w→(Instr.sliceAt t (a.eval x) (lo.map a.eval) (hi'.map a.eval) (mx.map a.eval)).run P w = .ok (val.den E) w):=by
      rintro _ _ rfl rfl hvc rfl
      obtain ⟨hp,hAs,h0,hlh,hhA,hlA⟩:=hvc
      refine ⟨_,rfl,fun E hs=>?_⟩
      obtain ⟨ba,cap,e1,e2,hle,_⟩:=val E hs hp
      obtain ⟨b1,b2⟩:=slB_bnd hs hlo hhi hb
      have:=run_slice (P:=P) (w:=w) hut hi ba A.len cap b1 b2 (bmx E hs none cap hm) himp2 h0 hlh (by simp only [Option.getD_none];omega) (Int.le_refl _)
      rw [e1,this,den_c,den_xs e2,hsz]
      simp only [Option.getD_none,Int.toNat_natCast]
      rw [slice_base (by omega)]
     split at h
     ·split at h
      ·rcases h with ⟨hl0,rfl,rfl⟩ | ⟨hl0,rfl,rfl⟩
       ·obtain ⟨hp,hAs⟩:=hvc
        obtain ⟨rfl,rfl⟩:=hl0
        refine Or.inr ⟨rfl,fun E hs=>?_⟩
        obtain ⟨ba,cap,e1,e2,hle,hmx'⟩:=val E hs hp
        obtain ⟨b1,b2⟩:=slB_bnd hs hlo hhi hb
        have:=run_slice (P:=P) (w:=w) hut hi ba A.len cap b1 b2 (bmx E hs none cap hm) himp2 (by omega) (Int.le_refl _) (by simp only [Option.getD_none];omega) (Int.le_refl _)
        rw [e1,this,Nat.sub_self]
        refine ⟨_,_,rfl,?_⟩
        simp only [Option.getD_none,Int.toNat_natCast]
        omega
       ·exact Or.inl (one rfl rfl hvc rfl)
      ·obtain ⟨rfl,rfl⟩:=h
       exact Or.inl (one rfl rfl hvc rfl)
     ·obtain ⟨rfl,rfl⟩:=h
      obtain ⟨hp,hAs,h0,hlh,hhm,hmA,hlA⟩:=hvc
      refine Or.inl ⟨_,rfl,fun E hs=>?_⟩
      obtain ⟨ba,cap,e1,e2,hle,_⟩:=val E hs hp
      obtain ⟨b1,b2⟩:=slB_bnd hs hlo hhi hb
      have:=run_slice (P:=P) (w:=w) hut hi ba A.len cap b1 b2 (bmx E hs (some _) cap hm) himp2 h0 hlh hhm (by simp only [Option.getD_some];omega)
      rw [e1,this,den_c,den_xs e2,hsz]
      simp only [Option.getD_some]
      rw [slice_base (by omega)]
    ·exact h.elim
   ·exact h.elim
  ·next y s o n c hev =>
   split at h
   ·next p A hlook =>
    split at h
    ·next l h' hb =>
     have val:∀ E,Sat B W w0 E S a w→p→∃ ba cap,a.eval x = .slice (ba.map (·.add (o * s))) n (c.getD (cap - o))∧E.χ y = .slice ba A.len cap∧A.len≤cap:=by
      intro E hs hp
      obtain ⟨ba,cap,hχ,hl,hm,hcell⟩:=hs.arr (pkN_at hlook hp)
      exact ⟨ba,cap,by rw [opd_den hs hx1 hev,den_c,den_xs hχ],hχ,hl⟩
     have fin:∀ (ba:Option Addr) (l:Nat),(ba.map (·.add (o * te.size))).map (·.add (l * te.size))=ba.map (·.add ((o+l) * te.size)):=by
      intro ba l
      cases ba <;> simp [add_add,Nat.add_mul]
     split at h
     ·obtain ⟨rfl,rfl⟩:=h
      obtain ⟨hp,hAs,rfl,h0,hlh,hon,hq,hln⟩:=hvc
      refine Or.inl ⟨_,rfl,fun E hs=>?_⟩
      obtain ⟨ba,cap,e1,e2,hle⟩:=val E hs hp
      obtain ⟨b1,b2⟩:=slB_bnd hs hlo hhi hb
      have hcap:h'≤(c.getD (cap - o):Nat):=by
       cases c with
       | none=>simp only [Option.getD_none];omega
       | some q=>simp only [Option.getD_some];exact hq q rfl
      have:=run_slice (P:=P) (w:=w) hut hi (ba.map (·.add (o * te.size))) n (c.getD (cap - o)) b1 b2 (bmx E hs none _ hm) himp2 h0 hlh (by simp only [Option.getD_none];omega) (Int.le_refl _)
      rw [e1,this,den_c,den_xs e2,hsz]
      simp only [Option.getD_none,Int.toNat_natCast]
      rw [slice_base (by omega),fin]
      congr 2
      cases c with
      | none=>simp only [Option.map_none,Option.getD_none];omega
      | some q=>simp only [Option.map_some,Option.getD_some]
     ·obtain ⟨rfl,rfl⟩:=h
      obtain ⟨hp,hAs,rfl,h0,hlh,hhm,hmn,hon,hq,hln⟩:=hvc
      refine Or.inl ⟨_,rfl,fun E hs=>?_⟩
      obtain ⟨ba,cap,e1,e2,hle⟩:=val E hs hp
      obtain ⟨b1,b2⟩:=slB_bnd hs hlo hhi hb
      have hcap:n≤c.getD (cap - o):=by
       cases c with
       | none=>simp only [Option.getD_none];omega
       | some q=>simp only [Option.getD_some];exact hq q rfl
      have:=run_slice (P:=P) (w:=w) hut hi (ba.map (·.add (o * te.size))) n (c.getD (cap - o)) b1 b2 (bmx E hs (some _) _ hm) himp2 h0 hlh hhm (by simp only [Option.getD_some];omega)
      rw [e1,this,den_c,den_xs e2,hsz]
      simp only [Option.getD_some]
      rw [slice_base (by omega),fin]
    ·exact h.elim
   ·exact h.elim
  ·exact h.elim
 ·exact h.elim
end
end Go.Proofs.Ytgljbdcamagdbaa.Z
