/- DequeSwapsSaid: what its proof is made of. No condition. -/
import Derived.Test.YtcloeignccpljaaPkIDequeSwapsAC
set_option linter.unusedSimpArgs false
set_option linter.unusedVariables false
namespace Go.Proofs.Ytcloeignccpljaa.Z
open Go Go.RowKit
section
variable {P:Program} {T:TT} {B:Nat} {W:Nat→Prop} {w0:World} {E:Env} {S:St} {a:Act} {w:World}
theorem foldl_set (off:Nat):∀ (vs:List Value) (i:Nat) (cs:List Value),off+i+vs.length≤cs.length →
  (vs.zipIdx i).foldl (fun (cs:Array Value) (p:Value×Nat)=>cs.setIfInBounds (off+p.2) p.1) cs.toArray=(cs.take (off+i)++vs++cs.drop (off+i+vs.length)).toArray
 | [],i,cs,_=>by simp
 | v :: r,i,cs,h=>by
  simp only [List.length_cons] at h
  have hset:cs.toArray.setIfInBounds (off+i) v=(cs.set (off+i) v).toArray:=by simp
  rw [List.zipIdx_cons,List.foldl_cons,hset,foldl_set off r (i+1) (cs.set (off+i) v) (by rw [List.length_set];omega)]
  congr 1
  apply List.ext_getElem?
  intro j
  simp only [List.append_assoc,List.getElem?_append,List.length_take,List.length_set,List.getElem?_take,List.getElem?_drop,List.length_cons,List.getElem?_set,List.getElem?_cons]
  rw [show min (off+(i+1)) cs.length=off+i+1 by omega,show min (off+i) cs.length=off+i by omega]
  by_cases h1:j<off+i
  ·rw [if_pos (show j<off+i+1 by omega),if_pos (show j<off+(i+1) by omega),if_neg (by omega),if_pos h1,if_pos h1]
  ·by_cases h2:j=off+i
   ·subst h2
    rw [if_pos (by omega),if_pos (by omega),if_pos rfl,if_pos (by omega),if_neg (by omega),if_pos (by omega),if_pos (by omega)]
   ·rw [if_neg (show ¬ j<off+i+1 by omega),if_neg h1]
    by_cases h3:j - (off+i+1)<r.length
    ·rw [if_pos h3,if_pos (show j - (off+i)<r.length+1 by omega),if_neg (by omega),show j - (off+i) - 1=j - (off+i+1) by omega]
    ·rw [if_neg h3,if_neg (show ¬ j - (off+i)<r.length+1 by omega),if_neg (by omega)]
     congr 1
     omega
theorem fill_ok {place:Nat→Option (Nat×Nat)} (hx:OneC E) :
  ∀ (ps:List (Nat×Nat×IX)) (qs:List (Nat×Operand)) (z cs:List SC),(∀ (i:Nat) (p:Nat×Nat×IX),ps[i]? = some p→∃ q:Nat×Operand,qs[i]? = some q∧place q.1=some (p.1,p.2.1)∧∀ v,S.ev p.2.2=some v→a.eval q.2=v.den E)→qs.length=ps.length →
  fillP S ps z=some cs→Instr.fill place (z.map (SC.den E)).toArray (qs.map fun q=>(q.1,a.eval q.2))=some (cs.map (SC.den E)).toArray
 | [],qs,z,cs,_,hl,h=>by
  have:qs=[]:=List.eq_nil_of_length_eq_zero hl
  subst this
  simp only [fillP,Option.some.injEq] at h
  subst h
  rfl
 | (off,size,x) :: r,[],z,cs,_,hl,h=>by simp at hl
 | (off,size,x) :: r,(i,y) :: qs,z,cs,hp,hl,h=>by
  obtain ⟨q,hq,hpl,hev⟩:=hp 0 (off,size,x) rfl
  simp only [List.getElem?_cons_zero,Option.some.injEq] at hq
  subst hq
  simp only [fillP] at h
  split at h
  ·next v hv =>
   split at h
   ·next ws hws =>
    split at h
    ·next hfit =>
     obtain ⟨h1,h2⟩:=hfit
     rw [len'_eq] at h1 h2
     have e:=hev v hv
     obtain ⟨hcd,_⟩:=cells_den hws hx
     simp only [List.map_cons,Instr.fill]
     simp only at hpl e
     rw [hpl]
     simp only [e,hcd,List.size_toArray,List.length_map,h1,ne_eq,not_true_eq_false,Bool.or_eq_true,decide_eq_true_eq]
     rw [if_neg (by simp;omega)]
     have hf:=foldl_set off (ws.map (SC.den E)) 0 (z.map (SC.den E)) (by simp;omega)
     have hz:((ws.map (SC.den E)).toArray.zipIdx).foldl (fun (cs:Array Value) (p:Value×Nat)=>cs.setIfInBounds (off+p.2) p.1) (z.map (SC.den E)).toArray=((put z off ws).map (SC.den E)).toArray:=by
      rw [← Array.foldl_toList]
      simp only [Array.toList_zipIdx]
      rw [hf,put_eq]
      simp
     rw [hz]
     exact fill_ok hx r qs _ _ (fun i p hi=>hp (i+1) p hi) (by simpa using hl) h
    ·cases h
   ·cases h
  ·cases h
theorem structParts_spec {fs:Array Field}:∀ (qs:List (Nat×Operand)) (ps:List (Nat×Nat×IX)),structParts T fs qs=some ps →
  qs.length=ps.length∧∀ (i:Nat) (p:Nat×Nat×IX),ps[i]? = some p→∃ (q:Nat×Operand) (f:Field) (ti:TI),qs[i]? = some q∧fs[q.1]? = some f∧look T f.type=some ti∧p.1=f.offset∧p.2.1=ti.size∧opd q.2=some p.2.2
 | [],ps,h=>by
  simp only [structParts,Option.some.injEq] at h
  subst h
  exact ⟨rfl,fun i p hp=>by simp at hp⟩
 | (i,x) :: r,ps,h=>by
  simp only [structParts,Option.bind_eq_some_iff,Option.map_eq_some_iff] at h
  obtain ⟨f,hf,ti,hti,a,ha,qs',hr,rfl⟩:=h
  obtain ⟨hl,hs⟩:=structParts_spec r qs' hr
  refine ⟨by simp [hl],fun j p hp=>?_⟩
  cases j with
  | zero =>
   simp only [List.getElem?_cons_zero,Option.some.injEq] at hp
   subst hp
   exact ⟨(i,x),f,ti,rfl,hf,hti,rfl,rfl,ha⟩
  | succ j=>exact hs j p hp
theorem rowParts_spec {size:Nat}:∀ (qs:List (Nat×Operand)) (ps:List (Nat×Nat×IX)),rowParts size qs=some ps →
  qs.length=ps.length∧∀ (i:Nat) (p:Nat×Nat×IX),ps[i]? = some p→∃ q:Nat×Operand,qs[i]? = some q∧p.1=q.1 * size∧p.2.1=size∧opd q.2=some p.2.2
 | [],ps,h=>by
  simp only [rowParts,Option.some.injEq] at h
  subst h
  exact ⟨rfl,fun i p hp=>by simp at hp⟩
 | (i,x) :: r,ps,h=>by
  simp only [rowParts,Option.bind_eq_some_iff,Option.map_eq_some_iff] at h
  obtain ⟨a,ha,qs',hr,rfl⟩:=h
  obtain ⟨hl,hs⟩:=rowParts_spec r qs' hr
  refine ⟨by simp [hl],fun j p hp=>?_⟩
  cases j with
  | zero =>
   simp only [List.getElem?_cons_zero,Option.some.injEq] at hp
   subst hp
   exact ⟨(i,x),rfl,rfl,rfl,ha⟩
  | succ j=>exact hs j p hp
theorem allIn_mem:∀ {fs:List Field},allIn T fs=true→∀ f∈fs,∃ ti,look T f.type=some ti
 | [],_,f,h=>by cases h
 | g :: r,h,f,hf=>by
  simp only [allIn,Bool.and_eq_true,Option.isSome_iff_exists] at h
  rcases List.mem_cons.1 hf with rfl | hf
  ·exact h.1
  ·exact allIn_mem h.2 f hf
theorem places_get {fs:List Field} {places:List (Nat×Nat)} (h:fs.mapM (fun f=>(P.info? f.type).map fun i=>(f.offset,i.size))=some places) :
  ∀ (i:Nat) (f:Field),fs[i]? = some f→∃ t,P.info? f.type=some t∧places[i]? = some (f.offset,t.size):=by
 induction fs generalizing places with
 | nil=>intro i f hf;simp at hf
 | cons g r ih =>
  simp only [List.mapM_cons,Option.bind_eq_bind,Option.pure_def,Option.bind_eq_some_iff,Option.map_eq_some_iff,Option.some.injEq] at h
  obtain ⟨_,⟨t,ht,rfl⟩,ps,hps,rfl⟩:=h
  intro i f hf
  cases i with
  | zero =>
   simp only [List.getElem?_cons_zero,Option.some.injEq] at hf
   subst hf
   exact ⟨t,ht,rfl⟩
  | succ i=>exact ih hps i f hf
theorem places_all {fs:List Field} (h:∀ f∈fs,∃ t,P.info? f.type=some t):∃ places,fs.mapM (fun f=>(P.info? f.type).map fun i=>(f.offset,i.size))=some places:=by
 induction fs with
 | nil=>exact ⟨[],rfl⟩
 | cons g r ih =>
  obtain ⟨t,ht⟩:=h g (by simp)
  obtain ⟨ps,hps⟩:=ih (fun f hf=>h f (by simp [hf]))
  exact ⟨(g.offset,t.size) :: ps,by simp [List.mapM_cons,ht,hps]⟩
theorem run_binI {op:BinOp} {k:IntKind} {x y:Int} {t:Nat} {vc:Prop} {out:Out} (h:(binI op k x y).Sel vc out) (hvc:vc) :
  ∃ val,out=pureO val∧∀ E:Env,(binOp op t (.int k x) (.int k y)).run P w = .ok (val.den E) w:=by
 cases op <;> simp only [binI,pure1,Res.Sel] at h <;> (try exact h.elim) <;> obtain ⟨rfl,rfl⟩:=h <;> refine ⟨_,rfl,fun E=>?_⟩ <;>
  first
  | (simp [binOp,Op.intArith,Op.intBits,Op.intCmp,SV.den,SC.den];done)
  | (simp [binOp,Op.intDiv,hvc,SV.den,SC.den];done)
  | (simp only [binOp,ne_eq,not_true_eq_false,if_false,intBits_and,intBits_or,intBits_xor,intBits_andNot,den_c,den_v];rfl)
theorem run_eqGuard_int {op:BinOp} {k:IntKind} {x:Int} {t:Nat} {p q:Operand} {v:Value}:(eqGuard op t p q (.int k x) v).run P w = .ok () w:=by
 rw [eqGuard_at_int];rfl
theorem eqCells_true {ks:List Bool} {a0 b0:SC} {us vs:List SC} {r:Bool} (h:eqCells (true :: ks) (a0 :: us) (b0 :: vs)=some r) :
  ∃ k a b r',a0 = .v (.int k a)∧b0 = .v (.int k b)∧eqCells ks us vs=some r'∧r=((a == b) && r'):=by
 cases a0 with
 | v x=>cases x with
  | int k a=>cases b0 with
   | v y=>cases y with
    | int k' b =>
     simp only [eqCells] at h
     split at h
     ·next hk =>
      subst hk
      simp only [Option.map_eq_some_iff] at h
      obtain ⟨r',hr',rfl⟩:=h
      exact ⟨k,a,b,r',rfl,rfl,hr',rfl⟩
     ·cases h
    | _=>simp [eqCells] at h
   | _=>simp [eqCells] at h
  | _=>simp [eqCells] at h
 | _=>simp [eqCells] at h
theorem eqCells_false {ks:List Bool} {a0 b0:SC} {us vs:List SC} {r:Bool} (h:eqCells (false :: ks) (a0 :: us) (b0 :: vs)=some r) :
  ∃ a b r',a0.bool? = some a∧b0.bool? = some b∧eqCells ks us vs=some r'∧r=((a == b) && r'):=by
 simp only [eqCells] at h
 split at h
 ·next a b ha hb =>
  simp only [Option.map_eq_some_iff] at h
  obtain ⟨r',hr',rfl⟩:=h
  exact ⟨a,b,r',ha,hb,hr',rfl⟩
 ·cases h
theorem eqCells_len:∀ {ks:List Bool} {us vs:List SC} {r:Bool},eqCells ks us vs=some r→us.length=ks.length∧vs.length=ks.length
 | [],us,vs,r,h=>by
  cases us <;> cases vs <;> simp only [eqCells,Option.some.injEq,reduceCtorEq] at h
  exact ⟨rfl,rfl⟩
 | b :: ks,[],vs,r,h=>by cases b <;> simp [eqCells] at h
 | b :: ks,_ :: _,[],r,h=>by cases b <;> simp [eqCells] at h
 | true :: ks,u :: us,v :: vs,r,h=>by
  obtain ⟨_,_,_,r',_,_,h1,_⟩:=eqCells_true h
  have:=eqCells_len h1
  exact ⟨by simp [this.1],by simp [this.2]⟩
 | false :: ks,u :: us,v :: vs,r,h=>by
  obtain ⟨_,_,r',_,_,h1,_⟩:=eqCells_false h
  have:=eqCells_len h1
  exact ⟨by simp [this.1],by simp [this.2]⟩
theorem eqCells_app:∀ {k1 k2:List Bool} {us vs:List SC} {r:Bool},eqCells (k1++k2) us vs=some r →
  ∃ r1 r2,eqCells k1 (us.take k1.length) (vs.take k1.length)=some r1∧eqCells k2 (us.drop k1.length) (vs.drop k1.length)=some r2∧r=(r1 && r2)
 | [],k2,us,vs,r,h=>⟨true,r,by simp [eqCells],by simpa using h,by simp⟩
 | b :: k1,k2,[],vs,r,h=>by cases b <;> simp [eqCells] at h
 | b :: k1,k2,_ :: _,[],r,h=>by cases b <;> simp [eqCells] at h
 | true :: k1,k2,u :: us,v :: vs,r,h=>by
  obtain ⟨k,p,q,r',rfl,rfl,h1,rfl⟩:=eqCells_true h
  obtain ⟨r1,r2,g1,g2,rfl⟩:=eqCells_app h1
  exact ⟨(p == q) && r1,r2,by simp [eqCells,g1],by simpa using g2,by simp [Bool.and_assoc]⟩
 | false :: k1,k2,u :: us,v :: vs,r,h=>by
  obtain ⟨p,q,r',e1,e2,h1,rfl⟩:=eqCells_false h
  obtain ⟨r1,r2,g1,g2,rfl⟩:=eqCells_app h1
  exact ⟨(p == q) && r1,r2,by simp [eqCells,e1,e2,g1],by simpa using g2,by simp [Bool.and_assoc]⟩
def valT (P:Program) (E:Env) (t:TypeId) (us:List SC):Value:=match P.underlying t with
 | some d=>if isAggD d then .agg (us.map (SC.den E)).toArray else ((us.map (SC.den E))[0]?).getD undef
 | none=>undef
theorem run_part {t:TypeId} {d:TypeDesc} {i:TypeInfo} (hu:P.underlying t=some d) (hi:P.info? t=some i) {xs:List SC} {off:Nat} (h0:0<i.size) (hl:off+i.size≤xs.length) :
  (part t (xs.map (SC.den E)).toArray off).run P w = .ok (valT P E t ((xs.drop off).take i.size)) w:=by
 unfold valT
 rw [hu]
 cases hd:isAggD d with
 | true =>
  simp only [part,Sem.run_bind,run_isAgg hu,hd,if_true,run_sizeOf hi,Result.andThen_ok,Sem.run_pure]
  congr 2
  apply Array.ext'
  simp [List.extract_eq_take_drop]
 | false =>
  simp only [part,Sem.run_bind,run_isAgg hu,hd,Result.andThen_ok,Bool.false_eq_true,if_false]
  have h1:xs[off]? = some (xs[off]'(by omega)):=List.getElem?_eq_getElem _
  have h2:((xs.drop off).take i.size)[0]? = xs[off]?:=by
   rw [List.getElem?_take,if_pos h0,List.getElem?_drop]
   rfl
  simp only [List.getElem?_map,h2,h1,List.getElem?_toArray,Option.map_some,Option.getD_some]
  rfl
theorem flat_eq:∀ (d:Nat) (t:TypeId) (ks:List Bool),flatTy P d t=some ks→∀ (m:Nat),d≤m→∀ (us vs:List SC) (r:Bool),eqCells ks us vs=some r→(Op.equalIn m t (valT P E t us) (valT P E t vs)).run P w = .ok r w
 | 0,t,ks,h,_,_,_,_,_,_=>by simp [flatTy] at h
 | d + 1, t,ks,h,m,hm,us,vs,r,he=>by
  obtain ⟨m,rfl⟩:∃ m',m=m' + 1:=⟨m - 1,by omega⟩
  have ih:=fun t' ks' (h' : flatTy P d t' = some ks') us' vs' r' he'=>flat_eq d t' ks' h' m (by omega) us' vs' r' he'
  unfold flatTy at h
  split at h
  ·next k hu =>
   simp only [Option.some.injEq] at h
   subst h
   have hl:=eqCells_len he
   match us,vs,hl with
   | [u],[v],_ =>
    obtain ⟨k',a,b,r',rfl,rfl,h1,rfl⟩:=eqCells_true he
    simp only [eqCells,Option.some.injEq] at h1
    subst h1
    simp only [valT,hu,isAggD,Bool.false_eq_true,if_false,List.map_cons,List.map_nil,List.getElem?_cons_zero,Option.getD_some,den_v]
    rw [run_equalIn_int w m t k' k a b hu]
    simp
  ·next hu =>
   simp only [Option.some.injEq] at h
   subst h
   have hl:=eqCells_len he
   match us,vs,hl with
   | [u],[v],_ =>
    obtain ⟨a,b,r',e1,e2,h1,rfl⟩:=eqCells_false he
    simp only [eqCells,Option.some.injEq] at h1
    subst h1
    simp only [valT,hu,isAggD,Bool.false_eq_true,if_false,List.map_cons,List.map_nil,List.getElem?_cons_zero,Option.getD_some,bool?_den e1 E,bool?_den e2 E]
    rw [run_equalIn_bool' w m t a b hu]
    simp
  ·next fs hu =>
   split at h
   ·cases h
   ·next hst =>
    have hst:P.stoodInHeld t=false:=by simpa using hst
    have hfs:P.fieldsOf t=fs:=by
     unfold Program.fieldsOf
     rw [hu]
    have hval:∀ zs,valT P E t zs = .agg (zs.map (SC.den E)).toArray:=by
     intro zs
     simp [valT,hu,isAggD]
    rw [hval,hval,run_equalIn_struct w m t _ _ (by rw [hfs,hu]) hst,hfs]
    have key:∀ (gs:List Field) (o:Nat) (ks' : List Bool) (r' : Bool),flatFs P (flatTy P d) gs o=some ks'→eqCells ks' (us.drop o) (vs.drop o)=some r' →
      (Op.eqFields m (us.map (SC.den E)).toArray (vs.map (SC.den E)).toArray gs).run P w = .ok r' w:=by
     intro gs
     induction gs with
     | nil =>
      intro o ks' r' h1 h2
      simp only [flatFs,Option.some.injEq] at h1
      subst h1
      have hl:=eqCells_len h2
      have e1:us.drop o=[]:=List.eq_nil_of_length_eq_zero hl.1
      have e2:vs.drop o=[]:=List.eq_nil_of_length_eq_zero hl.2
      rw [e1,e2] at h2
      simp only [eqCells,Option.some.injEq] at h2
      subst h2
      rfl
     | cons f gs ihf =>
      intro o ks' r' h1 h2
      simp only [flatFs] at h1
      split at h1
      ·cases h1
      ·next hn =>
       split at h1
       ·next ho =>
        split at h1
        ·next kf i hkf hi =>
         split at h1
         ·next hsz =>
          simp only [Option.map_eq_some_iff] at h1
          obtain ⟨ks2,h3,rfl⟩:=h1
          obtain ⟨r1,r2,g1,g2,rfl⟩:=eqCells_app h2
          have hl:=eqCells_len h2
          simp only [List.length_append,List.length_drop] at hl
          obtain ⟨hsz,hpos⟩:=hsz
          have huf:∃ df,P.underlying f.type=some df:=by
           cases hd:d with
           | zero=>subst hd;simp [flatTy] at hkf
           | succ d' =>
            subst hd
            cases hu' : P.underlying f.type with
            | none=>simp [flatTy,hu'] at hkf
            | some df=>exact ⟨df,rfl⟩
          obtain ⟨df,huf⟩:=huf
          have p1:=run_part (E:=E) (w:=w) huf hi (xs:=us) (off:=o) hpos (by omega)
          have p2:=run_part (E:=E) (w:=w) huf hi (xs:=vs) (off:=o) hpos (by omega)
          rw [hsz] at p1 p2
          have he1:=ih f.type kf hkf _ _ _ g1
          simp only [Op.eqFields,hn,ne_eq,not_false_eq_true,if_true,Sem.run_bind,ho,p1,p2,Result.andThen_ok,he1]
          rw [List.drop_drop,List.drop_drop] at g2
          cases r1 with
          | true=>simpa using ihf _ _ _ h3 g2
          | false=>simp
         ·cases h1
        ·cases h1
       ·cases h1
    exact key fs.toList 0 ks r h (by simpa using he)
  ·next n e hu =>
   split at h
   ·next ke i hke hi =>
    split at h
    ·next hsz =>
     simp only [Option.some.injEq] at h
     subst h
     have hval:∀ zs,valT P E t zs = .agg (zs.map (SC.den E)).toArray:=by
      intro zs
      simp [valT,hu,isAggD]
     obtain ⟨hsz,hpos⟩:=hsz
     have hce:P.cellsOf e=ke.length:=by
      rw [← hsz]
      simp [Program.cellsOf,hi]
     have hue:∃ df,P.underlying e=some df:=by
      cases hd:d with
      | zero=>subst hd;simp [flatTy] at hke
      | succ d' =>
       subst hd
       cases hu' : P.underlying e with
       | none=>simp [flatTy,hu'] at hke
       | some df=>exact ⟨df,rfl⟩
     obtain ⟨df,hue⟩:=hue
     rw [hval,hval,run_equalIn_array (w:=w) m _ _ hu hi,hce]
     have key:∀ (n k:Nat) (r' : Bool),eqCells (List.replicate n ke).flatten (us.drop (k * ke.length)) (vs.drop (k * ke.length))=some r' →
       (Op.eqItems m e ke.length (us.map (SC.den E)).toArray (vs.map (SC.den E)).toArray (List.range' k n)).run P w = .ok r' w:=by
      intro n
      induction n with
      | zero =>
       intro k r' h2
       simp only [List.replicate_zero,List.flatten_nil] at h2
       have hl:=eqCells_len h2
       have e1:=List.eq_nil_of_length_eq_zero hl.1
       have e2:=List.eq_nil_of_length_eq_zero hl.2
       rw [e1,e2] at h2
       simp only [eqCells,Option.some.injEq] at h2
       subst h2
       rfl
      | succ n ihn =>
       intro k r' h2
       simp only [List.replicate_succ,List.flatten_cons] at h2
       obtain ⟨r1,r2,g1,g2,rfl⟩:=eqCells_app h2
       have hl:=eqCells_len h2
       simp only [List.length_append,List.length_drop] at hl
       have p1:=run_part (E:=E) (w:=w) hue hi (xs:=us) (off:=k * ke.length) hpos (by omega)
       have p2:=run_part (E:=E) (w:=w) hue hi (xs:=vs) (off:=k * ke.length) hpos (by omega)
       rw [hsz] at p1 p2
       have he1:=ih e ke hke _ _ _ g1
       rw [List.range'_succ]
       simp only [Op.eqItems,Sem.run_bind,p1,p2,Result.andThen_ok,he1]
       rw [List.drop_drop,List.drop_drop] at g2
       have e3:k * ke.length+ke.length=(k+1) * ke.length:=by rw [Nat.add_mul,Nat.one_mul]
       rw [e3] at g2
       cases r1 with
       | true=>simpa using ihn _ _ g2
       | false=>simp
     have:=key n 0 r (by simpa using he)
     rw [List.range_eq_range']
     exact this
    ·cases h
   ·cases h
  ·cases h
inductive NilV:Nat→Bool→Value→Prop
 | p1:NilV 0 true (.pointer none)
 | p2 (a:Addr):NilV 0 false (.pointer (some a))
 | s1 (n c:Nat):NilV 1 true (.slice none n c)
 | m1:NilV 2 true (.map none)
 | m2 (r:Nat):NilV 2 false (.map (some r))
 | f1:NilV 3 true .nilFunc
 | f2 (f:Fn) (l r:Array Value):NilV 3 false (.func f l r)
 | i1:NilV 4 true .nilIface
 | i2 (t:Nat) (v:Value):NilV 4 false (.iface t v)
theorem nil?_val {kd:Nat} {x:SC} {p:Bool} (h:x.nil? kd=some p) (E:Env):NilV kd p (x.den E):=by
 unfold SC.nil? at h
 split at h <;> simp only [Option.some.injEq,reduceCtorEq] at h <;> subst h <;> simp only [SC.den] <;> constructor
def KindOf:Nat→TypeDesc→Prop
 | 0,d=>∃ e,d = .pointer e
 | 1,d=>∃ e,d = .slice e
 | 2,d=>∃ k e,d = .map k e
 | 3,d=>∃ a b c,d = .func a b c
 | 4,d=>∃ m,d = .interface m
 | _,_=>False
theorem nil_eq {kd:Nat} {X Y:Value} {p q:Bool} (hx:NilV kd p X) (hy:NilV kd q Y) (hpq:p=true∨q=true) {t:Nat} {d:TypeDesc} (hu:P.underlying t=some d) (hd:KindOf kd d) (m:Nat) :
  (Op.equalIn (m+1) t X Y).run P w = .ok (p == q) w:=by
 cases hx <;> cases hy <;> first
  | (exfalso;simp at hpq;done)
  | (obtain ⟨e,rfl⟩:=hd;simp [Op.equalIn,run_underlying hu];done)
  | (obtain ⟨k,e,rfl⟩:=hd;simp [Op.equalIn,run_underlying hu];done)
  | (obtain ⟨k,e,c,rfl⟩:=hd;simp [Op.equalIn,run_underlying hu];done)
theorem nil_guard {kd:Nat} {X Y:Value} {p q:Bool} (hx:NilV kd p X) (hy:NilV kd q Y) {op:BinOp} {t:Nat} {x y:Operand} (hc:kd=4→isConst y=true):(eqGuard op t x y X Y).run P w = .ok () w:=by
 unfold eqGuard
 cases hx <;> cases hy <;> simp only [pure] <;> (split <;> (try rfl))
 all_goals
  cases y <;> simp [isConst] at hc
  simp
theorem nil_bin {kd:Nat} {X Y:Value} {p q:Bool} (hx:NilV kd p X) (hy:NilV kd q Y) (hpq:p=true∨q=true) {t:Nat} {d:TypeDesc} (hu:P.underlying t=some d) (hd:KindOf kd d) {op:BinOp} {neg:Bool} (ho:op = .eql∧neg=false∨op = .neq∧neg=true) :
  (binOp op t X Y).run P w = .ok (.bool (neg? neg (p == q))) w:=by
 have h:=nil_eq (w:=w) hx hy hpq hu hd 9999
 rcases ho with ⟨rfl,rfl⟩ | ⟨rfl,rfl⟩ <;> cases hx <;> cases hy <;> simp [binOp,Op.equal,Op.maxDepth,h,neg?]
theorem step_ok (hT:TOk P T) {o:Oper} {op:IOp} (hc:compOp T o.op=some op) {vc:Prop} {out:Out} (h:(stepOut op S).Sel vc out) (hvc:vc) (hs:Sat B W w0 E S a w) :
  ∃ v w',RunsTo ((execOp a.eval o).run P w) v w'∧After B W w0 E [] S a w out.val out.cnt out.eff out.arrs v w':=by
 -- an operation that answers and changes nothing
 have pv:∀ {s:Sem Value} {val:SV},out=pureO val→(∀ E,Sat B W w0 E S a w→s.run P w = .ok (val.den E) w) →
   ∃ v w',RunsTo ((do pure (Next.value (← s)):Sem Next).run P w) v w'∧After B W w0 E [] S a w out.val out.cnt out.eff out.arrs v w':=by
  rintro s val rfl h
  exact pure_after hs fun E2 hs2=>run_val (h E2 hs2)
 unfold execOp
 cases hop:o.op <;> rw [hop] at hc <;> simp only [compOp,reduceCtorEq] at hc
 case move x | assign x =>
  simp only [Option.map_eq_some_iff] at hc
  obtain ⟨ix,hx,rfl⟩:=hc
  simp only [stepOut] at h
  split at h
  ·next v hv =>
   obtain ⟨rfl,rfl⟩:=h
   exact pv (s:=pure (a.eval x)) rfl fun E hs=>by rw [opd_den hs hx hv];rfl
  ·exact h.elim
 case pick c p q =>
  simp only [Option.bind_eq_some_iff,Option.map_eq_some_iff] at hc
  obtain ⟨ic,hcc,ip,hp,iq,hq,rfl⟩:=hc
  have run:∀ (b:Bool),a.eval c = .bool b→(do pure (Next.value (if ← asBool (a.eval c) then a.eval p else a.eval q)):Sem Next).run P w = .ok (.value (if b then a.eval p else a.eval q)) w:=by
   intro b hb
   rw [hb]
   cases b <;> rfl
  simp only [stepOut] at h
  split at h
  ·next hev =>
   split at h
   ·next v hv =>
    obtain ⟨rfl,rfl⟩:=h
    exact pure_after hs fun E hs=>by rw [run true (by rw [opd_den hs hcc hev,den_c,den_v]),if_pos rfl,opd_den hs hp hv]
   ·exact h.elim
  ·next hev =>
   split at h
   ·next v hv =>
    obtain ⟨rfl,rfl⟩:=h
    exact pure_after hs fun E hs=>by rw [run false (by rw [opd_den hs hcc hev,den_c,den_v]),if_neg (by simp),opd_den hs hq hv]
   ·exact h.elim
  ·next e hev =>
   split at h
   ·next pa x pb y hx hy =>
    split at h
    ·next p' q' hp' hq' =>
     obtain ⟨rfl,rfl⟩:=h
     refine pure_after hs fun E hs=>?_
     have arm:∀ (want:Bool) (o:Operand) (io:IX) (r:Prop) (z:SC),opd o=some io→S.evW ic want io=some (r,.c z)→r→e=want→a.eval o=z.den E:=by
      intro want o io r z ho hz hr hew
      unfold St.evW at hz
      split at hz
      ·next g w' e' v hv =>
       split at hz
       ·next n =>
        split at hz
        ·split at hz
         ·next b hb =>
          simp only [Option.some.injEq,Prod.mk.injEq] at hz
          obtain ⟨rfl,rfl⟩:=hz
          have hbe:b=e:=by
           have:S.ev (.t n)=some (.c (.bo b)):=hb
           rw [this] at hev
           cases hev
           rfl
          rw [opd_den hs ho hv]
          have:e' = true:=by rw [hr,hbe,hew];cases want <;> rfl
          simp only [SV.den,this,if_true]
         ·cases hz
        ·cases hz
       ·cases hz
      ·next v hv _ =>
       simp only [Option.some.injEq,Prod.mk.injEq] at hz
       obtain ⟨rfl,rfl⟩:=hz
       rw [opd_den hs ho (by assumption),den_c]
      ·cases hz
     rw [run e (by rw [opd_den hs hcc hev,den_c,den_b]),den_c,den_b]
     cases e with
     | true =>
      have d1:a.eval p = .bool p':=(arm true p ip pa x hp hx hvc.1 rfl).trans (bool?_den hp' E)
      simp [d1]
     | false =>
      have d2:a.eval q = .bool q':=(arm false q iq pb y hq hy hvc.2 rfl).trans (bool?_den hq' E)
      simp [d2]
    ·exact h.elim
   ·exact h.elim
  ·exact h.elim
 case alloc e =>
  simp only [Option.bind_eq_some_iff] at hc
  obtain ⟨ti,hti,hc⟩:=hc
  obtain ⟨hu,i,hi,hz,hsz,_⟩:=ti_parts hT hti
  have hr:(Instr.alloc e true (.tuple #[])).run P w = .ok (.pointer (some ⟨w.heap.size,0,none⟩)) (w.alloc (.cells ti.zero.cells e)):=by
   simp only [Instr.alloc,newVar,newRow,Sem.run_bind,run_zeroValue hi hz,Result.andThen_ok,run_newObj_alloc,Sem.run_pure]
  split at hc
  ·next n te _ _ =>
   simp only [Option.bind_eq_some_iff] at hc
   obtain ⟨tt,hte,hc⟩:=hc
   split at hc
   ·next hzz =>
    simp only [Option.some.injEq] at hc
    subst hc
    simp only [Bool.and_eq_true,beq_iff_eq] at hzz
    obtain ⟨hz1,hz2⟩:=hzz
    have hz1:=zEqs_eq hz1
    simp only [stepOut] at h
    obtain ⟨rfl,rfl⟩:=h
    obtain ⟨h1,h2,hn⟩:=hvc
    have hzl:tt.zero.cells.toList.length=tt.size:=by rw [Array.length_toList];exact hz2
    have hfl:∀ (n:Nat) (l:List Value),l.length=tt.size→((List.replicate n l).flatten).length=n * tt.size∧∀ e j,e<n→j<tt.size→((List.replicate n l).flatten)[e * tt.size+j]? = l[j]?:=by
     intro n l hl
     induction n with
     | zero=>exact ⟨by simp,fun e j he _=>by omega⟩
     | succ n ih =>
      refine ⟨by simp only [List.replicate_succ,List.flatten_cons,List.length_append,ih.1,hl,Nat.add_mul];omega,fun e j he hj=>?_⟩
      simp only [List.replicate_succ,List.flatten_cons]
      cases e with
      | zero=>rw [Nat.zero_mul,Nat.zero_add,List.getElem?_append_left (by omega)]
      | succ e =>
       rw [List.getElem?_append_right (by rw [hl,Nat.add_mul];omega),hl,show (e+1) * tt.size+j - tt.size=e * tt.size+j by rw [Nat.add_mul];omega]
       exact ih.2 e j (by omega) hj
    obtain ⟨hf1,hf2⟩:=hfl n tt.zero.cells.toList hzl
    rw [← hz1] at hf1 hf2
    refine det_after (one1 w.heap.size n false) (one1_one _ _ _) ⟨_,_,Or.inl (run_val hr)⟩ fun E2 hs2 hag=>?_
    have hE:=one1_at hag
    refine ⟨w.alloc (.cells ti.zero.cells e),Or.inl ?_,fits_allocA (cells:=ti.zero.cells) hE (Nat.le_refl _) hn (by simpa using hf1) ?_ _ (Or.inl rfl)⟩
    ·rw [run_val hr,den_c,den_pe,hE.1];simp
    ·intro r hr
     rw [len'_eq] at h2
     refine ⟨h2,fun j u hu=>⟨?_,allOne_den h1 hs2.one j u hu⟩⟩
     have hj:j<tt.size:=by rw [← h2];exact (List.getElem?_eq_some_iff.1 hu).1
     have:=hf2 r j hr hj
     rw [Array.getElem?_toList] at this
     rw [this]
     simp only [scs,List.getElem?_map,Option.map_eq_some_iff] at hu
     obtain ⟨x,hx,rfl⟩:=hu
     rw [den_v];exact hx
   ·cases hc
  ·simp only [Option.some.injEq] at hc
   subst hc
   simp only [stepOut] at h
   obtain ⟨rfl,rfl⟩:=h
   refine det_after (one1 w.heap.size 0 false) (one1_one _ _ _) ⟨_,_,Or.inl (run_val hr)⟩ fun E2 hs2 hag=>?_
   have hE:=one1_at hag
   refine ⟨w.alloc (.cells ti.zero.cells e),Or.inl ?_,fits_alloc (o:=.cells ti.zero.cells e) (by simp only [Blk.den,scs_den,hE.1]) _ (Or.inl rfl)⟩
   rw [run_val hr,den_c,den_ptr,hE.1]
 case box e x =>
  simp only [Option.map_eq_some_iff] at hc
  obtain ⟨ix,hx,rfl⟩:=hc
  simp only [stepOut] at h
  split at h
  ·next v hv =>
   split at h
   ·next cs hcs =>
    obtain ⟨rfl,rfl⟩:=h
    have hr:(Instr.box e (a.eval x)).run P w = .ok (.pointer (some ⟨w.heap.size,0,none⟩)) (w.alloc (.cells (a.eval x).cells e)):=by
     simp only [Instr.box,newVar,newRow,Sem.run_bind,Result.andThen_ok,run_newObj_alloc,Sem.run_pure]
    refine det_after (one1 w.heap.size 0 false) (one1_one _ _ _) ⟨_,_,Or.inl (run_val hr)⟩ fun E2 hs2 hag=>?_
    have hE:=one1_at hag
    refine ⟨w.alloc (.cells (a.eval x).cells e),Or.inl ?_,fits_alloc (o:=.cells (a.eval x).cells e) ?_ _ (Or.inl rfl)⟩
    ·rw [run_val hr,den_c,den_ptr,hE.1]
    ·simp only [Blk.den,hE.1,opd_den hs2 hx hv,(cells_den hcs hs2.one).1]
   ·exact h.elim
  ·exact h.elim
 case build t parts =>
  simp only [Option.bind_eq_some_iff] at hc
  obtain ⟨ti,hti,hc⟩:=hc
  obtain ⟨hu,i,hi,hz,hsz,_⟩:=ti_parts hT hti
  split at hc
  ·next fs hfs =>
   split at hc
   ·next hall =>
    simp only [Option.map_eq_some_iff] at hc
    obtain ⟨ps,hps,rfl⟩:=hc
    simp only [stepOut] at h
    split at h
    ·next cs hcs =>
     obtain ⟨rfl,rfl⟩:=h
     obtain ⟨hl,hsp⟩:=structParts_spec _ _ hps
     obtain ⟨places,hpl⟩:=places_all (P:=P) (fs:=fs.toList) (fun f hf=>by
      obtain ⟨tf,htf⟩:=allIn_mem hall f hf
      obtain ⟨_,i,hi,_⟩:=ti_parts hT htf
      exact ⟨i,hi⟩)
     refine pv rfl fun E hs=>?_
     have hfill:=fill_ok (E:=E) (S:=S) (a:=a) (place:=(places.toArray[·]?)) hs.one ps parts.toList (scs ti.zero.cells) cs (fun j p hp=>by
      obtain ⟨q,f,tf,hq,hf,htf,e1,e2,ho⟩:=hsp j p hp
      refine ⟨q,hq,?_,fun v hv=>opd_den hs ho hv⟩
      obtain ⟨tt,ht1,ht2⟩:=places_get hpl q.1 f (by simpa using hf)
      obtain ⟨_,i',hi',_,hs',_⟩:=ti_parts hT htf
      rw [hi'] at ht1
      cases ht1
      simp only [List.getElem?_toArray,ht2,e1,e2,hs']) hl hcs
     rw [scs_den] at hfill
     have hb:P.built t (parts.map fun (i,x)=>(i,a.eval x)).toList=some (cs.map (SC.den E)).toArray:=by
      unfold Program.built
      rw [hi,hu,hfs]
      simp only [hz,hpl]
      simpa using hfill
     simp only [run_build w t _ _ hb]
     rfl
    ·exact h.elim
   ·cases hc
  ·next n e hd =>
   simp only [Option.bind_eq_some_iff,Option.map_eq_some_iff] at hc
   obtain ⟨te,hte,ps,hps,rfl⟩:=hc
   simp only [stepOut] at h
   split at h
   ·next cs hcs =>
    obtain ⟨rfl,rfl⟩:=h
    obtain ⟨_,ie,hie,hze,hse,_⟩:=ti_parts hT hte
    obtain ⟨hl,hsp⟩:=rowParts_spec _ _ hps
    refine pv rfl fun E hs=>?_
    have hfill:=fill_ok (E:=E) (S:=S) (a:=a) (place:=fun i=>some (i * te.size,te.size)) hs.one ps parts.toList (scs ti.zero.cells) cs (fun j p hp=>by
     obtain ⟨q,hq,e1,e2,ho⟩:=hsp j p hp
     exact ⟨q,hq,by simp [e1,e2],fun v hv=>opd_den hs ho hv⟩) hl hcs
    rw [scs_den] at hfill
    have hparts:(parts.map fun (i,x)=>(i,a.eval x)).toList=parts.toList.map fun q=>(q.1,a.eval q.2):=by simp
    have hu' : P.underlying t=some (.array n e):=by rw [hu,hd]
    simp only [Instr.build,Sem.run_bind,run_zeroValue hi hz,Result.andThen_ok,run_underlying hu',run_sizeOf hie,hse,hparts,hfill,Sem.run_pure]
    rfl
   ·exact h.elim
  ·cases hc
 case buildSlice t len parts =>
  simp only [Option.bind_eq_some_iff] at hc
  obtain ⟨ti,hti,hc⟩:=hc
  split at hc
  ·next e he =>
   simp only [Option.bind_eq_some_iff] at hc
   obtain ⟨te,hte,hc⟩:=hc
   split at hc
   ·next hsm =>
    simp only [Option.map_eq_some_iff] at hc
    obtain ⟨ps,hps,rfl⟩:=hc
    simp only [stepOut] at h
    split at h
    ·next cs hcs =>
     obtain ⟨rfl,rfl⟩:=h
     obtain ⟨h1,hcl,hlm⟩:=hvc
     obtain ⟨hu,i,hi,hz,hsz,_⟩:=ti_parts hT hti
     obtain ⟨_,ie,hie,hze,hse,_⟩:=ti_parts hT hte
     obtain ⟨hl,hsp⟩:=rowParts_spec _ _ hps
     have hu' : P.underlying t=some (.slice e):=by rw [hu,he]
     have hparts:(parts.map fun (i,x)=>(i,a.eval x)).toList=parts.toList.map fun q=>(q.1,a.eval q.2):=by simp
     have hrun:∀ E,Sat B W w0 E S a w→(Instr.buildSlice t len (parts.map fun (i,x)=>(i,a.eval x))).run P w = .ok (.slice (some ⟨w.heap.size,0,none⟩) len len) (w.alloc (.cells (cs.map (SC.den E)).toArray e)):=by
      intro E hs
      have hfill:=fill_ok (E:=E) (S:=S) (a:=a) (place:=fun i=>some (i * te.size,te.size)) hs.one ps parts.toList (rowZero (len * te.size) te.zero) cs (fun j p hp=>by
       obtain ⟨q,hq,e1,e2,ho⟩:=hsp j p hp
       exact ⟨q,hq,by simp [e1,e2],fun v hv=>opd_den hs ho hv⟩) hl hcs
      have hr0:((rowZero (len * te.size) te.zero).map (SC.den E)).toArray=(Array.range (len * te.size)).map (fun j=>te.zero.cells[j % te.zero.cells.size]!):=by
       apply Array.ext'
       simp [rowZero,Function.comp_def,den_v]
      have hr1:∀ f:Nat→Value,(Array.range 0).map f = #[]:=by simp
      rw [hr0] at hfill
      by_cases h0:len * te.size=0
      ·rw [h0,hr1] at hfill
       simp only [Instr.buildSlice,run_underlying hu',run_sizeOf hie,hse,Sem.run_bind,Result.andThen_ok,h0,show ¬ (0:Nat)>2 ^ 24 by decide,if_false,if_true,Sem.run_pure,hparts,hr1,hfill]
       simp only [newRow,Sem.run_bind,run_newObj_alloc,Result.andThen_ok,Sem.run_pure]
      ·simp only [Instr.buildSlice,run_underlying hu',run_sizeOf hie,hse,Sem.run_bind,Result.andThen_ok,show ¬ len * te.size>2 ^ 24 by omega,if_false,h0,run_zeroValue hie hze,Sem.run_pure,hparts]
       rw [hfill]
       simp only [newRow,Sem.run_bind,run_newObj_alloc,Result.andThen_ok,Sem.run_pure]
     refine det_after (one1 w.heap.size len false) (one1_one _ _ _) ⟨_,_,Or.inl (run_val (hrun E hs))⟩ fun E2 hs2 hag=>?_
     have hE:=one1_at hag
     rw [len'_eq] at hcl
     refine ⟨w.alloc (.cells (cs.map (SC.den E2)).toArray e),Or.inl ?_,fits_allocA (cells:=(cs.map (SC.den E2)).toArray) hE (Nat.le_refl _) hlm (by simpa using hcl) ?_ _ (Or.inl rfl)⟩
     ·rw [run_val (hrun E2 hs2),den_c,den_sl,hE.1,hE.2.1,hE.2.2];simp
     ·intro r hr
      have hmul:(r+1) * te.size≤len * te.size:=Nat.mul_le_mul_right _ hr
      rw [Nat.add_mul,Nat.one_mul] at hmul
      refine ⟨seg_len (by omega),fun j u hu=>?_⟩
      have:=seg_get hu
      refine ⟨by simp [this],one_den hs2.one (allOne_mem h1 u (List.mem_of_getElem? this))⟩
    ·exact h.elim
   ·cases hc
  ·cases hc
 case load t x =>
  simp only [Option.bind_eq_some_iff,Option.map_eq_some_iff] at hc
  obtain ⟨ti,hti,ix,hx,rfl⟩:=hc
  obtain ⟨val,rfl,h1⟩:=ld_ok (w0:=w0) (B:=B) (W:=W) (w:=w) (a:=a) hT hti hx h hvc
  exact pv rfl h1
 case store t x y =>
  simp only [Option.bind_eq_some_iff,Option.map_eq_some_iff] at hc
  obtain ⟨ti,hti,ix,hx,iy,hy,rfl⟩:=hc
  obtain ⟨h1,h2,h3,h4⟩:=st_ok (w0:=w0) (B:=B) (W:=W) (w:=w) (a:=a) hT hti hx hy h hvc
  obtain ⟨w',hr,_⟩:=h4 E hs
  refine det_after E hs.one ⟨undef,w',Or.inr ⟨run_unit hr,rfl⟩⟩ fun E2 hs2 _=>?_
  obtain ⟨w2,hr2,hf⟩:=h4 E2 hs2
  exact ⟨w2,Or.inr ⟨run_unit hr2,h1⟩,by rw [h3];exact hf⟩
 case nilCheck x =>
  simp only [Option.map_eq_some_iff] at hc
  obtain ⟨ix,hx,rfl⟩:=hc
  simp only [stepOut] at h
  split at h
  ·next hev =>
   obtain ⟨rfl,rfl⟩:=h
   exact pure_after hs fun E hs=>by simp only [opd_den hs hx hev,den_c,den_ptr];rfl
  ·next hev =>
   obtain ⟨rfl,rfl⟩:=h
   exact pure_after hs fun E hs=>by simp only [opd_den hs hx hev,den_c,den_pe];rfl
  ·next y s k j hev =>
   split at h
   ·next p A hA =>
    obtain ⟨rfl,rfl⟩:=h
    obtain ⟨hp,hk⟩:=hvc
    refine pure_after hs fun E hs=>?_
    obtain ⟨ba,cap,hχ,hl,hm,hcell⟩:=hs.arr (pkN_at hA hp)
    rcases hcell with h0 | ⟨b,off,rfl,_,hcell⟩
    ·omega
    simp only [opd_den hs hx hev,den_c,SC.den,hχ];rfl
   ·exact h.elim
  ·next f l r hev =>
   split at h
   ·obtain ⟨rfl,rfl⟩:=h
    exact pure_after hs fun E hs=>by simp only [opd_den hs hx hev,den_c,SC.den];rfl
   ·exact h.elim
  ·exact h.elim
 case binOp op t x y yt =>
  simp only [Option.bind_eq_some_iff] at hc
  obtain ⟨ti,hti,ix,hx,iy,hy,hc⟩:=hc
  obtain ⟨hu,i,hi,hz,hsz,_⟩:=ti_parts hT hti
  have ebool:∀ (neg:Bool),(stepOut (.eqb neg ix iy) S).Sel vc out→ti.desc = .bool→(op = .eql∧neg=false∨op = .neq∧neg=true) →
    ∃ val,out=pureO val∧∀ E,Sat B W w0 E S a w→(do eqGuard op t x y (a.eval x) (a.eval y);binOp op t (a.eval x) (a.eval y):Sem Value).run P w = .ok (val.den E) w:=by
   intro neg h hd ho
   simp only [stepOut] at h
   split at h
   ·next p q hp hq =>
    split at h
    ·next p' q' hp' hq' =>
     obtain ⟨rfl,rfl⟩:=h
     refine ⟨_,rfl,fun E hs=>?_⟩
     simp only [opd_den hs hx hp,opd_den hs hy hq,den_c,bool?_den hp' E,bool?_den hq' E,den_b,eqGuard_at_bool]
     have:=run_equalIn_bool' w 9999 t p' q' (by rw [hu,hd])
     rcases ho with ⟨rfl,rfl⟩ | ⟨rfl,rfl⟩
     ·simp [binOp,Op.equal,Op.maxDepth,this,neg?]
     ·simp [binOp,Op.equal,Op.maxDepth,this,neg?]
    ·exact h.elim
   ·exact h.elim
  have estr:∀ (neg:Bool),(stepOut (.eqs neg ix iy) S).Sel vc out→(op = .eql∧neg=false∨op = .neq∧neg=true) →
    ∃ val,out=pureO val∧∀ E,Sat B W w0 E S a w→(do eqGuard op t x y (a.eval x) (a.eval y);binOp op t (a.eval x) (a.eval y):Sem Value).run P w = .ok (val.den E) w:=by
   intro neg h ho
   simp only [stepOut] at h
   split at h
   ·next p q hp hq =>
    obtain ⟨rfl,rfl⟩:=h
    refine ⟨_,rfl,fun E hs=>?_⟩
    simp only [opd_den hs hx hp,opd_den hs hy hq,den_c,den_v,den_b]
    rcases ho with ⟨rfl,rfl⟩ | ⟨rfl,rfl⟩
    ·rfl
    ·rfl
   ·exact h.elim
  have eagg:∀ (neg:Bool),(stepOut (.eqa neg ti.flat ix iy) S).Sel vc out→ti.flat≠[]→isAggD ti.desc=true→(op = .eql∧neg=false∨op = .neq∧neg=true) →
    ∃ val,out=pureO val∧∀ E,Sat B W w0 E S a w→(do eqGuard op t x y (a.eval x) (a.eval y);binOp op t (a.eval x) (a.eval y):Sem Value).run P w = .ok (val.den E) w:=by
   intro neg h hfl hagg ho
   simp only [stepOut] at h
   split at h
   ·next p q hp hq =>
    split at h
    ·next r hr =>
     obtain ⟨rfl,rfl⟩:=h
     refine ⟨_,rfl,fun E hs=>?_⟩
     obtain ⟨_,_,h3⟩:=hT t ti hti
     obtain ⟨h5,h6⟩:=h3 hfl
     have hg:=run_eqGuard_agg w op t x y (p.map (SC.den E)).toArray (q.map (SC.den E)).toArray h5
     have hval:∀ zs,valT P E t zs = .agg (zs.map (SC.den E)).toArray:=by
      intro zs
      simp only [valT,hu,hagg,if_true]
     have he:=flat_eq (P:=P) (E:=E) (w:=w) 8 t ti.flat h6 10000 (by omega) p q r hr
     rw [hval,hval] at he
     simp only [opd_den hs hx hp,opd_den hs hy hq,den_agg,den_c,den_b,Sem.run_bind,hg,Result.andThen_ok]
     rcases ho with ⟨rfl,rfl⟩ | ⟨rfl,rfl⟩
     ·simp [binOp,Op.equal,Op.maxDepth,he,neg?]
     ·simp [binOp,Op.equal,Op.maxDepth,he,neg?]
    ·exact h.elim
   ·exact h.elim
  have enil:∀ (kd:Nat) (neg:Bool),(stepOut (.eqn kd neg ix iy) S).Sel vc out→KindOf kd ti.desc→(kd=4→isConst y=true)→(op = .eql∧neg=false∨op = .neq∧neg=true) →
    ∃ val,out=pureO val∧∀ E,Sat B W w0 E S a w→(do eqGuard op t x y (a.eval x) (a.eval y);binOp op t (a.eval x) (a.eval y):Sem Value).run P w = .ok (val.den E) w:=by
   intro kd neg h hd hcst ho
   simp only [stepOut] at h
   split at h
   ·next p q hp hq =>
    have core:∀ (b b' : Bool) (r:Bool),p.nil? kd=some b→q.nil? kd=some b'→(b=true∨b' = true)→r=neg? neg (b == b')→∀ E,Sat B W w0 E S a w→(do eqGuard op t x y (a.eval x) (a.eval y);binOp op t (a.eval x) (a.eval y):Sem Value).run P w = .ok ((SV.c (.v (.bool r))).den E) w:=by
     intro b b' r hb hb' hor hr E hs
     have h1:=nil?_val hb E
     have h2:=nil?_val hb' E
     rw [opd_den hs hx hp,opd_den hs hy hq,den_c,den_c]
     simp only [Sem.run_bind,nil_guard h1 h2 hcst,Result.andThen_ok,nil_bin h1 h2 hor hu hd ho,den_c,den_v,hr]
    split at h
    ·next b hb hb' =>
     obtain ⟨rfl,rfl⟩:=h
     exact ⟨_,rfl,core b true _ hb hb' (Or.inr rfl) (by cases b <;> rfl)⟩
    ·next b _ hb hb' =>
     obtain ⟨rfl,rfl⟩:=h
     exact ⟨_,rfl,core true b _ hb hb' (Or.inl rfl) (by cases b <;> rfl)⟩
    ·exact h.elim
   ·exact h.elim
  have fin:(∃ val,out=pureO val∧∀ E,Sat B W w0 E S a w→(do eqGuard op t x y (a.eval x) (a.eval y);binOp op t (a.eval x) (a.eval y):Sem Value).run P w = .ok (val.den E) w) →
    ∃ v w',RunsTo ((do pure (Next.value (← (do eqGuard op t x y (a.eval x) (a.eval y);binOp op t (a.eval x) (a.eval y)))):Sem Next).run P w) v w'∧After B W w0 E [] S a w out.val out.cnt out.eff out.arrs v w' :=
   fun ⟨val,h1,h2⟩=>pv h1 h2
  refine fin ?_
  have esh:∀ (left:Bool),(stepOut (.sh left ix iy) S).Sel vc out→op=(if left then .shl else .shr) →
    ∃ val,out=pureO val∧∀ E,Sat B W w0 E S a w→(do eqGuard op t x y (a.eval x) (a.eval y);binOp op t (a.eval x) (a.eval y):Sem Value).run P w = .ok (val.den E) w:=by
   intro left h ho
   simp only [stepOut] at h
   split at h
   ·next k p k' q hp hq =>
    obtain ⟨rfl,rfl⟩:=h
    have hq0:¬ q<0:=by omega
    refine ⟨_,rfl,fun E hs=>?_⟩
    simp only [opd_den hs hx hp,opd_den hs hy hq,den_c,den_v,Sem.run_bind,run_eqGuard_int,Result.andThen_ok]
    cases left <;> subst ho <;> simp [binOp,Op.shift,hq0,shI]
   ·exact h.elim
  split at hc
  ·simp only [Option.some.injEq] at hc;subst hc;exact esh true h rfl
  ·simp only [Option.some.injEq] at hc;subst hc;exact esh false h rfl
  ·simp only [Option.some.injEq] at hc
   subst hc
   simp only [stepOut] at h
   split at h
   ·next k p k' q hp hq =>
    split at h
    ·next hk =>
     subst hk
     obtain ⟨val,h1,h2⟩:=run_binI (P:=P) (w:=w) (t:=t) h hvc
     exact ⟨val,h1,fun E hs=>by simp only [opd_den hs hx hp,opd_den hs hy hq,den_c,den_v,Sem.run_bind,run_eqGuard_int,Result.andThen_ok,h2 E]⟩
    ·exact h.elim
   ·exact h.elim
  ·next hd=>simp only [Option.some.injEq] at hc;subst hc;exact ebool false h hd (Or.inl ⟨rfl,rfl⟩)
  ·next hd=>simp only [Option.some.injEq] at hc;subst hc;exact ebool true h hd (Or.inr ⟨rfl,rfl⟩)
  ·next hd=>simp only [Option.some.injEq] at hc;subst hc;exact estr false h (Or.inl ⟨rfl,rfl⟩)
  ·next hd=>simp only [Option.some.injEq] at hc;subst hc;exact estr true h (Or.inr ⟨rfl,rfl⟩)
  ·next hd =>
   split at hc
   ·cases hc
   ·next hfl=>simp only [Option.some.injEq] at hc;subst hc;exact eagg false h (by simpa using hfl) (by rw [hd];rfl) (Or.inl ⟨rfl,rfl⟩)
  ·next hd =>
   split at hc
   ·cases hc
   ·next hfl=>simp only [Option.some.injEq] at hc;subst hc;exact eagg false h (by simpa using hfl) (by rw [hd];rfl) (Or.inl ⟨rfl,rfl⟩)
  ·next hd =>
   split at hc
   ·cases hc
   ·next hfl=>simp only [Option.some.injEq] at hc;subst hc;exact eagg true h (by simpa using hfl) (by rw [hd];rfl) (Or.inr ⟨rfl,rfl⟩)
  ·next hd =>
   split at hc
   ·cases hc
   ·next hfl=>simp only [Option.some.injEq] at hc;subst hc;exact eagg true h (by simpa using hfl) (by rw [hd];rfl) (Or.inr ⟨rfl,rfl⟩)
  ·next e hd=>simp only [Option.some.injEq] at hc;subst hc;exact enil 0 false h ⟨e,hd⟩ (by simp) (Or.inl ⟨rfl,rfl⟩)
  ·next e hd=>simp only [Option.some.injEq] at hc;subst hc;exact enil 0 true h ⟨e,hd⟩ (by simp) (Or.inr ⟨rfl,rfl⟩)
  ·next e hd=>simp only [Option.some.injEq] at hc;subst hc;exact enil 1 false h ⟨e,hd⟩ (by simp) (Or.inl ⟨rfl,rfl⟩)
  ·next e hd=>simp only [Option.some.injEq] at hc;subst hc;exact enil 1 true h ⟨e,hd⟩ (by simp) (Or.inr ⟨rfl,rfl⟩)
  ·next e e' hd=>simp only [Option.some.injEq] at hc;subst hc;exact enil 2 false h ⟨e,e',hd⟩ (by simp) (Or.inl ⟨rfl,rfl⟩)
  ·next e e' hd=>simp only [Option.some.injEq] at hc;subst hc;exact enil 2 true h ⟨e,e',hd⟩ (by simp) (Or.inr ⟨rfl,rfl⟩)
  ·next e e' e'' hd=>simp only [Option.some.injEq] at hc;subst hc;exact enil 3 false h ⟨e,e',e'',hd⟩ (by simp) (Or.inl ⟨rfl,rfl⟩)
  ·next e e' e'' hd=>simp only [Option.some.injEq] at hc;subst hc;exact enil 3 true h ⟨e,e',e'',hd⟩ (by simp) (Or.inr ⟨rfl,rfl⟩)
  ·next e hd =>
   split at hc
   ·next hcst=>simp only [Option.some.injEq] at hc;subst hc;exact enil 4 false h ⟨e,hd⟩ (fun _=>hcst) (Or.inl ⟨rfl,rfl⟩)
   ·cases hc
  ·next e hd =>
   split at hc
   ·next hcst=>simp only [Option.some.injEq] at hc;subst hc;exact enil 4 true h ⟨e,hd⟩ (fun _=>hcst) (Or.inr ⟨rfl,rfl⟩)
   ·cases hc
  ·cases hc
 case unOp op t x =>
  simp only [Option.map_eq_some_iff] at hc
  obtain ⟨ix,hx,rfl⟩:=hc
  simp only [stepOut] at h
  split at h
  ·next b hev =>
   obtain ⟨rfl,rfl⟩:=h
   exact pv rfl fun E hs=>by simp only [opd_den hs hx hev,den_c,den_v];rfl
  ·next b hev =>
   obtain ⟨rfl,rfl⟩:=h
   exact pv rfl fun E hs=>by simp only [opd_den hs hx hev,den_c,den_b];rfl
  ·next k n hev =>
   obtain ⟨rfl,rfl⟩:=h
   exact pv rfl fun E hs=>by simp only [opd_den hs hx hev,den_c,den_v];rfl
  ·exact h.elim
 case convert s d x =>
  simp only [Option.bind_eq_some_iff] at hc
  obtain ⟨ts,hts,td,htd,hc⟩:=hc
  split at hc
  ·next ks kd hds hdd =>
   simp only [Option.map_eq_some_iff] at hc
   obtain ⟨ix,hx,rfl⟩:=hc
   simp only [stepOut] at h
   split at h
   ·next k n hev =>
    obtain ⟨rfl,rfl⟩:=h
    obtain ⟨hus,_⟩:=ti_parts hT hts
    obtain ⟨hud,_⟩:=ti_parts hT htd
    exact pv rfl fun E hs=>by
     simp only [opd_den hs hx hev,den_c,den_v,convert,Sem.run_bind,run_underlying hus,run_underlying hud,Result.andThen_ok,hds,hdd]
     rfl
   ·exact h.elim
  ·cases hc
 case makeSlice t l c =>
  simp only [Option.bind_eq_some_iff] at hc
  obtain ⟨ti,hti,hc⟩:=hc
  split at hc
  ·next e he =>
   simp only [Option.bind_eq_some_iff,Option.map_eq_some_iff] at hc
   obtain ⟨te,hte,il,hl,ic,hcc,rfl⟩:=hc
   exact mks_ok hT hti he hte hl hcc h hvc hs
  ·cases hc
 case slice t x lo hi' mx =>
  simp only [Option.bind_eq_some_iff] at hc
  obtain ⟨ti,hti,hc⟩:=hc
  split at hc
  ·next e he =>
   simp only [Option.bind_eq_some_iff] at hc
   obtain ⟨te,hte,ix,hx,ilo,hlo,ihi,hhi,imx,hmx,hc⟩:=hc
   split at hc
   ·cases hc
   ·next himp =>
    simp only [Option.some.injEq] at hc
    subst hc
    rcases slc_ok (w0:=w0) (B:=B) (W:=W) (w:=w) (a:=a) hT hti he hte hx hlo hhi hmx (by simpa using himp) h hvc with ⟨val,h1,h2⟩ | ⟨rfl,h2⟩
    ·exact pv h1 h2
    ·obtain ⟨ba,cap,h3,h4⟩:=h2 E hs
     refine det_after ⟨fun _=>0,fun _=>0,fun _=>false,fun _=>.slice ba 0 cap⟩ (fun _=>rfl) ⟨_,_,Or.inl (run_val h3)⟩ fun E2 hs2 hag=>?_
     have hχ:E2.χ (S.nid,0,0) = .slice ba 0 cap:=(hag (S.nid,0,0) ⟨Nat.le_refl _,Nat.lt_succ_self _⟩).2.2.2
     refine ⟨w,Or.inl ?_,fun H _=>effOk_nil,fun w'' _ x A hA=>?_⟩
     ·rw [run_val h3]
      simp only [endO,den_c,den_xv,hχ]
     ·simp only [endO,atN,look] at hA
      split at hA
      ·next F hF =>
       split at hF
       ·next e =>
        cases hF
        simp only [Fm.get] at hA
        split at hA
        ·next e2 =>
         cases hA
         obtain ⟨x1,x2,x3⟩:=x
         simp only at e e2
         obtain ⟨rfl,rfl⟩:=e2
         subst e
         exact ⟨ba,cap,by rw [hχ],Nat.zero_le _,h4,Or.inl rfl⟩
        ·cases hA
       ·cases hF
      ·cases hA
  ·next n e he =>
   simp only [Option.bind_eq_some_iff] at hc
   obtain ⟨te,hte,hc⟩:=hc
   split at hc
   ·next hcond =>
    obtain ⟨hs1,hn0,rfl,rfl,rfl⟩:=hcond
    simp only [Option.map_eq_some_iff] at hc
    obtain ⟨ix,hx,rfl⟩:=hc
    obtain ⟨hu,_⟩:=ti_parts hT hti
    obtain ⟨_,i',hi',_,hse,_⟩:=ti_parts hT hte
    have hsl:∀ (b o:Nat),(Instr.sliceAt t (.pointer (some ⟨b,o,none⟩)) none none none).run P w = .ok (.slice (some ⟨b,o,none⟩) n n) w:=by
     intro b o
     simp only [Instr.sliceAt,Sem.run_bind,run_underlying hu,he,Instr.sureAddr,Sem.run_pure,Result.andThen_ok,Instr.sliceBounds]
     simp [run_sizeOf hi',Addr.add]
    simp only [stepOut] at h
    split at h
    ·next y s k j hev =>
     split at h
     ·next p m s' f ty hlook =>
      obtain ⟨rfl,rfl⟩:=h
      obtain ⟨hp,hk,hl⟩:=hvc
      refine pv rfl fun E hs=>?_
      obtain ⟨H,hH,_⟩:=hs.mem
      obtain ⟨hν,_,_⟩:=ar_cell hH (pkN_at hlook hp) hk
      simp only [Option.map_none]
      rw [opd_den hs hx hev,den_c,den_pe,hsl,den_c,den_sl,hν]
      simp
     ·exact h.elim
    ·next y s k j hev =>
     split at h
     ·next p A hA =>
      obtain ⟨rfl,rfl⟩:=h
      obtain ⟨hp,hk,hl⟩:=hvc
      refine pv rfl fun E hs=>?_
      obtain ⟨ba,cap,hχ,hl',hm,hcell⟩:=hs.arr (pkN_at hA hp)
      rcases hcell with h0 | ⟨b,off,rfl,_,hcell⟩
      ·omega
      simp only [Option.map_none]
      rw [opd_den hs hx hev,den_c]
      simp only [SC.den,hχ]
      rw [hsl]
      simp [den_c,SC.den,hχ,Addr.add,Nat.add_assoc]
     ·exact h.elim
    ·exact h.elim
   ·cases hc
  ·cases hc
 case makeMap t r =>
  cases r with
  | some _=>cases hc
  | none =>
   simp only at hc
   cases hk:mapKind T t with
   | none=>rw [hk] at hc;cases hc;exact h.elim
   | some p =>
    rw [hk] at hc
    cases hc
    exact mkm_ok hT hk h
 case lookup t m k ok =>
  simp only [Option.bind_eq_some_iff,Option.map_eq_some_iff] at hc
  obtain ⟨im,hm,ik,hki,hc⟩:=hc
  cases hk:mapKind T t with
  | none=>rw [hk] at hc;cases hc;exact h.elim
  | some p =>
  rw [hk] at hc
  cases hc
  obtain ⟨val,h1,h2⟩:=lkp_ok (w0:=w0) (B:=B) (W:=W) (w:=w) (a:=a) hT hk hm hki h hvc
  exact pv h1 h2
 case mapUpdate t m k v | insert t m k v =>
  simp only [Option.bind_eq_some_iff,Option.map_eq_some_iff] at hc
  obtain ⟨im,hm,ik,hki,iv,hvi,hc⟩:=hc
  cases hk:mapKind T t with
  | none=>rw [hk] at hc;cases hc;exact h.elim
  | some p =>
  rw [hk] at hc
  cases hc
  obtain ⟨h1,h2,h3,h4⟩:=mup_ok (w0:=w0) (B:=B) (W:=W) (w:=w) (a:=a) hT hk hm hki hvi h hvc
  obtain ⟨w',hr,_⟩:=h4 E hs
  refine det_after E hs.one ⟨undef,w',Or.inr ⟨run_unit hr,rfl⟩⟩ fun E2 hs2 _=>?_
  obtain ⟨w2,hr2,hf⟩:=h4 E2 hs2
  exact ⟨w2,Or.inr ⟨run_unit hr2,h1⟩,by rw [h3];exact hf⟩
 case mapEntry t m k =>
  simp only [Option.bind_eq_some_iff,Option.map_eq_some_iff] at hc
  obtain ⟨⟨kk,kd⟩,hk,im,hm,ik,hki,rfl⟩:=hc
  exact ent_ok hT hk hm hki h hvc hs
 case entryStore t m s v =>
  simp only [Option.bind_eq_some_iff,Option.map_eq_some_iff] at hc
  obtain ⟨⟨kk,kd⟩,hk,im,hm,is,hsi,iv,hvi,rfl⟩:=hc
  obtain ⟨h1,h2,h3,h4⟩:=ests_ok (t:=t) (w0:=w0) (B:=B) (W:=W) (w:=w) (a:=a) hm hsi hvi h hvc
  obtain ⟨w',hr,_⟩:=h4 E hs
  refine det_after E hs.one ⟨undef,w',Or.inr ⟨run_unit hr,rfl⟩⟩ fun E2 hs2 _=>?_
  obtain ⟨w2,hr2,hf⟩:=h4 E2 hs2
  exact ⟨w2,Or.inr ⟨run_unit hr2,h1⟩,by rw [h3];exact hf⟩
 case makeInterface t x =>
  simp only [Option.bind_eq_some_iff] at hc
  obtain ⟨ti,hti,hc⟩:=hc
  obtain ⟨hu,_⟩:=ti_parts hT hti
  split at hc
  ·cases hc
  ·next hne =>
   simp only [Option.map_eq_some_iff] at hc
   obtain ⟨ix,hx,rfl⟩:=hc
   simp only [stepOut] at h
   split at h
   ·next c hev =>
    obtain ⟨rfl,rfl⟩:=h
    refine pv rfl fun E hs=>?_
    rw [opd_den hs hx hev]
    unfold Instr.makeInterface
    simp only [Sem.run_bind,run_underlying hu,Result.andThen_ok,den_c,SC.den]
    rfl
   ·exact h.elim
 case makeFunc f l r =>
  simp only [Option.bind_eq_some_iff,Option.map_eq_some_iff] at hc
  obtain ⟨il,hl,ir,hr,rfl⟩:=hc
  simp only [stepOut] at h
  split at h
  ·next l' r' hl' hr' =>
   obtain ⟨rfl,rfl⟩:=h
   refine pv rfl fun E hs=>?_
   have e1:=evC_den hs _ _ _ hl hl'
   have e2:=evC_den hs _ _ _ hr hr'
   have e1:l.map a.eval=(SC.denL E l').toArray:=by
    apply Array.ext'
    rw [denL_eq]
    simpa using e1
   have e2:r.map a.eval=(SC.denL E r').toArray:=by
    apply Array.ext'
    rw [denL_eq]
    simpa using e2
   simp only [Instr.makeFunc,Sem.run_pure,e1,e2,den_c,SC.den]
  ·exact h.elim
 case fieldAddr s x f =>
  simp only [Option.bind_eq_some_iff] at hc
  obtain ⟨ti,hti,hc⟩:=hc
  split at hc
  ·next fs hfs =>
   simp only [Option.bind_eq_some_iff] at hc
   obtain ⟨fd,hfd,tf,htf,hc⟩:=hc
   split at hc
   ·cases hc
   ·next hnz =>
    simp only [Option.map_eq_some_iff] at hc
    obtain ⟨ix,hx,rfl⟩:=hc
    obtain ⟨hu,_⟩:=ti_parts hT hti
    obtain ⟨_,i,hi,_,hsf,_⟩:=ti_parts hT htf
    have hfa:∀ b o,(Instr.fieldAt s (.pointer (some ⟨b,o,none⟩)) f).run P w = .ok (.pointer (some ⟨b,o+fd.offset,none⟩)) w:=by
     intro b o
     simp only [Instr.fieldAt,Sem.run_bind,run_underlying hu,Result.andThen_ok,hfs,hfd,Instr.sureAddr,Sem.run_pure,fieldPlace,run_sizeOf hi,hsf,hnz,if_false,addr_add0]
    simp only [stepOut] at h
    split at h
    ·next id o hev =>
     obtain ⟨rfl,rfl⟩:=h
     exact pv rfl fun E hs=>by rw [opd_den hs hx hev,den_c,den_ptr,hfa,den_c,den_ptr]
    ·next y s k j hev =>
     obtain ⟨rfl,rfl⟩:=h
     exact pv rfl fun E hs=>by rw [opd_den hs hx hev,den_c,den_pe,hfa,den_c,den_pe,Nat.add_assoc]
    ·next y s k j hev =>
     split at h
     ·next p A hA =>
      obtain ⟨rfl,rfl⟩:=h
      obtain ⟨hp,hk⟩:=hvc
      refine pv rfl fun E hs=>?_
      obtain ⟨ba,cap,hχ,hl,hm,hcell⟩:=hs.arr (pkN_at hA hp)
      rcases hcell with h0 | ⟨b,off,rfl,_,hcell⟩
      ·omega
      simp only [opd_den hs hx hev,den_c,SC.den,hχ,hfa]
      simp [Nat.add_assoc]
     ·exact h.elim
    ·exact h.elim
  ·cases hc
 case field s x f =>
  simp only [Option.bind_eq_some_iff] at hc
  obtain ⟨ti,hti,hc⟩:=hc
  split at hc
  ·next fs hfs =>
   simp only [Option.bind_eq_some_iff,Option.map_eq_some_iff] at hc
   obtain ⟨fd,hfd,tf,htf,ix,hx,rfl⟩:=hc
   obtain ⟨hu,_⟩:=ti_parts hT hti
   obtain ⟨huf,i,hi,_,hsf,_⟩:=ti_parts hT htf
   simp only [stepOut] at h
   split at h
   ·next cs hev =>
    have run:∀ E,Sat B W w0 E S a w→(Instr.field s (a.eval x) f).run P w=(part fd.type (cs.map (SC.den E)).toArray fd.offset).run P w:=by
     intro E hs
     simp only [opd_den hs hx hev,den_agg,Instr.field,Sem.run_bind,run_underlying hu,Result.andThen_ok,hfs,hfd,asAgg,Sem.run_pure]
    cases hd:isAggD tf.desc with
    | true =>
     rw [hd,if_pos rfl] at h
     split at h
     ·obtain ⟨rfl,rfl⟩:=h
      refine pv rfl fun E hs=>?_
      rw [run E hs]
      simp only [part,Sem.run_bind,run_isAgg huf,hd,if_true,run_sizeOf hi,hsf,Result.andThen_ok,Sem.run_pure,den_agg,take'_eq,drop'_eq]
      congr 2
      apply Array.ext'
      simp [List.extract_eq_take_drop]
     ·exact h.elim
    | false =>
     rw [hd,if_neg (by simp)] at h
     split at h
     ·next c hnn =>
      obtain ⟨rfl,rfl⟩:=h
      refine pv rfl fun E hs=>?_
      rw [nth_eq] at hnn
      rw [run E hs]
      simp only [part,Sem.run_bind,run_isAgg huf,hd,Result.andThen_ok]
      simp [hnn,den_c]
     ·exact h.elim
   ·exact h.elim
  ·cases hc
 case indexAddr t x i =>
  simp only [Option.bind_eq_some_iff] at hc
  obtain ⟨ti,hti,hc⟩:=hc
  obtain ⟨hu,_⟩:=ti_parts hT hti
  split at hc
  ·next e he =>
   simp only [Option.bind_eq_some_iff,Option.map_eq_some_iff] at hc
   obtain ⟨te,hte,ix,hx,ii,hii,rfl⟩:=hc
   obtain ⟨_,i',hi',_,hse,_⟩:=ti_parts hT hte
   have hia:∀ (b o len cap:Nat) (k:IntKind) (z:Int),0≤z→z<len→(Instr.indexAt t (.slice (some ⟨b,o,none⟩) len cap) (.int k z)).run P w = .ok (.pointer (some ⟨b,o+z.toNat * te.size,none⟩)) w:=by
    intro b o len cap k z hz hz2
    simp only [Instr.indexAt,Sem.run_bind,asIntOf,Sem.run_pure,Result.andThen_ok,run_underlying hu,he,Bool.and_false]
    simp only [hz,hz2,and_self,if_true,Sem.run_bind,run_sizeOf hi',hse,Result.andThen_ok,Sem.run_pure,addr_add0]
   simp only [stepOut] at h
   split at h
   ·next y k z hev hez =>
    split at h
    ·next p A hA =>
     obtain ⟨rfl,rfl⟩:=h
     obtain ⟨hp,hz,hz2⟩:=hvc
     refine pv rfl fun E hs=>?_
     obtain ⟨ba,cap,hχ,hl,hm,hcell⟩:=hs.arr (pkN_at hA hp)
     rcases hcell with h0 | ⟨b,off,rfl,_,hcell⟩
     ·omega
     simp only [opd_den hs hx hev,opd_den hs hii hez,den_c,SC.den,hχ,hia _ _ _ _ _ _ hz hz2]
     simp
    ·exact h.elim
   ·next y s o n c k z hev hez =>
    split at h
    ·next p A hA =>
     obtain ⟨rfl,rfl⟩:=h
     obtain ⟨hp,rfl,hz,hz2,hon⟩:=hvc
     refine pv rfl fun E hs=>?_
     obtain ⟨ba,cap,hχ,hl,hm,hcell⟩:=hs.arr (pkN_at hA hp)
     rcases hcell with h0 | ⟨b,off,rfl,_,hcell⟩
     ·omega
     rw [opd_den hs hx hev,opd_den hs hii hez,den_c,den_c,den_v,den_xs hχ]
     simp only [Option.map_some,addr_add0]
     rw [hia _ _ _ _ _ _ hz hz2]
     simp only [den_c,SC.den,hχ,Nat.add_mul,Nat.add_zero,Nat.add_assoc]
    ·exact h.elim
   ·next y s o n c k z hev hez =>
    split at h
    ·next p m s' f ty hlook =>
     obtain ⟨rfl,rfl⟩:=h
     obtain ⟨hp,rfl,hz,hz2,hon⟩:=hvc
     refine pv rfl fun E hs=>?_
     obtain ⟨H,hH,_⟩:=hs.mem
     obtain ⟨hν,_,_⟩:=ar_cell hH (pkN_at hlook hp) (show o<m by omega)
     rw [opd_den hs hx hev,opd_den hs hii hez,den_c,den_c,den_v,den_sl,hν]
     simp only [Bool.false_eq_true,if_false]
     rw [hia _ _ _ _ _ _ hz hz2,den_c,den_pe,Nat.add_mul,Nat.add_zero]
    ·exact h.elim
   ·exact h.elim
  ·next len e he =>
   simp only [Option.bind_eq_some_iff,Option.map_eq_some_iff] at hc
   obtain ⟨te,hte,ix,hx,ii,hii,rfl⟩:=hc
   obtain ⟨_,i',hi',_,hse,_⟩:=ti_parts hT hte
   have hia:∀ (b o:Nat) (k:IntKind) (z:Int),0≤z→z<len→(Instr.indexAt t (.pointer (some ⟨b,o,none⟩)) (.int k z)).run P w = .ok (.pointer (some ⟨b,o+z.toNat * te.size,none⟩)) w:=by
    intro b o k z hz hz2
    simp only [Instr.indexAt,Sem.run_bind,asIntOf,Sem.run_pure,Result.andThen_ok,run_underlying hu,he,Instr.sureAddr]
    simp only [hz,hz2,and_self,if_true,Sem.run_bind,run_sizeOf hi',hse,Result.andThen_ok,Sem.run_pure,addr_add0]
   simp only [stepOut] at h
   split at h
   ·next y off k z hev hez =>
    obtain ⟨rfl,rfl⟩:=h
    exact pv rfl fun E hs=>by rw [opd_den hs hx hev,opd_den hs hii hez,den_c,den_c,den_v,den_ptr,hia _ _ _ _ hvc.1 hvc.2,den_c,den_ptr]
   ·next y s k z hev hez =>
    split at h
    ·next hss =>
     obtain ⟨rfl,rfl⟩:=h
     exact pv rfl fun E hs=>by
      rw [opd_den hs hx hev,opd_den hs hii hez,den_c,den_c,den_v,den_pe,hia _ _ _ _ hvc.1 hvc.2,den_c,den_pe,hss]
      simp
    ·obtain ⟨rfl,rfl⟩:=h
     exact pv rfl fun E hs=>by
      rw [opd_den hs hx hev,opd_den hs hii hez,den_c,den_c,den_v,den_pe,hia _ _ _ _ hvc.1 hvc.2,den_c,den_pe]
      simp
   ·next y s k j k' z _ hev hez =>
    obtain ⟨rfl,rfl⟩:=h
    exact pv rfl fun E hs=>by rw [opd_den hs hx hev,opd_den hs hii hez,den_c,den_c,den_v,den_pe,hia _ _ _ _ hvc.1 hvc.2,den_c,den_pe,Nat.add_assoc]
   ·next y s k j k' z hev hez =>
    split at h
    ·next p A hA =>
     obtain ⟨rfl,rfl⟩:=h
     obtain ⟨hp,hk,hz,hz2⟩:=hvc
     refine pv rfl fun E hs=>?_
     obtain ⟨ba,cap,hχ,hl,hm,hcell⟩:=hs.arr (pkN_at hA hp)
     rcases hcell with h0 | ⟨b,off,rfl,_,hcell⟩
     ·omega
     simp only [opd_den hs hx hev,opd_den hs hii hez,den_c,SC.den,hχ,hia _ _ _ _ hz hz2]
     simp [Nat.add_assoc]
    ·exact h.elim
   ·exact h.elim
  ·cases hc
 case index t x i =>
  simp only [Option.bind_eq_some_iff] at hc
  obtain ⟨ti,hti,hc⟩:=hc
  obtain ⟨hu,_⟩:=ti_parts hT hti
  split at hc
  ·next len e he =>
   simp only [Option.bind_eq_some_iff,Option.map_eq_some_iff] at hc
   obtain ⟨te,hte,ix,hx,ii,hii,rfl⟩:=hc
   obtain ⟨hue,i',hi',_,hse,_⟩:=ti_parts hT hte
   simp only [stepOut] at h
   split at h
   ·next cs k z hev hez =>
    have run:0≤z→z<len→∀ E,Sat B W w0 E S a w→(Instr.index t (a.eval x) (a.eval i)).run P w=(part e (cs.map (SC.den E)).toArray (z.toNat * te.size)).run P w:=by
     intro hz hz2 E hs
     simp only [opd_den hs hx hev,opd_den hs hii hez,den_agg,den_c,den_v,Instr.index,Sem.run_bind,asIntOf,Sem.run_pure,run_underlying hu,Result.andThen_ok,he]
     simp only [hz,hz2,and_self,if_true,Sem.run_bind,run_sizeOf hi',hse,Result.andThen_ok]
    cases hd:isAggD te.desc with
    | true =>
     rw [hd,if_pos rfl] at h
     obtain ⟨rfl,rfl⟩:=h
     refine pv rfl fun E hs=>?_
     rw [run hvc.1 hvc.2 E hs]
     simp only [part,Sem.run_bind,run_isAgg hue,hd,if_true,run_sizeOf hi',hse,Result.andThen_ok,Sem.run_pure,den_agg,take'_eq,drop'_eq]
     congr 2
     apply Array.ext'
     simp [List.extract_eq_take_drop]
    | false =>
     rw [hd,if_neg (by simp)] at h
     split at h
     ·next c hnn =>
      obtain ⟨rfl,rfl⟩:=h
      refine pv rfl fun E hs=>?_
      rw [nth_eq] at hnn
      rw [run hvc.1 hvc.2 E hs]
      simp only [part,Sem.run_bind,run_isAgg hue,hd,Result.andThen_ok]
      simp [hnn,den_c]
     ·exact h.elim
   ·exact h.elim
  ·cases hc
 case extract x i =>
  simp only [Option.map_eq_some_iff] at hc
  obtain ⟨ix,hx,rfl⟩:=hc
  simp only [stepOut] at h
  split at h
  ·next l hev =>
   have hg:∀ p,nth l i=some p→∀ E,Sat B W w0 E S a w→(Instr.extract (a.eval x) i).run P w = .ok (den1 E p) w:=by
    intro p hp E hs
    rw [nth_eq] at hp
    simp [opd_den hs hx hev,den_tup,Instr.extract,hp]
   split at h
   ·next cs hnn =>
    obtain ⟨rfl,rfl⟩:=h
    exact pv rfl fun E hs=>hg _ hnn E hs
   ·next c r hnn =>
    obtain ⟨rfl,rfl⟩:=h
    exact pv rfl fun E hs=>hg _ hnn E hs
   ·exact h.elim
  ·exact h.elim
 case call c =>
  have bi:∀ {b:Builtin} {s:Sem Value},c.callee = .builtin b→(∀ w2,(builtin b c.argTypes o.type (c.args.map fun | .const _=>true | _=>false) (c.args.map a.eval)).run P w2=(do pure (Next.value (← s)):Sem Next).run P w2) →
    (do let d ← resolve a.eval c o.type;invoke d.target d.args:Sem Next).run P w=(do pure (Next.value (← s)):Sem Next).run P w:=by
   intro b s hb hr
   simp only [resolve,hb,Sem.run_bind,Sem.run_pure,Result.andThen_ok,invoke]
   have:=hr w
   simp only [Sem.run_bind] at this
   exact this
  split at hc
  ·next f hcl =>
   simp only [Option.map_eq_some_iff] at hc
   obtain ⟨_,_,rfl⟩:=hc
   simp only [stepOut] at h
   exact h.elim
  ·next f hcl =>
   simp only [Option.map_eq_some_iff] at hc
   obtain ⟨_,_,rfl⟩:=hc
   simp only [stepOut] at h
   exact h.elim
  ·next f hcl =>
   simp only [Option.bind_eq_some_iff,Option.map_eq_some_iff] at hc
   obtain ⟨_,_,_,_,rfl⟩:=hc
   simp only [stepOut] at h
   exact h.elim
  ·next hcl =>
   split at hc
   ·next x t hxs hts =>
    simp only [Option.bind_eq_some_iff] at hc
    obtain ⟨ti,hti,hc⟩:=hc
    split at hc
    ·next e he =>
     simp only [Option.map_eq_some_iff] at hc
     obtain ⟨ix,hx,rfl⟩:=hc
     obtain ⟨hu,_⟩:=ti_parts hT hti
     have ea:c.args.map a.eval = #[a.eval x]:=by apply Array.ext';simp [hxs]
     have et:c.argTypes = #[t]:=by apply Array.ext';simp [hts]
     have run:∀ (ba:Option Addr) (n cap:Nat),a.eval x = .slice ba n cap→(Builtin.len_ #[t] o.type #[a.eval x]).run P w = .ok (.int .i64 n) w:=by
      intro ba n cap hv
      rw [hv]
      simp [Builtin.len_,run_underlying hu,he,goInt]
     rw [bi (s:=Builtin.len_ #[t] o.type #[a.eval x]) hcl (fun w2=>by rw [ea,et];rfl)]
     simp only [stepOut] at h
     split at h
     ·next y hev =>
      split at h
      ·next p A hA =>
       obtain ⟨rfl,rfl⟩:=h
       refine pv rfl fun E hs=>?_
       obtain ⟨ba,cap,hχ,_⟩:=hs.arr (pkN_at hA hvc)
       rw [run ba A.len cap (by rw [opd_den hs hx hev,den_c,den_xv,hχ]),den_c,den_v]
      ·exact h.elim
     ·next y s o' n cc hev =>
      split at h
      ·next p A hA =>
       obtain ⟨rfl,rfl⟩:=h
       refine pv rfl fun E hs=>?_
       obtain ⟨ba,cap,hχ,_⟩:=hs.arr (pkN_at hA hvc)
       rw [run _ n _ (by rw [opd_den hs hx hev,den_c,den_xs hχ]),den_c,den_v]
      ·exact h.elim
     ·next y s o' n cc hev =>
      obtain ⟨rfl,rfl⟩:=h
      exact pv rfl fun E hs=>by rw [run _ n _ (by rw [opd_den hs hx hev,den_c,den_sl]),den_c,den_v]
     ·next ba n cap hev =>
      obtain ⟨rfl,rfl⟩:=h
      exact pv rfl fun E hs=>by rw [run ba n cap (by rw [opd_den hs hx hev,den_c,den_v]),den_c,den_v]
     ·exact h.elim
    ·cases hc
   ·cases hc
  ·next hcl =>
   split at hc
   ·next s x t u hxs hts =>
    simp only [Option.bind_eq_some_iff] at hc
    obtain ⟨ti,hti,tu,htu,hc⟩:=hc
    split at hc
    ·next e e' he he' =>
     simp only [Option.bind_eq_some_iff,Option.map_eq_some_iff] at hc
     obtain ⟨te,hte,is,his,ix,hx,rfl⟩:=hc
     have ea:c.args.map a.eval = #[a.eval s,a.eval x]:=by apply Array.ext';simp [hxs]
     have et:c.argTypes = #[t,u]:=by apply Array.ext';simp [hts]
     rw [bi (s:=Builtin.append_ #[t,u] o.type #[a.eval s,a.eval x]) hcl (fun w2=>by rw [ea,et];rfl)]
     exact app_ok hT hti he htu he' hte his hx h hvc hs
    ·cases hc
   ·cases hc
  ·next hcl =>
   split at hc
   ·next s x t u hxs hts =>
    simp only [Option.bind_eq_some_iff] at hc
    obtain ⟨ti,hti,tu,htu,hc⟩:=hc
    split at hc
    ·next e e' he he' =>
     simp only [Option.bind_eq_some_iff,Option.map_eq_some_iff] at hc
     obtain ⟨te,hte,is,his,ix,hx,rfl⟩:=hc
     have ea:c.args.map a.eval = #[a.eval s,a.eval x]:=by apply Array.ext';simp [hxs]
     have et:c.argTypes = #[t,u]:=by apply Array.ext';simp [hts]
     rw [bi (s:=Builtin.copy_ #[t,u] o.type #[a.eval s,a.eval x]) hcl (fun w2=>by rw [ea,et];rfl)]
     exact cpy_ok (e':=0) (tu:=te) hT hti he hte his hx h hvc hs
    ·cases hc
   ·cases hc
  ·next hcl =>
   split at hc
   ·next x y hxs =>
    simp only [Option.bind_eq_some_iff,Option.map_eq_some_iff] at hc
    obtain ⟨ix,hx,iy,hy,rfl⟩:=hc
    have ea:c.args.map a.eval = #[a.eval x,a.eval y]:=by apply Array.ext';simp [hxs]
    rw [bi (s:=Builtin.max_ c.argTypes o.type #[a.eval x,a.eval y]) hcl (fun w2=>by rw [ea];rfl)]
    simp only [stepOut] at h
    split at h
    ·next k p k' q hp hq =>
     split at h
     ·obtain ⟨rfl,rfl⟩:=h
      refine pv rfl fun E hs=>?_
      rw [opd_den hs hx hp,opd_den hs hy hq,den_c,den_c,den_v,den_v,den_c,den_v]
      rfl
     ·exact h.elim
    ·exact h.elim
   ·cases hc
  ·next hcl =>
   split at hc
   ·next x y hxs =>
    simp only [Option.bind_eq_some_iff,Option.map_eq_some_iff] at hc
    obtain ⟨ix,hx,iy,hy,rfl⟩:=hc
    have ea:c.args.map a.eval = #[a.eval x,a.eval y]:=by apply Array.ext';simp [hxs]
    rw [bi (s:=Builtin.min_ c.argTypes o.type #[a.eval x,a.eval y]) hcl (fun w2=>by rw [ea];rfl)]
    simp only [stepOut] at h
    split at h
    ·next k p k' q hp hq =>
     split at h
     ·obtain ⟨rfl,rfl⟩:=h
      refine pv rfl fun E hs=>?_
      rw [opd_den hs hx hp,opd_den hs hy hq,den_c,den_c,den_v,den_v,den_c,den_v]
      rfl
     ·exact h.elim
    ·exact h.elim
   ·cases hc
  ·cases hc
end
end Go.Proofs.Ytcloeignccpljaa.Z
