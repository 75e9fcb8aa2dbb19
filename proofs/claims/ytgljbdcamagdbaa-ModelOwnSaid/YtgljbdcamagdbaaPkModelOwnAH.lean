/- ModelOwnSaid: what its proof is made of. No condition. -/
import Derived.Test.YtgljbdcamagdbaaPkModelOwnAG
set_option linter.unusedSimpArgs false
set_option linter.unusedVariables false
namespace Go.Proofs.Ytgljbdcamagdbaa.Z
open Go Go.RowKit
section
variable {P:Program} {T:TT} {B:Nat} {W:Nat→Prop} {w0:World} {E:Env} {S:St} {a:Act} {w:World}
def KeyT (P:Program) (kt:TypeId):KK→Prop
 | .int k=>P.underlying kt=some (.int k)
 | .arr n k=>∃ e i,P.underlying kt=some (.array n e)∧P.underlying e=some (.int k)∧P.info? e=some i∧i.size=1
theorem enc_int {k:IntKind} {a:List Int} (h:a.length=1):∃ n,a=[n]∧KK.enc (.int k) a = .int k n:=by
 match a,h with
 | [n],_=>exact ⟨n,rfl,rfl⟩
theorem eqItems_ints {e:TypeId} {k:IntKind} (hue:P.underlying e=some (.int k)) (d:Nat) (a b:List Int) (hl:a.length=b.length):∀ (n j:Nat),j+n=a.length →
  (Op.eqItems (d+1) e 1 (a.map (Value.int k)).toArray (b.map (Value.int k)).toArray (List.range' j n)).run P w = .ok (a.drop j == b.drop j) w
 | 0,j,h=>by
  have e1:a.drop j=[]:=List.drop_eq_nil_of_le (by omega)
  have e2:b.drop j=[]:=List.drop_eq_nil_of_le (by omega)
  rw [e1,e2]
  rfl
 | n+1,j,h=>by
  have hp:∀ c:List Int,(hj:j<c.length)→(part e (c.map (Value.int k)).toArray (j * 1)).run P w = .ok (.int k c[j]) w:=by
   intro c hj
   simp only [part,Sem.run_bind,run_isAgg hue,isAggD,Result.andThen_ok,Bool.false_eq_true,if_false]
   simp [hj]
  have ha:j<a.length:=by omega
  have hb:j<b.length:=by omega
  rw [List.range'_succ]
  simp only [Op.eqItems,Sem.run_bind,hp a ha,hp b hb,Result.andThen_ok,run_equalIn_int w d e k k _ _ hue]
  rw [List.drop_eq_getElem_cons ha,List.drop_eq_getElem_cons hb]
  have ih:=eqItems_ints hue d a b hl n (j+1) (by omega)
  have hbeq:(a[j] :: a.drop (j+1) == b[j] :: b.drop (j+1))=((a[j] == b[j]) && (a.drop (j+1) == b.drop (j+1))):=rfl
  rw [hbeq]
  cases h1:a[j] == b[j] with
  | true=>simpa using ih
  | false=>simp
theorem key_eq {kt:TypeId} {kk:KK} (hk:KeyT P kt kk) {a b:List Int} (ha:a.length=kk.len) (hb:b.length=kk.len):(Op.equal kt (kk.enc a) (kk.enc b)).run P w = .ok (a == b) w:=by
 cases kk with
 | int k =>
  obtain ⟨n,rfl,e1⟩:=enc_int (k:=k) ha
  obtain ⟨m,rfl,e2⟩:=enc_int (k:=k) hb
  rw [e1,e2]
  unfold Op.equal
  have:=run_equalIn_int (P:=P) w 9999 kt k k n m hk
  rw [show Op.maxDepth=9999+1 from rfl,this]
  congr 1
  simp
 | arr n k =>
  obtain ⟨e,i,h1,h2,h3,h4⟩:=hk
  unfold Op.equal
  rw [show Op.maxDepth=9999+1 from rfl]
  simp only [KK.enc]
  rw [run_equalIn_array (w:=w) 9999 _ _ h1 h3,show P.cellsOf e=1 by simp [Program.cellsOf,h3,h4]]
  have:=eqItems_ints (P:=P) (w:=w) h2 9998 a b (by rw [ha,hb]) n 0 (by rw [ha];simp [KK.len])
  rw [List.range_eq_range',this]
  simp
theorem run_checkKey {kt:TypeId} {kk:KK} (hk:KeyT P kt kk) {a:List Int} (ha:a.length=kk.len) (em:Bool):(Instr.checkKey em 10000 kt (kk.enc a)).run P w = .ok () w:=by
 cases kk with
 | int k =>
  obtain ⟨n,rfl,e1⟩:=enc_int (k:=k) ha
  rw [e1]
  have hk:P.underlying kt=some (.int k):=hk
  unfold Instr.checkKey
  simp [run_underlying hk]
 | arr n k =>
  obtain ⟨e,i,h1,h2,h3,h4⟩:=hk
  have hla:a.length=n:=ha
  unfold Instr.checkKey
  simp only [Sem.run_bind,run_underlying h1,Result.andThen_ok,KK.enc]
  rw [Std.Legacy.Range.forIn_eq_forIn_range']
  simp only [Std.Legacy.Range.size,Nat.sub_zero,Nat.add_one_sub_one,Nat.div_one]
  have key:∀ (m j:Nat),j+m=n→(forIn (m:=Sem) (List.range' j m) PUnit.unit fun i _=>do
    Instr.checkKey em 9999 e (← part e (a.map (Value.int k)).toArray (i * (← sizeOf e)))
    pure (ForInStep.yield PUnit.unit)).run P w = .ok PUnit.unit w:=by
   intro m
   induction m with
   | zero=>intro j _;rfl
   | succ m ih =>
    intro j hj
    have hp:(part e (a.map (Value.int k)).toArray (j * 1)).run P w = .ok (.int k (a[j]'(by omega))) w:=by
     simp only [part,Sem.run_bind,run_isAgg h2,isAggD,Result.andThen_ok,Bool.false_eq_true,if_false]
     have:j<a.length:=by omega
     simp [this]
    rw [List.range'_succ,List.forIn_cons]
    have hck:(Instr.checkKey em 9999 e (.int k (a[j]'(by omega)))).run P w = .ok () w:=by
     unfold Instr.checkKey
     simp [run_underlying h2]
    simp only [Sem.run_bind,run_sizeOf h3,h4,Result.andThen_ok,hp,hck,Sem.run_pure]
    exact ih (j+1) (by omega)
  have:=key n 0 (by omega)
  rw [this]
  rfl
theorem run_findKey' {kt:TypeId} {kk:KK} (hk:KeyT P kt kk) (kd:IntKind) {a:List Int} (ha:a.length=kk.len) (L:List MEnt) (hL:∀ e∈L,e.key.length=kk.len) :
  (Instr.findKey kt (kk.enc a) (L.map (MEnt.den kk kd))).run P w = .ok ((fnd a L 0).map fun p=>(p.1,Value.int kd p.2)) w:=by
 cases kk with
 | int k =>
  obtain ⟨n,rfl,e1⟩:=enc_int (k:=k) ha
  have hk:P.underlying kt=some (.int k):=hk
  have key:∀ (L:List MEnt) (i:Nat),(∀ e∈L,e.key.length=1)→Instr.findNow (.int k) (.int k n) (L.map (MEnt.den (.int k) kd)) i=some ((fnd [n] L i).map fun p=>(p.1,Value.int kd p.2)):=by
   intro L
   induction L with
   | nil=>intro i _;rfl
   | cons e r ih =>
    intro i h
    obtain ⟨m,e2,e3⟩:=enc_int (k:=k) (h e (by simp))
    simp only [List.map_cons,Instr.findNow,MEnt.den,e3]
    simp only [Instr.sameNow,if_true,fnd,e2,List.cons.injEq,and_true]
    by_cases hnm:n=m
    ·subst hnm
     simp
    ·have h1:(n == m)=false:=by simp [hnm]
     rw [h1,if_neg (fun h=>hnm h.symm)]
     exact ih (i+1) (fun e he=>h e (by simp [he]))
  rw [e1]
  unfold Instr.findKey
  simp only [Sem.run_bind,run_underlying hk,Result.andThen_ok,key L 0 hL,Sem.run_pure]
 | arr n k =>
  have hk':=hk
  obtain ⟨e,i,h1,h2,h3,h4⟩:=hk
  have key:∀ (L:List MEnt) (j:Nat),(∀ e∈L,e.key.length=n)→(Instr.findAsking kt (KK.enc (.arr n k) a) (L.map (MEnt.den (.arr n k) kd)) j).run P w = .ok ((fnd a L j).map fun p=>(p.1,Value.int kd p.2)) w:=by
   intro L
   induction L with
   | nil=>intro j _;rfl
   | cons x r ih =>
    intro j h
    have he:=key_eq (w:=w) hk' ha (h x (by simp))
    simp only [List.map_cons,Instr.findAsking,MEnt.den,Sem.run_bind,he,Result.andThen_ok,fnd]
    by_cases hx:x.key=a
    ·rw [if_pos hx]
     simp [hx]
    ·have h5:(a == x.key)=false:=by simp;exact fun h=>hx h.symm
     rw [if_neg hx,h5]
     exact ih (j+1) (fun e he=>h e (by simp [he]))
  unfold Instr.findKey
  simp only [Sem.run_bind,run_underlying h1,Result.andThen_ok]
  cases L with
  | nil=>simp [Instr.findNow,fnd]
  | cons x r =>
   have:Instr.findNow (.array n e) (KK.enc (.arr n k) a) ((x :: r).map (MEnt.den (.arr n k) kd)) 0=none:=by
    simp [Instr.findNow,Instr.sameNow]
   rw [this]
   exact key (x :: r) 0 hL
theorem mapKind_ok {T:TT} (hT:TOk P T) {t:Nat} {kk:KK} {kd:IntKind} (h:mapKind T t=some (kk,kd)):∃ kt et,P.underlying t=some (.map kt et)∧KeyT P kt kk∧∀ w:World,(zeroValue et).run P w = .ok (.int kd 0) w:=by
 unfold mapKind at h
 simp only [Option.bind_eq_some_iff] at h
 obtain ⟨ti,hti,h⟩:=h
 split at h
 ·next k e hd =>
  simp only [Option.bind_eq_some_iff] at h
  obtain ⟨tk,htk,te,hte,h⟩:=h
  obtain ⟨hu,_⟩:=ti_parts hT hti
  obtain ⟨huk,_⟩:=ti_parts hT htk
  obtain ⟨hue,ie,hie,hze,_⟩:=ti_parts hT hte
  refine ⟨k,e,by rw [hu,hd],?_⟩
  have zero:∀ kd',zEq te.zero (.int kd' 0)=true→∀ w:World,(zeroValue e).run P w = .ok (.int kd' 0) w:=by
   intro kd' hz w
   rw [run_zeroValue hie hze,zEq_eq hz]
  split at h
  ·next kd' hkd =>
   split at h
   ·next kk' hkk =>
    split at h
    ·next hz =>
     simp only [Option.some.injEq,Prod.mk.injEq] at h
     obtain ⟨rfl,rfl⟩:=h
     exact ⟨by rw [KeyT,huk,hkk],zero _ hz⟩
    ·cases h
   ·next n x hkk =>
    simp only [Option.bind_eq_some_iff] at h
    obtain ⟨tx,htx,h⟩:=h
    obtain ⟨hux,ix,hix,_,hsx,_⟩:=ti_parts hT htx
    split at h
    ·next kk' hxx =>
     split at h
     ·next hz =>
      simp only [Bool.and_eq_true,beq_iff_eq] at hz
      simp only [Option.some.injEq,Prod.mk.injEq] at h
      obtain ⟨rfl,rfl⟩:=h
      exact ⟨⟨x,ix,by rw [huk,hkk],by rw [hux,hxx],hix,by rw [hsx,hz.1.2]⟩,zero _ hz.1.1⟩
     ·cases h
    ·cases h
   ·cases h
  ·cases h
 ·cases h
theorem intsOf_den {k:IntKind}:∀ {l:List SC} {a:List Int},intsOf k l=some a→∀ E:Env,l.map (SC.den E)=a.map (Value.int k)
 | [],a,h,E=>by
  simp only [intsOf,Option.some.injEq] at h
  subst h
  rfl
 | c :: r,a,h,E=>by
  unfold intsOf at h
  split at h
  ·next heq=>cases heq
  ·next k' n r' heq =>
   cases heq
   split at h
   ·next hk =>
    simp only [Option.map_eq_some_iff] at h
    obtain ⟨b,hb,rfl⟩:=h
    rw [List.map_cons,List.map_cons,den_v,hk,intsOf_den hb E]
   ·cases h
  ·cases h
theorem keyOf_den {kk:KK} {v:SV} {a:List Int} (h:keyOf kk v=some a) (E:Env):v.den E=kk.enc a:=by
 unfold keyOf at h
 split at h
 ·split at h
  ·next hk =>
   simp only [Option.some.injEq] at h
   subst h
   rw [den_c,den_v,hk];rfl
  ·cases h
 ·rw [den_agg,intsOf_den h E];rfl
 ·cases h
theorem mp_heap {own:Own} {H:Nm→PH} (hH:HeapOk B W E own H w) {x:Nm} {kk:KK} {kd:IntKind} {f:List Int→Option Int} (h:atN own x=some (.mp kk kd f)) :
  ∃ es clock,H x=sing (E.ρ x) (.map es clock)∧w.heap[E.ρ x]? = some (.map es clock)∧MapOk kk kd f es clock:=by
 have h1:=hH.den x _ h
 simp only [Blk.den] at h1
 obtain ⟨es,clock,h2,h3⟩:=h1
 exact ⟨es,clock,h2,(hH.sub x _ h (E.ρ x) _ (by rw [h2];simp [sing])).1,h3⟩
theorem run_getObj {r:Nat} {es:Array MapEntry} {clock:Nat} (h:w.heap[r]? = some (.map es clock)):(getObj r).run P w = .ok (.map es clock) w:=by
 simp [getObj,Sem.run,h]
theorem mkm_ok {t:Nat} {kk:KK} {kd:IntKind} (hT:TOk P T) (hk:mapKind T t=some (kk,kd)) {vc:Prop} {out:Out} (h:(stepOut (.mkm kk kd) S).Sel vc out) :
  ∃ v w',RunsTo ((do pure (Next.value (← Instr.makeMap t none)):Sem Next).run P w) v w'∧After B W w0 E [] S a w out.val out.cnt out.eff out.arrs v w':=by
 simp only [stepOut] at h
 obtain ⟨rfl,rfl⟩:=h
 have hr:(Instr.makeMap t none).run P w = .ok (.map (some w.heap.size)) (w.alloc (.map #[] 0)):=by
  simp [Instr.makeMap]
 refine det_after (one1 w.heap.size 0 false) (one1_one _ _ _) ⟨_,_,Or.inl (run_val hr)⟩ fun E2 hs2 hag=>?_
 have hE:=one1_at hag
 refine ⟨w.alloc (.map #[] 0),Or.inl ?_,fits_alloc (o:=.map #[] 0) ?_ _ (Or.inl rfl)⟩
 ·rw [run_val hr,den_c]
  simp only [SC.den,hE.1]
 ·simp only [Blk.den,hE.1]
  exact ⟨#[],0,rfl,[],rfl,fun e he=>(by cases he),List.nodup_nil,fun a _=>rfl,List.nodup_nil⟩
theorem lkp_ok {t:Nat} {kk:KK} {kd:IntKind} {ok:Bool} {m k:Operand} {im ik:IX} (hT:TOk P T) (hk:mapKind T t=some (kk,kd)) (hm:opd m=some im) (hki:opd k=some ik) {vc:Prop} {out:Out} (h:(stepOut (.lkp kk kd ok im ik) S).Sel vc out) (hvc:vc) :
  ∃ val,out=pureO val∧∀ E,Sat B W w0 E S a w→(Instr.lookup t (a.eval m) (a.eval k) ok).run P w = .ok (val.den E) w:=by
 obtain ⟨kt,et,hu,hkt,hz⟩:=mapKind_ok hT hk
 simp only [stepOut] at h
 split at h
 ·next x kv hev hkv =>
  split at h
  ·next p kk' kd' f b hlook hkey =>
   obtain ⟨rfl,rfl⟩:=h
   obtain ⟨hp,rfl,rfl,hbl⟩:=hvc
   refine ⟨_,rfl,fun E hs=>?_⟩
   obtain ⟨H,hH,_⟩:=hs.mem
   obtain ⟨es,clock,_,hb,L,rfl,hL,hnd,hf,_⟩:=mp_heap hH (pkN_at hlook hp)
   have hfk:=run_findKey' (w:=w) hkt kd' hbl L (fun e he=>(hL e he).1)
   rw [opd_den hs hm hev,opd_den hs hki hkv,keyOf_den hkey,den_c]
   simp only [SC.den,Instr.lookup,Sem.run_bind,run_underlying hu,Result.andThen_ok,run_getObj hb,Sem.run_pure,run_checkKey hkt hbl,hfk,hz,hf b hbl]
   cases fnd b L 0 with
   | none=>cases ok <;> simp [hz,SV.den,SC.den,den1]
   | some q=>cases ok <;> simp [SV.den,SC.den,den1]
  ·next p kk' kd' g b hlook hkey =>
   split at h
   ·exact h.elim
   ·next hok =>
    have hok:ok=false:=by simpa using hok
    subst hok
    obtain ⟨rfl,rfl⟩:=h
    obtain ⟨hp,rfl,rfl,hbl⟩:=hvc
    refine ⟨_,rfl,fun E hs=>?_⟩
    obtain ⟨H,hH,_⟩:=hs.mem
    have h1:=hH.den x _ (pkN_at hlook hp)
    simp only [Blk.den] at h1
    obtain ⟨es,clock,h2,f,⟨L,rfl,hL,hnd,hf,_⟩,hg⟩:=h1
    have hb:=(hH.sub x _ (pkN_at hlook hp) (E.ρ x) (.map (L.map (MEnt.den kk' kd')).toArray clock) (by rw [h2];simp [sing])).1
    have hfk:=run_findKey' (w:=w) hkt kd' hbl L (fun e he=>(hL e he).1)
    rw [opd_den hs hm hev,opd_den hs hki hkv,keyOf_den hkey,den_c,← hg b hbl]
    simp only [SC.den,Instr.lookup,Sem.run_bind,run_underlying hu,Result.andThen_ok,run_getObj hb,Sem.run_pure,run_checkKey hkt hbl,hfk,hz,hf b hbl]
    cases fnd b L 0 with
    | none=>simp [hz,SV.den,SC.den,den1]
    | some q=>simp [SV.den,SC.den,den1]
  ·exact h.elim
 ·exact h.elim
theorem fnd_get {a:List Int}:∀ {L:List MEnt} {i j:Nat} {v:Int},fnd a L i=some (j,v)→i≤j∧∃ e,L[j - i]? = some e∧e.key=a∧e.val=v
 | [],i,j,v,h=>by cases h
 | e :: r,i,j,v,h=>by
  simp only [fnd] at h
  split at h
  ·next hk =>
   cases h
   exact ⟨Nat.le_refl _,e,by simp,hk,rfl⟩
  ·obtain ⟨h1,x,h2,h3,h4⟩:=fnd_get h
   refine ⟨by omega,x,?_,h3,h4⟩
   rw [show j - i=(j - (i+1))+1 by omega]
   simpa using h2
theorem fnd_none {a:List Int}:∀ {L:List MEnt} {i:Nat},fnd a L i=none→∀ e∈L,e.key≠a
 | [],i,h,e,he=>by cases he
 | x :: r,i,h,e,he=>by
  simp only [fnd] at h
  split at h
  ·cases h
  ·next hk =>
   rcases List.mem_cons.1 he with rfl | he
   ·exact hk
   ·exact fnd_none h e he
def MEnt.set (a:List Int) (n:Int) (e:MEnt):MEnt:=if e.key=a then ⟨e.key,n,e.born⟩ else e
theorem fnd_set {a b:List Int} {n:Int}:∀ {L:List MEnt} {i:Nat},fnd b (L.map (MEnt.set a n)) i=(fnd b L i).map fun p=>(p.1,if b=a then n else p.2)
 | [],i=>rfl
 | e :: r,i=>by
  have hk:(MEnt.set a n e).key=e.key:=by unfold MEnt.set;split <;> rfl
  simp only [List.map_cons,fnd,hk]
  split
  ·next h =>
   simp only [Option.map_some,Option.some.injEq,Prod.mk.injEq,true_and]
   unfold MEnt.set
   rw [h]
   split <;> rfl
  ·exact fnd_set
theorem fnd_push {b:List Int} (e:MEnt):∀ {L:List MEnt} {i:Nat},fnd b (L++[e]) i=(fnd b L i).or (if e.key=b then some (i+L.length,e.val) else none)
 | [],i=>by simp only [List.nil_append,fnd,List.length_nil,Nat.add_zero];rfl
 | x :: r,i=>by
  simp only [List.cons_append,fnd]
  split
  ·rfl
  ·rw [fnd_push e]
   simp only [List.length_cons]
   rw [show i+1+r.length=i+(r.length+1) by omega]
theorem modify_set {a:List Int} {n:Int} {L:List MEnt} {j:Nat} {e:MEnt} (hnd:(L.map (·.key)).Nodup) (hj:L[j]? = some e) (hk:e.key=a):L.modify j (fun e=>⟨e.key,n,e.born⟩)=L.map (MEnt.set a n):=by
 apply List.ext_getElem?
 intro i
 rw [List.getElem?_modify,List.getElem?_map]
 cases hi:L[i]? with
 | none=>simp
 | some x =>
  by_cases e1:j=i
  ·subst e1
   rw [hi] at hj
   cases hj
   simp [MEnt.set,hk]
  ·simp only [e1,if_false,Option.map_some,Option.some.injEq]
   have:x.key≠a:=by
    intro h
    apply e1
    have h1:(L.map (·.key))[j]? = some a:=by rw [List.getElem?_map,hj,← hk];rfl
    have h2:(L.map (·.key))[i]? = some a:=by rw [List.getElem?_map,hi,← h];rfl
    have hjl:j<(L.map (·.key)).length:=(List.getElem?_eq_some_iff.1 h1).1
    exact (List.getElem?_inj hjl hnd).1 (h1.trans h2.symm)
   unfold MEnt.set
   rw [if_neg this]
   rfl
theorem sameBits_enc {kk:KK} {a:List Int} (h:a.length=kk.len):Instr.sameBits 10000 (kk.enc a) (kk.enc a)=true:=by
 cases kk with
 | int k =>
  obtain ⟨n,rfl,e1⟩:=enc_int (k:=k) h
  rw [e1]
  simp [Instr.sameBits]
 | arr n k =>
  simp only [KK.enc,Instr.sameBits,BEq.rfl,Bool.true_and,List.all_eq_true]
  intro p hp
  have:p.1=p.2:=by
   have hz:∀ l:List Value,∀ q∈l.zip l,q.1=q.2:=by
    intro l
    induction l with
    | nil=>intro q hq;simp at hq
    | cons x r ih =>
     intro q hq
     simp only [List.zip_cons_cons,List.mem_cons] at hq
     rcases hq with rfl | hq
     ·rfl
     ·exact ih q hq
   exact hz _ p hp
  obtain ⟨x,y⟩:=p
  simp only at this
  subst this
  have hx:=(List.of_mem_zip hp).1
  simp only [List.mem_map] at hx
  obtain ⟨z,_,rfl⟩:=hx
  simp [Instr.sameBits]
theorem born_push {kk:KK} {L:List MEnt} {clock:Nat} {b:List Int} {n:Int} (hL:∀ e∈L,e.key.length=kk.len∧e.born<clock) (hnb:(L.map (·.born)).Nodup):((L++[(⟨b,n,clock⟩:MEnt)]).map (·.born)).Nodup:=by
 rw [List.map_append,List.nodup_append]
 refine ⟨hnb,by simp,?_⟩
 intro q hq q' hq'
 simp only [List.map_cons,List.map_nil,List.mem_singleton] at hq'
 subst hq'
 obtain ⟨e,he,rfl⟩:=List.mem_map.1 hq
 have:=(hL e he).2
 omega
theorem born_set {a:List Int} {n:Int} {L:List MEnt}:(L.map (MEnt.set a n)).map (·.born)=L.map (·.born):=by
 rw [List.map_map]
 refine List.map_congr_left fun e _=>?_
 simp only [Function.comp,MEnt.set]
 split <;> rfl
theorem mup_ok {t:Nat} {kk:KK} {kd:IntKind} {m k v:Operand} {im ik iv:IX} (hT:TOk P T) (hk:mapKind T t=some (kk,kd)) (hm:opd m=some im) (hki:opd k=some ik) (hvi:opd v=some iv) {vc:Prop} {out:Out} (h:(stepOut (.mup kk kd im ik iv) S).Sel vc out) (hvc:vc) :
  out.val = .c (.v undef)∧out.cnt=0∧out.arrs=[]∧∀ E,Sat B W w0 E S a w→∃ w',(Instr.mapUpdate t (a.eval m) (a.eval k) (a.eval v)).run P w = .ok () w'∧Fits B W E S w w' out.eff []:=by
 obtain ⟨kt,et,hu,hkt,hz⟩:=mapKind_ok hT hk
 simp only [stepOut] at h
 split at h
 ·next x kv kd'' n hev hkv hvv =>
  split at h
  ·next p kk' kd' f b hlook hkey =>
   obtain ⟨rfl,rfl⟩:=h
   obtain ⟨hp,rfl,rfl,rfl,hbl⟩:=hvc
   refine ⟨rfl,rfl,rfl,fun E hs=>?_⟩
   obtain ⟨H,hH,_⟩:=hs.mem
   obtain ⟨es,clock,hHx,hb,L,rfl,hL,hnd,hf,hnb⟩:=mp_heap hH (pkN_at hlook hp)
   have hfk:=run_findKey' (w:=w) hkt kd'' hbl L (fun e he=>(hL e he).1)
   have hlt:E.ρ x<w.heap.size:=(Array.getElem?_eq_some_iff.1 hb).1
   have fin:∀ (es' : Array MapEntry) (clock' : Nat),MapOk kk' kd'' (fun q=>if q=b then some n else f q) es' clock'→Fits B W E S w { w with heap:=w.heap.setIfInBounds (E.ρ x) (.map es' clock') } (setN S.own x (.mp kk' kd'' fun q=>if q=b then some n else f q)) []:=by
    intro es' clock' hok
    refine fits_write (g:=E.ρ x) (o:=.map es' clock') hlook hp hlt (fun H hH=>?_) ?_ _ ⟨rfl,rfl,rfl⟩ (fun j=>?_)
    ·obtain ⟨es2,c2,g1,g2,_⟩:=mp_heap hH (pkN_at hlook hp)
     rw [g1,g2];rfl
    ·simp only [Blk.den]
     exact ⟨es',clock',rfl,hok⟩
    ·simp only [Array.getElem?_setIfInBounds]
     by_cases e:j=E.ρ x
     ·subst e;simp [hlt]
     ·simp [e,Ne.symm e]
   have hset:∀ es' clock',(setObj (E.ρ x) (.map es' clock')).run P w = .ok () { w with heap:=w.heap.setIfInBounds (E.ρ x) (.map es' clock') }:=by
    intro es' clock'
    simp [setObj,Sem.run,hb]
   rw [opd_den hs hm hev,opd_den hs hki hkv,opd_den hs hvi hvv,keyOf_den hkey,den_c,den_c,den_v]
   have run0:(Instr.mapUpdate t (SC.den E (.mp x)) (kk'.enc b) (.int kd'' n)).run P w=(match (fnd b L 0).map fun p=>(p.1,Value.int kd'' p.2) with
     | some (i,_)=>do
      let key ← Instr.keyThatStays (((((L.map (MEnt.den kk' kd'')).toArray)[i]?).map (·.key)).getD (kk'.enc b)) (kk'.enc b)
      setObj (E.ρ x) (.map (((L.map (MEnt.den kk' kd'')).toArray).modify i fun e=>{ e with key,val:=.int kd'' n }) clock)
     | none=>setObj (E.ρ x) (.map (((L.map (MEnt.den kk' kd'')).toArray).push { key:=kk'.enc b,val:=.int kd'' n,born:=clock }) (clock+1)):Sem Unit).run P w:=by
    simp only [SC.den,Instr.mapUpdate,Sem.run_bind,run_underlying hu,Result.andThen_ok,run_getObj hb,run_checkKey hkt hbl,hfk]
    cases fnd b L 0 <;> rfl
   rw [run0]
   cases hfd:fnd b L 0 with
   | none =>
    refine ⟨_,by simp only [Option.map_none];exact hset _ _,fin _ _ ⟨L++[⟨b,n,clock⟩],?_,?_,?_,?_,born_push hL hnb⟩⟩
    ·simp [MEnt.den]
    ·intro e he
     rcases List.mem_append.1 he with he | he
     ·have:=hL e he;exact ⟨this.1,by omega⟩
     ·simp only [List.mem_singleton] at he
      subst he
      exact ⟨hbl,by simp⟩
    ·rw [List.map_append,List.nodup_append]
     refine ⟨hnd,by simp,?_⟩
     intro q hq q' hq'
     simp only [List.map_cons,List.map_nil,List.mem_singleton] at hq'
     subst hq'
     obtain ⟨e,he,rfl⟩:=List.mem_map.1 hq
     exact fnd_none hfd e he
    ·intro q hq
     rw [fnd_push]
     by_cases e:q=b
     ·subst e
      rw [if_pos rfl,hfd]
      simp
     ·simp only [if_neg e,hf q hq]
      have:¬ b=q:=fun h=>e h.symm
      simp only [this,if_false,Option.or_none]
   | some pr =>
    obtain ⟨i,v0⟩:=pr
    obtain ⟨_,e0,h1,h2,h3⟩:=fnd_get hfd
    rw [Nat.sub_zero] at h1
    have hkey2:(((L.map (MEnt.den kk' kd'')).toArray)[i]?).map (·.key)=some (kk'.enc b):=by
     simp [h1,MEnt.den,h2]
    have hmod:((L.map (MEnt.den kk' kd'')).toArray).modify i (fun e=>{ e with key:=kk'.enc b,val:=.int kd'' n })=((L.map (MEnt.set b n)).map (MEnt.den kk' kd'')).toArray:=by
     rw [← modify_set hnd h1 h2]
     apply Array.ext'
     simp only [Array.toList_modify]
     apply List.ext_getElem?
     intro j
     simp only [List.getElem?_modify,List.getElem?_map]
     by_cases e:i=j
     ·subst e
      simp [h1,MEnt.den,h2]
     ·simp [e]
    refine ⟨_,by
     simp only [Option.map_some,Sem.run_bind,hkey2,Option.getD_some,Instr.keyThatStays,sameBits_enc hbl,if_true,Sem.run_pure,Result.andThen_ok]
     exact hset _ _,fin _ _ ⟨L.map (MEnt.set b n),hmod,?_,?_,?_,by rw [born_set];exact hnb⟩⟩
    ·intro e he
     obtain ⟨e',he',rfl⟩:=List.mem_map.1 he
     have:=hL e' he'
     unfold MEnt.set
     split <;> exact this
    ·have:(L.map (MEnt.set b n)).map (·.key)=L.map (·.key):=by
      rw [List.map_map]
      refine List.map_congr_left fun e _=>?_
      simp only [Function.comp,MEnt.set]
      split <;> rfl
     rw [this];exact hnd
    ·intro q hq
     rw [fnd_set]
     by_cases e:q=b
     ·subst e
      simp [hfd]
     ·simp only [if_neg e,hf q hq]
      cases fnd q L 0 <;> simp [e]
  ·exact h.elim
 ·exact h.elim
theorem enc_inj {kk:KK} {a b:List Int} (ha:a.length=kk.len) (hb:b.length=kk.len) (h:kk.enc a=kk.enc b):a=b:=by
 cases kk with
 | int k =>
  obtain ⟨n,rfl,e1⟩:=enc_int (k:=k) ha
  obtain ⟨m,rfl,e2⟩:=enc_int (k:=k) hb
  rw [e1,e2] at h
  simp only [Value.int.injEq,true_and] at h
  rw [h]
 | arr n k =>
  simp only [KK.enc,Value.agg.injEq,Array.mk.injEq] at h
  exact (List.map_inj_right (fun x y e=>by simpa using e)).1 h
theorem modify_key {kk:KK} {kd:IntKind} {L:List MEnt} {i:Nat} {b:List Int} {e0:MEnt} (h1:L[i]? = some e0) (h2:e0.key=b):((L.map (MEnt.den kk kd)).toArray).modify i (fun e=>{ e with key:=kk.enc b })=(L.map (MEnt.den kk kd)).toArray:=by
 apply Array.ext'
 simp only [Array.toList_modify]
 apply List.ext_getElem?
 intro j
 simp only [List.getElem?_modify,List.getElem?_map]
 by_cases e:i=j
 ·subst e
  simp [h1,MEnt.den,h2]
 ·simp [e]
theorem ent_ok {t:Nat} {kk:KK} {kd:IntKind} {m k:Operand} {im ik:IX} (hT:TOk P T) (hk:mapKind T t=some (kk,kd)) (hm:opd m=some im) (hki:opd k=some ik) {vc:Prop} {out:Out} (h:(stepOut (.ent kk kd im ik) S).Sel vc out) (hvc:vc) (hs0:Sat B W w0 E S a w) :
  ∃ v w',RunsTo ((do pure (Next.value (← Instr.mapEntry t (a.eval m) (a.eval k))):Sem Next).run P w) v w'∧After B W w0 E [] S a w out.val out.cnt out.eff out.arrs v w':=by
 obtain ⟨kt,et,hu,hkt,hz⟩:=mapKind_ok hT hk
 simp only [stepOut] at h
 split at h
 ·next x kv hev hkv =>
  split at h
  ·next p kk' kd' f b hlook hkey =>
   obtain ⟨rfl,rfl⟩:=h
   obtain ⟨hp,rfl,rfl,hbl⟩:=hvc
   -- what it comes to,under any reading of the names
   have key:∀ E,Sat B W w0 E S a w→∃ (born:Nat) (w' : World),(Instr.mapEntry t (a.eval m) (a.eval k)).run P w = .ok (.tuple #[.int kd' ((f b).getD 0),.int .i64 born]) w' ∧
     ∀ y,E.χ y = .int .i64 born→Fits B W E S w w' (setN S.own x (.mpe kk' kd' f b y)) []:=by
    intro E hs
    obtain ⟨H,hH,_⟩:=hs.mem
    obtain ⟨es,clock,hHx,hb,L,rfl,hL,hnd,hf,hnb⟩:=mp_heap hH (pkN_at hlook hp)
    have hfk:=run_findKey' (w:=w) hkt kd' hbl L (fun e he=>(hL e he).1)
    have hlt:E.ρ x<w.heap.size:=(Array.getElem?_eq_some_iff.1 hb).1
    have fin:∀ (es' : Array MapEntry) (clock' : Nat) (y:Nm),(Blk.mpe kk' kd' f b y).den E x (sing (E.ρ x) (.map es' clock'))→Fits B W E S w { w with heap:=w.heap.setIfInBounds (E.ρ x) (.map es' clock') } (setN S.own x (.mpe kk' kd' f b y)) []:=by
     intro es' clock' y hden
     refine fits_write (g:=E.ρ x) (o:=.map es' clock') hlook hp hlt (fun H hH=>?_) hden _ ⟨rfl,rfl,rfl⟩ (fun j=>?_)
     ·obtain ⟨es2,c2,g1,g2,_⟩:=mp_heap hH (pkN_at hlook hp)
      rw [g1,g2];rfl
     ·simp only [Array.getElem?_setIfInBounds]
      by_cases e:j=E.ρ x
      ·subst e;simp [hlt]
      ·simp [e,Ne.symm e]
    have hset:∀ es' clock',(setObj (E.ρ x) (.map es' clock')).run P w = .ok () { w with heap:=w.heap.setIfInBounds (E.ρ x) (.map es' clock') }:=by
     intro es' clock'
     simp [setObj,Sem.run,hb]
    rw [opd_den hs hm hev,opd_den hs hki hkv,keyOf_den hkey,den_c]
    have run0:(Instr.mapEntry t (SC.den E (.mp x)) (kk'.enc b)).run P w=(match (fnd b L 0).map fun p=>(p.1,Value.int kd' p.2) with
      | some (i,v)=>do
       let key ← Instr.keyThatStays (((((L.map (MEnt.den kk' kd')).toArray)[i]?).map (·.key)).getD (kk'.enc b)) (kk'.enc b)
       setObj (E.ρ x) (.map (((L.map (MEnt.den kk' kd')).toArray).modify i fun e=>{ e with key }) clock)
       pure (.tuple #[v,goInt (((((L.map (MEnt.den kk' kd')).toArray)[i]?).map (·.born)).getD 0)])
      | none=>do
       let zero ← zeroValue et
       setObj (E.ρ x) (.map (((L.map (MEnt.den kk' kd')).toArray).push { key:=kk'.enc b,val:=zero,born:=clock }) (clock+1))
       pure (.tuple #[zero,goInt clock]):Sem Value).run P w:=by
     simp only [SC.den,Instr.mapEntry,Sem.run_bind,run_underlying hu,Result.andThen_ok,run_getObj hb,run_checkKey hkt hbl,hfk]
     cases fnd b L 0 <;> rfl
    rw [run0]
    cases hfd:fnd b L 0 with
    | none =>
     have hf0:f b=none:=by rw [hf b hbl,hfd];rfl
     refine ⟨clock,_,by simp only [Option.map_none,Sem.run_bind,hz,Result.andThen_ok,hset,Sem.run_pure,hf0,Option.getD_none];rfl,fun y hy=>fin _ _ y ?_⟩
     refine ⟨_,_,rfl,⟨L++[⟨b,0,clock⟩],by simp [MEnt.den],?_,?_,?_,born_push hL hnb⟩,L.length,⟨kk'.enc b,.int kd' 0,clock⟩,by simp,rfl,hy⟩
     ·intro e he
      rcases List.mem_append.1 he with he | he
      ·have:=hL e he;exact ⟨this.1,by omega⟩
      ·simp only [List.mem_singleton] at he
       subst he
       exact ⟨hbl,by simp⟩
     ·rw [List.map_append,List.nodup_append]
      refine ⟨hnd,by simp,?_⟩
      intro q hq q' hq'
      simp only [List.map_cons,List.map_nil,List.mem_singleton] at hq'
      subst hq'
      obtain ⟨e,he,rfl⟩:=List.mem_map.1 hq
      exact fnd_none hfd e he
     ·intro q hq
      rw [fnd_push]
      by_cases e:q=b
      ·subst e
       rw [if_pos rfl,hfd,hf0]
       simp
      ·simp only [if_neg e,hf q hq]
       have:¬ b=q:=fun h=>e h.symm
       simp only [this,if_false,Option.or_none]
    | some pr =>
     obtain ⟨i,v0⟩:=pr
     obtain ⟨_,e0,h1,h2,h3⟩:=fnd_get hfd
     rw [Nat.sub_zero] at h1
     have hf0:f b=some v0:=by rw [hf b hbl,hfd];rfl
     have hkey2:(((L.map (MEnt.den kk' kd')).toArray)[i]?).map (·.key)=some (kk'.enc b):=by
      simp [h1,MEnt.den,h2]
     have hborn:(((L.map (MEnt.den kk' kd')).toArray)[i]?).map (fun x=>(x.born:Int))=some (e0.born:Int):=by
      simp [h1,MEnt.den]
     have hfe:(fun q=>if q=b then some ((f b).getD 0) else f q)=f:=by
      funext q
      by_cases e:q=b
      ·subst e;rw [if_pos rfl,hf0];rfl
      ·rw [if_neg e]
     refine ⟨e0.born,_,by
      simp only [Option.map_some,Sem.run_bind,hkey2,hborn,Option.getD_some,Instr.keyThatStays,sameBits_enc hbl,if_true,Sem.run_pure,Result.andThen_ok,modify_key h1 h2,hset,hf0];rfl,fun y hy=>fin _ _ y ?_⟩
     refine ⟨_,_,rfl,by rw [hfe];exact ⟨L,rfl,hL,hnd,hf,hnb⟩,i,e0.den kk' kd',by simp [h1],by simp [MEnt.den,h2],hy⟩
   obtain ⟨born,w1,h1,_⟩:=key E hs0
   refine det_after ⟨fun _=>0,fun _=>0,fun _=>false,fun _=>.int .i64 born⟩ (fun _=>rfl) ⟨_,_,Or.inl (run_val h1)⟩ fun E2 hs2 hag=>?_
   have hχ:E2.χ (S.nid,0,0) = .int .i64 born:=(hag (S.nid,0,0) ⟨Nat.le_refl _,Nat.lt_succ_self _⟩).2.2.2
   obtain ⟨born2,w2,g1,g2⟩:=key E2 hs2
   have he:born2=born∧w2=w1:=by
    rw [h1] at g1
    simp only [Result.ok.injEq,Value.tuple.injEq,Array.mk.injEq,List.cons.injEq,Value.int.injEq,true_and,and_true] at g1
    exact ⟨by omega,g1.2.symm⟩
   obtain ⟨rfl,rfl⟩:=he
   refine ⟨w2,Or.inl ?_,g2 _ hχ⟩
   rw [run_val h1]
   simp [SV.den,den1,SC.den,hχ]
  ·exact h.elim
 ·exact h.elim
theorem ests_ok {t:Nat} {kk:KK} {kd:IntKind} {m s v:Operand} {im is iv:IX} (hm:opd m=some im) (hsi:opd s=some is) (hvi:opd v=some iv) {vc:Prop} {out:Out} (h:(stepOut (.ests kk kd im is iv) S).Sel vc out) (hvc:vc) :
  out.val = .c (.v undef)∧out.cnt=0∧out.arrs=[]∧∀ E,Sat B W w0 E S a w→∃ w',(Instr.entryStore t (a.eval m) (a.eval s) (a.eval v)).run P w = .ok () w'∧Fits B W E S w w' out.eff []:=by
 simp only [stepOut] at h
 split at h
 ·next x y kd'' n hev hsv hvv =>
  split at h
  ·next p kk' kd' f b y' hlook =>
   obtain ⟨rfl,rfl⟩:=h
   obtain ⟨hp,rfl,rfl,rfl,rfl,hbl⟩:=hvc
   refine ⟨rfl,rfl,rfl,fun E hs=>?_⟩
   obtain ⟨H,hH,_⟩:=hs.mem
   have hden:∀ H,HeapOk B W E S.own H w→∃ es clock,H x=sing (E.ρ x) (.map es clock)∧w.heap[E.ρ x]? = some (.map es clock)∧MapOk kk' kd'' (fun q=>if q=b then some ((f b).getD 0) else f q) es clock∧∃ (i:Nat) (e:MapEntry),es[i]? = some e∧e.key=kk'.enc b∧E.χ y' = .int .i64 e.born:=fun H hH=>by
    have h1:=hH.den x _ (pkN_at hlook hp)
    simp only [Blk.den] at h1
    obtain ⟨es,clock,h2,h3⟩:=h1
    exact ⟨es,clock,h2,(hH.sub x _ (pkN_at hlook hp) (E.ρ x) _ (by rw [h2];simp [sing])).1,h3⟩
   obtain ⟨es,clock,hHx,hb,⟨L,rfl,hL,hnd,hf,hnb⟩,i,e,hi,hke,hχ⟩:=hden H hH
   have hlt:E.ρ x<w.heap.size:=(Array.getElem?_eq_some_iff.1 hb).1
   -- the entry
   obtain ⟨e0,h1,rfl⟩:∃ e0,L[i]? = some e0∧e=e0.den kk' kd'':=by
    simp only [List.getElem?_toArray,List.getElem?_map,Option.map_eq_some_iff] at hi
    obtain ⟨e0,h1,h2⟩:=hi
    exact ⟨e0,h1,h2.symm⟩
   have hi0:i<L.length:=(List.getElem?_eq_some_iff.1 h1).1
   have hk0:e0.key=b:=enc_inj ((hL e0 (List.mem_of_getElem? h1)).1) hbl hke
   have hfi:((L.map (MEnt.den kk' kd'')).toArray).findIdx? (fun e=>(e.born:Int) == (e0.born:Int))=some i:=by
    rw [List.findIdx?_toArray,List.findIdx?_map]
    rw [List.findIdx?_eq_some_iff_getElem]
    refine ⟨hi0,?_,fun j hj=>?_⟩
    ·have:L[i]=e0:=by rw [List.getElem?_eq_getElem hi0] at h1;exact Option.some.inj h1
     simp [Function.comp,MEnt.den,this]
    ·have:L[i]=e0:=by rw [List.getElem?_eq_getElem hi0] at h1;exact Option.some.inj h1
     simp only [Function.comp,MEnt.den,beq_iff_eq]
     intro hc
     have hjl:j<L.length:=by omega
     have hc:(L[j].born:Int)=e0.born:=by simpa using hc
     have hc:L[j].born=e0.born:=by omega
     have q1:(L.map (·.born))[j]? = some e0.born:=by rw [List.getElem?_map,List.getElem?_eq_getElem hjl];simp [hc]
     have q2:(L.map (·.born))[i]? = some e0.born:=by rw [List.getElem?_map,h1];rfl
     have:=(List.getElem?_inj (by simpa using hjl) hnb).1 (q1.trans q2.symm)
     omega
   have hmod:((L.map (MEnt.den kk' kd'')).toArray).modify i (fun e=>{ e with val:=.int kd'' n })=((L.map (MEnt.set b n)).map (MEnt.den kk' kd'')).toArray:=by
    rw [← modify_set hnd h1 hk0]
    apply Array.ext'
    simp only [Array.toList_modify]
    apply List.ext_getElem?
    intro j
    simp only [List.getElem?_modify,List.getElem?_map]
    by_cases e:i=j
    ·subst e
     simp [h1,MEnt.den]
    ·simp [e]
   have hfb:∃ q,fnd b L 0=some q:=by
    cases hq:fnd b L 0 with
    | none=>exact absurd hk0 (fnd_none hq e0 (List.mem_of_getElem? h1))
    | some q=>exact ⟨q,rfl⟩
   have hok:MapOk kk' kd'' (fun q=>if q=b then some n else f q) (((L.map (MEnt.set b n)).map (MEnt.den kk' kd'')).toArray) clock:=by
    refine ⟨L.map (MEnt.set b n),rfl,?_,?_,?_,by rw [born_set];exact hnb⟩
    ·intro e he
     obtain ⟨e',he',rfl⟩:=List.mem_map.1 he
     have:=hL e' he'
     unfold MEnt.set
     split <;> exact this
    ·have:(L.map (MEnt.set b n)).map (·.key)=L.map (·.key):=by
      rw [List.map_map]
      refine List.map_congr_left fun e _=>?_
      simp only [Function.comp,MEnt.set]
      split <;> rfl
     rw [this];exact hnd
    ·intro q hq
     rw [fnd_set]
     by_cases e:q=b
     ·subst e
      obtain ⟨q',hq'⟩:=hfb
      simp [hq']
     ·have:=hf q hq
      simp only [if_neg e] at this ⊢
      rw [this]
      cases fnd q L 0 <;> simp [e]
   refine ⟨{ w with heap:=w.heap.setIfInBounds (E.ρ x) (.map (((L.map (MEnt.set b n)).map (MEnt.den kk' kd'')).toArray) clock) },?_,?_⟩
   ·rw [opd_den hs hm hev,opd_den hs hsi hsv,opd_den hs hvi hvv,den_c,den_c,den_c,den_v,den_xv,hχ]
    simp only [SC.den,Instr.entryStore,Sem.run_bind,run_getObj hb,Result.andThen_ok]
    have has:(asInt (.int .i64 ((MEnt.den kk' kd'' e0).born:Int))).run P w = .ok (e0.born:Int) w:=rfl
    simp only [has,Result.andThen_ok,hfi,hmod]
    simp [setObj,Sem.run,hb]
   ·refine fits_write (g:=E.ρ x) (o:=.map (((L.map (MEnt.set b n)).map (MEnt.den kk' kd'')).toArray) clock) hlook hp hlt (fun H hH=>?_) ?_ _ ⟨rfl,rfl,rfl⟩ (fun j=>?_)
    ·obtain ⟨es2,c2,g1,g2,_⟩:=hden H hH
     rw [g1,g2];rfl
    ·simp only [Blk.den]
     exact ⟨_,_,rfl,hok⟩
    ·simp only [Array.getElem?_setIfInBounds]
     by_cases e:j=E.ρ x
     ·subst e;simp [hlt]
     ·simp [e,Ne.symm e]
  ·exact h.elim
 ·exact h.elim
end
end Go.Proofs.Ytgljbdcamagdbaa.Z
