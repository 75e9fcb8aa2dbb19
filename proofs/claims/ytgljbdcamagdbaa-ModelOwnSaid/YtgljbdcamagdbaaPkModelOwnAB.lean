/- ModelOwnSaid: what its proof is made of. No condition. -/
import Derived.Test.YtgljbdcamagdbaaPkModelOwnAA
set_option linter.unusedSimpArgs false
set_option linter.unusedVariables false
namespace Go.Proofs.Ytgljbdcamagdbaa
open Go.RowKit
def cntF:List Bool→Nat
 | []=>0
 | b :: r=>(if b then 0 else 1)+cntF r
theorem cntF_set:∀ (l:List Bool) (i:Nat),l[i]? = some false→cntF (l.set i true)+1=cntF l
 | [],i,h=>by simp at h
 | b :: r,0,h=>by simp at h;subst h;simp [cntF];omega
 | b :: r,i+1,h=>by
  have:=cntF_set r i (by simpa using h)
  simp only [List.set_cons_succ,cntF];omega
theorem cntF_zero:∀ (l:List Bool),cntF l=0→∀ i,l.getD i true=true
 | [],_,i=>by simp
 | b :: r,h,0=>by cases b <;> simp_all [cntF]
 | b :: r,h,i+1=>by
  have:=cntF_zero r (by simp only [cntF] at h;omega) i
  simpa using this
theorem cntF_replicate (n:Nat):cntF (List.replicate n false)=n:=by
 induction n with
 | zero=>rfl
 | succ n ih=>simp only [List.replicate_succ,cntF,ih];simp;omega
section
variable {P:Program} {ops:Array Oper} {Q:Exit→Act→World→Prop}
theorem wpAny_inv {I:Array Bool→Act→World→Prop}
  (hstep:∀ listed a w i,I listed a w→i∈Region.ready .any ops listed→wpOp P ops Q i (I (listed.setIfInBounds i true)) a w)
  (hfin:∀ listed a w,I listed a w→Region.ready .any ops listed=[]→Q .normal a w)
  : ∀ (fuel:Nat) (listed:Array Bool) (a:Act) (w:World),cntF listed.toList≤fuel→I listed a w→wpAny P .any ops Q fuel listed a w:=by
 intro fuel
 induction fuel with
 | zero =>
  intro listed a w hc hI
  have h0:Region.ready .any ops listed=[]:=by
   rw [List.eq_nil_iff_forall_not_mem]
   intro j hj
   obtain ⟨h1,_⟩:=mem_ready.1 hj
   have:=cntF_zero listed.toList (by omega) j
   have e:listed.getD j true=listed.toList.getD j true:=by simp [Array.getD_eq_getD_getElem?]
   rw [e,this] at h1
   cases h1
  exact ⟨h0,hfin _ _ _ hI h0⟩
 | succ fuel ih =>
  intro listed a w hc hI
  refine ⟨fun h0=>hfin _ _ _ hI h0,fun i hi=>wpOp_mono (fun a' w' hI'=>ih _ _ _ ?_ hI') (hstep _ _ _ _ hI hi)⟩
  obtain ⟨h1,_⟩:=mem_ready.1 hi
  have h2:listed.toList[i]? = some false:=by
   rw [Array.getElem?_toList]
   cases h:listed[i]? with
   | none=>rw [Array.getD_eq_getD_getElem?,h] at h1;cases h1
   | some b=>rw [Array.getD_eq_getD_getElem?,h] at h1;simp at h1;rw [h1]
  have:=cntF_set _ _ h2
  rw [Array.toList_setIfInBounds]
  omega
theorem getD_set_true' {listed:Array Bool} {i j:Nat} (h:listed.getD j true=true):(listed.setIfInBounds i true).getD j true=true:=by
 by_cases hij:i=j
 ·subst hij
  by_cases hl:i<listed.size <;> simp [Array.getD_eq_getD_getElem?,hl]
 ·rw [getD_set_ne _ hij];exact h
def slotOf (a:Act):Option Tmp→Value
 | some d=>a.tmps.getD d undef
 | none=>undef
def Region.headOk (ops:Array Oper) (n size:Nat):Bool :=
 (List.range ops.size).all fun i=>match ops[i]? with
  | none=>false
  | some o =>
   (o.after.all fun e=>!Region.binds .any e || decide (e.on<i)) &&
   (decide (n≤i) || (match o.dst with | some d=>decide (d<size) && (List.range i).all (fun j=>match ops[j]? with | some o'=>o'.dst != some d | none=>true) | none=>false)) &&
   (decide (i<n) || (List.range i).all fun j=>o.after.any fun e=>Region.binds .any e && e.on == j)
theorem Region.headOk_spec {n size:Nat} (h:Region.headOk ops n size=true) (i:Nat) (o:Oper) (ho:ops[i]? = some o) :
  (∀ e∈o.after,Region.binds .any e=true→e.on<i) ∧
  (i<n→∃ d,o.dst=some d∧d<size∧∀ j o',j<i→ops[j]? = some o'→o'.dst≠some d) ∧
  (n≤i→∀ j,j<i→∃ e∈o.after,Region.binds .any e=true∧e.on=j):=by
 unfold Region.headOk at h
 rw [List.all_eq_true] at h
 have hlt:i<ops.size:=(Array.getElem?_eq_some_iff.1 ho).1
 have h1:=h i (List.mem_range.2 hlt)
 rw [ho] at h1
 simp only [Bool.and_eq_true,Bool.or_eq_true,decide_eq_true_eq] at h1
 obtain ⟨⟨ha,hb⟩,hc⟩:=h1
 refine ⟨?_,?_,?_⟩
 ·intro e he hbe
  rw [Array.all_eq_true_iff_forall_mem] at ha
  have:=ha e he
  simpa [hbe] using this
 ·intro hin
  have hb:=hb.resolve_left (by omega)
  cases hd:o.dst with
  | none=>rw [hd] at hb;simp at hb
  | some d =>
   rw [hd] at hb
   simp only [Bool.and_eq_true,decide_eq_true_eq,List.all_eq_true,List.mem_range] at hb
   refine ⟨d,rfl,hb.1,fun j o' hj ho'=>?_⟩
   have:=hb.2 j hj
   rw [ho'] at this
   simpa using this
 ·intro hin j hj
  have hc:=hc.resolve_left (by omega)
  rw [List.all_eq_true] at hc
  have:=hc j (List.mem_range.2 hj)
  rw [← Array.any_toList,List.any_eq_true] at this
  obtain ⟨e,he,h2⟩:=this
  have he:=Array.mem_toList_iff.1 he
  simp only [Bool.and_eq_true,beq_iff_eq] at h2
  exact ⟨e,he,h2.1,h2.2⟩
def putN (ops:Array Oper) (vs:Nat→Value):Nat→Act→Act
 | 0,a=>a
 | n+1,a=>(putN ops vs n a).put ((ops[n]?).bind (·.dst)) (vs n)
theorem put_defers (a:Act) (d:Option Tmp) (v:Value):(a.put d v).defers=a.defers:=by cases d <;> rfl
theorem put_size (a:Act) (d:Option Tmp) (v:Value):(a.put d v).tmps.size=a.tmps.size:=by cases d <;> simp [Act.put]
theorem put_same (a:Act) (d:Tmp) (v:Value) (h:d<a.tmps.size):(a.put (some d) v).tmps.getD d undef=v:=by
 simp [Act.put,Array.getD_eq_getD_getElem?,h]
theorem put_other (a:Act) (d:Option Tmp) (v:Value) (t:Tmp) (h:d≠some t):(a.put d v).tmps.getD t undef=a.tmps.getD t undef:=by
 cases d with
 | none=>rfl
 | some d =>
  have:d≠t:=fun e=>h (by rw [e])
  simp [Act.put,Array.getD_eq_getD_getElem?,Array.getElem?_setIfInBounds_ne this]
theorem putN_spec {n size:Nat} (hB:Region.headOk ops n size=true) (vs:Nat→Value) (a:Act) (hs:a.tmps.size=size):∀ m,m≤n→m≤ops.size →
  (putN ops vs m a).defers=a.defers∧(putN ops vs m a).tmps.size=size ∧
  (∀ i o,i<m→ops[i]? = some o→slotOf (putN ops vs m a) o.dst=vs i) ∧
  (∀ t,(∀ i o,i<m→ops[i]? = some o→o.dst≠some t)→(putN ops vs m a).tmps.getD t undef=a.tmps.getD t undef):=by
 intro m
 induction m with
 | zero=>intro _ _;exact ⟨rfl,hs,fun i o h=>by omega,fun _ _=>rfl⟩
 | succ m ih =>
  intro hmn hms
  obtain ⟨h1,h2,h3,h4⟩:=ih (by omega) (by omega)
  obtain ⟨o,ho⟩:∃ o,ops[m]? = some o:=⟨_,Array.getElem?_eq_getElem (by omega)⟩
  obtain ⟨d,hd,hds,hdd⟩:=(Region.headOk_spec hB m o ho).2.1 (by omega)
  have e:(ops[m]?).bind (·.dst)=some d:=by rw [ho];exact hd
  simp only [putN,e]
  refine ⟨by rw [put_defers];exact h1,by rw [put_size];exact h2,?_,?_⟩
  ·intro i o' hi ho'
   by_cases him:i=m
   ·subst him
    rw [ho] at ho'
    cases ho'
    rw [hd]
    exact put_same _ _ _ (by rw [h2];exact hds)
   ·have hlt:i<m:=by omega
    obtain ⟨d',hd',_,_⟩:=(Region.headOk_spec hB i o' ho').2.1 (by omega)
    rw [← h3 i o' hlt ho',hd']
    exact put_other _ _ _ _ (fun e=>hdd i o' hlt ho' (by rw [hd',← e]))
  ·intro t ht
   rw [put_other _ _ _ _ (by rw [← hd];exact ht m o (by omega) ho)]
   exact h4 t (fun i o' hi=>ht i o' (by omega))
theorem act_ext {a b:Act} (h1:a.defers=b.defers) (h2:a.tmps.size=b.tmps.size) (h:∀ t,a.tmps.getD t undef=b.tmps.getD t undef):a=b:=by
 obtain ⟨ta,da⟩:=a
 obtain ⟨tb,db⟩:=b
 simp only at h1 h2 h
 subst h1
 have:ta=tb:=by
  apply Array.ext h2
  intro i hi hi'
  have:=h i
  simpa [Array.getD_eq_getD_getElem?,hi,hi'] using this
 rw [this]
theorem wp_region_facts {id:Nat} {a0:Act} {w0:World} (n:Nat) (Φ:Nat→Value→World→Prop) (R:World→World→Prop)
  (hm:P.follows .mixedOrders=true) (hB:Region.headOk ops n a0.tmps.size=true) (hn:n≤ops.size)
  (hrefl:∀ w,R w w) (htrans:∀ a b c,R a b→R b c→R a c)
  (hstab:∀ i v w w',Φ i v w→R w w'→Φ i v w')
  (hstep:∀ i o,i<n→ops[i]? = some o→∀ a w,R { w0 with drawn:=w0.drawn+1 } w→a.defers=a0.defers→a.tmps.size=a0.tmps.size →
   (∀ t,(∀ j o',j<n→ops[j]? = some o'→o'.dst≠some t)→a.tmps.getD t undef=a0.tmps.getD t undef) →
   (∀ e∈o.after,Region.binds .any e=true→∀ oj,ops[e.on]? = some oj→Φ e.on (slotOf a oj.dst) w) →
   if Region.wanted o (yielded ops a.tmps)=true then o.wp P a w (fun a' w'=>R w w'∧∃ v,a' = a.put o.dst v∧Φ i v w') Q else R w w∧Φ i undef w)
  (hfin:∀ (vs:Nat→Value) w,R { w0 with drawn:=w0.drawn+1 } w→(∀ i,i<n→Φ i (vs i) w)→wpOps P ops Q (List.range' n (ops.size - n)) (putN ops vs n a0) w) :
  (Code.region id ops true).wp P Q a0 w0:=by
 refine wp_region_any hm ?_
 let I1:Array Bool→Act→World→Prop:=fun listed a w =>
  R { w0 with drawn:=w0.drawn+1 } w∧a.defers=a0.defers∧a.tmps.size=a0.tmps.size ∧
  (∀ t,(∀ j o',j<n→ops[j]? = some o'→listed.getD j true=true→o'.dst≠some t)→a.tmps.getD t undef=a0.tmps.getD t undef) ∧
  (∀ i o,i<n→ops[i]? = some o→listed.getD i true=true→Φ i (slotOf a o.dst) w)∧(∀ j,n≤j→j<ops.size→listed.getD j true=false)
 let I2:Array Bool→Act→World→Prop:=fun listed a w=>∃ k,n≤k∧k≤ops.size∧(∀ j,j<k→listed.getD j false=true)∧(∀ j,k≤j→j<ops.size→listed.getD j true=false) ∧
  wpOps P ops Q (List.range' k (ops.size - k)) a w
 have hI12:∀ listed a w,listed.size=ops.size→I1 listed a w→(∀ j,j<n→listed.getD j true=true)→I2 listed a w:=by
  intro listed a w hsz ⟨hR,hdf,hts,hag,hΦ,htl⟩ hall
  refine ⟨n,Nat.le_refl _,hn,?_,htl,?_⟩
  ·intro j hj
   have:=hall j hj
   have hlt:j<listed.size:=by omega
   simpa [Array.getD_eq_getD_getElem?,hlt] using this
  ·have:=hfin (fun i=>slotOf a ((ops[i]?).bind (·.dst))) w hR (fun i hi=>by
    obtain ⟨o,ho⟩:∃ o,ops[i]? = some o:=⟨_,Array.getElem?_eq_getElem (by omega)⟩
    have:=hΦ i o hi ho (hall i hi)
    rw [ho];exact this)
   obtain ⟨g1,g2,g3,g4⟩:=putN_spec hB (fun i=>slotOf a ((ops[i]?).bind (·.dst))) a0 rfl n (Nat.le_refl _) hn
   have e:a=putN ops (fun i=>slotOf a ((ops[i]?).bind (·.dst))) n a0:=by
    refine act_ext (by rw [g1,hdf]) (by rw [g2,hts]) fun t=>?_
    by_cases ht:∃ i o,i<n∧ops[i]? = some o∧o.dst=some t
    ·obtain ⟨i,o,hi,ho,hd⟩:=ht
     have h3:=g3 i o hi ho
     rw [hd] at h3
     have h5:slotOf a ((ops[i]?).bind (·.dst))=a.tmps.getD t undef:=by rw [ho];show slotOf a o.dst=_;rw [hd];rfl
     exact (h3.trans h5).symm
    ·have hno:∀ i o,i<n→ops[i]? = some o→o.dst≠some t:=fun i o hi ho hd=>ht ⟨i,o,hi,ho,hd⟩
     rw [g4 t hno,hag t (fun j o' hj ho' _=>hno j o' hj ho')]
   rw [e];exact this
 have key:∀ (fuel:Nat) (listed:Array Bool) (a:Act) (w:World),cntF listed.toList≤fuel→(listed.size=ops.size∧(I1 listed a w∨I2 listed a w))→wpAny P .any ops Q fuel listed a w:=by
  refine wpAny_inv ?_ ?_
  ·rintro listed a w i ⟨hsz,hI⟩ hi
   obtain ⟨hi1,o,ho,hpre⟩:=mem_ready.1 hi
   have hlt:i<ops.size:=(Array.getElem?_eq_some_iff.1 ho).1
   have hsz' : (listed.setIfInBounds i true).size=ops.size:=by simpa using hsz
   have two:I2 listed a w→wpOp P ops Q i (fun a' w'=>(listed.setIfInBounds i true).size=ops.size∧(I1 (listed.setIfInBounds i true) a' w'∨I2 (listed.setIfInBounds i true) a' w')) a w:=by
    rintro ⟨k,hnk,hks,hlo,hhi,hw⟩
    have hik:i=k:=by
     rcases Nat.lt_trichotomy i k with h | h | h
     ·have h1:=hlo i h
      have hl:i<listed.size:=by omega
      simp [Array.getD_eq_getD_getElem?,hl] at h1 hi1
      rw [h1] at hi1;cases hi1
     ·exact h
     ·obtain ⟨e,he,hb,hon⟩:=(Region.headOk_spec hB i o ho).2.2 (by omega) k h
      have h1:=hpre e he hb
      rw [hon] at h1
      have h2:=hhi k (Nat.le_refl _) (by omega)
      have hl:k<listed.size:=by omega
      simp [Array.getD_eq_getD_getElem?,hl] at h1 h2
      rw [h1] at h2;cases h2
    subst hik
    rw [show ops.size - i=(ops.size - (i+1))+1 by omega,List.range'_succ,wpOps_cons] at hw
    refine wpOp_mono (fun a' w' h=>⟨hsz',Or.inr ⟨i+1,by omega,by omega,?_,?_,h⟩⟩) hw
    ·intro j hj
     by_cases hji:j=i
     ·subst hji
      have hl:j<listed.size:=by omega
      simp [Array.getD_eq_getD_getElem?,hl]
     ·rw [getD_set_ne _ (fun e=>hji e.symm)]
      exact hlo j (by omega)
    ·intro j hj hjs
     rw [getD_set_ne _ (by omega)]
     exact hhi j (by omega) hjs
   rcases hI with hI1 | hI2
   ·by_cases hin:i<n
    ·obtain ⟨hR,hdf,hts,hag,hΦ,htl⟩:=hI1
     have hs:=hstep i o hin ho a w hR hdf hts (fun t ht=>hag t (fun j o' hj ho' _=>ht j o' hj ho')) (fun e he hb oj hoj=>by
      have hj:=(Region.headOk_spec hB i o ho).1 e he hb
      have h1:=hpre e he hb
      have hl:e.on<listed.size:=by omega
      refine hΦ e.on oj (by omega) hoj ?_
      simp [Array.getD_eq_getD_getElem?,hl] at h1 ⊢
      exact h1)
     obtain ⟨d,hd,hds,hdd⟩:=(Region.headOk_spec hB i o ho).2.1 hin
     have next:∀ v w',R w w'→Φ i v w'→(listed.setIfInBounds i true).size=ops.size∧(I1 (listed.setIfInBounds i true) (a.put o.dst v) w'∨I2 (listed.setIfInBounds i true) (a.put o.dst v) w'):=by
      intro v w' hR' hv
      refine ⟨hsz',Or.inl ⟨htrans _ _ _ hR hR',by rw [put_defers];exact hdf,by rw [put_size];exact hts,?_,?_,?_⟩⟩
      ·intro t ht
       have hil:(listed.setIfInBounds i true).getD i true=true:=by simp [Array.getD_eq_getD_getElem?,(by omega:i<listed.size)]
       rw [put_other _ _ _ _ (ht i o hin ho hil)]
       exact hag t (fun j o' hj ho' hl=>ht j o' hj ho' (getD_set_true' hl))
      ·intro j o' hj ho' hl
       by_cases hji:j=i
       ·subst hji
        rw [ho] at ho'
        cases ho'
        rw [hd]
        show Φ j ((a.put (some d) v).tmps.getD d undef) w'
        rw [put_same _ _ _ (by rw [hts];exact hds)]
        exact hv
       ·rw [getD_set_ne _ (fun e=>hji e.symm)] at hl
        obtain ⟨d',hd',_,hdd'⟩:=(Region.headOk_spec hB j o' ho').2.1 hj
        have hne:(some d:Option Tmp)≠some d':=by
         rcases Nat.lt_or_gt_of_ne hji with h | h
         ·exact fun e=>hdd j o' h ho' (by rw [hd',← e])
         ·exact fun e=>hdd' i o h ho (by rw [hd,← e])
        have h1:=hstab _ _ _ _ (hΦ j o' hj ho' hl) hR'
        rw [hd'] at h1 ⊢
        show Φ j ((a.put o.dst v).tmps.getD d' undef) w'
        rw [hd,put_other _ _ _ _ hne]
        exact h1
      ·intro j hj hjs
       rw [getD_set_ne _ (by omega)]
       exact htl j hj hjs
     unfold wpOp
     simp only [ho]
     split
     ·rename_i hw
      rw [if_pos hw] at hs
      exact Or.inl (Oper.wp_mono (fun a' w' ⟨hR',v,e,hv⟩=>by rw [e];exact next v w' hR' hv) hs)
     ·rename_i hw
      rw [if_neg hw] at hs
      exact next undef w hs.1 hs.2
    ·refine two (hI12 listed a w hsz hI1 fun j hj=>?_)
     obtain ⟨e,he,hb,hon⟩:=(Region.headOk_spec hB i o ho).2.2 (by omega) j (by omega)
     have h1:=hpre e he hb
     rw [hon] at h1
     have hl:j<listed.size:=by omega
     simp [Array.getD_eq_getD_getElem?,hl] at h1 ⊢
     exact h1
   ·exact two hI2
  ·rintro listed a w ⟨hsz,hI⟩ h0
   have all:∀ j,j<ops.size→listed.getD j true=true:=by
    intro j
    induction j using Nat.strongRecOn with
    | _ j ih =>
     intro hj
     cases hb:listed.getD j true with
     | true=>rfl
     | false =>
      exfalso
      obtain ⟨o,ho⟩:∃ o,ops[j]? = some o:=⟨_,Array.getElem?_eq_getElem hj⟩
      have:j∈Region.ready .any ops listed:=mem_ready.2 ⟨hb,o,ho,fun e he hbe=>by
       have hlt:=(Region.headOk_spec hB j o ho).1 e he hbe
       have h1:=ih e.on hlt (by omega)
       have hl:e.on<listed.size:=by omega
       simp [Array.getD_eq_getD_getElem?,hl] at h1 ⊢
       exact h1⟩
      rw [h0] at this
      cases this
   have two:I2 listed a w→Q .normal a w:=by
    rintro ⟨k,hnk,hks,hlo,hhi,hw⟩
    have hk:k=ops.size:=by
     rcases Nat.lt_or_ge k ops.size with h | h
     ·have h1:=hhi k (Nat.le_refl _) h
      rw [all k h] at h1;cases h1
     ·omega
    subst hk
    simpa [wpOps] using hw
   rcases hI with hI1 | hI2
   ·exact two (hI12 listed a w hsz hI1 fun j hj=>all j (by omega))
   ·exact two hI2
 refine key ops.size _ a0 _ (by simp [cntF_replicate]) ⟨by simp,Or.inl ⟨hrefl _,rfl,rfl,fun _ _=>rfl,?_,?_⟩⟩
 ·intro i o hi ho hl
  have hlt:i<ops.size:=(Array.getElem?_eq_some_iff.1 ho).1
  simp [Array.getD_eq_getD_getElem?,hlt] at hl
 ·intro j _ hj
  simp [Array.getD_eq_getD_getElem?,hj]
def noDstB (ops:Array Oper) (n t:Nat):Bool:=(List.range n).all fun j=>match ops[j]? with | some o=>o.dst != some t | none=>true
theorem noDst {n t:Nat} (h:noDstB ops n t=true):∀ j o',j<n→ops[j]? = some o'→o'.dst≠some t:=by
 intro j o' hj ho
 unfold noDstB at h
 rw [List.all_eq_true] at h
 have:=h j (List.mem_range.2 hj)
 rw [ho] at this
 simpa using this
def StepsAt (P:Program) (ops:Array Oper) (Q:Exit→Act→World→Prop) (n:Nat) (Φ:Nat→Value→World→Prop) (R:World→World→Prop) (a0:Act) (w1:World):Nat→List Oper→Prop
 | _,[]=>True
 | i,o :: r=>(∀ a w,R w1 w→a.defers=a0.defers→a.tmps.size=a0.tmps.size →
   (∀ t,(∀ j o',j<n→ops[j]? = some o'→o'.dst≠some t)→a.tmps.getD t undef=a0.tmps.getD t undef) →
   (∀ e∈o.after,Region.binds .any e=true→∀ oj,ops[e.on]? = some oj→Φ e.on (slotOf a oj.dst) w) →
   if Region.wanted o (yielded ops a.tmps)=true then o.wp P a w (fun a' w'=>R w w'∧∃ v,a' = a.put o.dst v∧Φ i v w') Q else R w w∧Φ i undef w) ∧
  StepsAt P ops Q n Φ R a0 w1 (i+1) r
theorem StepsAt.get {n:Nat} {Φ:Nat→Value→World→Prop} {R:World→World→Prop} {a0:Act} {w1:World}:∀ (l:List Oper) (k:Nat),StepsAt P ops Q n Φ R a0 w1 k l→∀ j o,l[j]? = some o →
  ∀ a w,R w1 w→a.defers=a0.defers→a.tmps.size=a0.tmps.size →
   (∀ t,(∀ j o',j<n→ops[j]? = some o'→o'.dst≠some t)→a.tmps.getD t undef=a0.tmps.getD t undef) →
   (∀ e∈o.after,Region.binds .any e=true→∀ oj,ops[e.on]? = some oj→Φ e.on (slotOf a oj.dst) w) →
   if Region.wanted o (yielded ops a.tmps)=true then o.wp P a w (fun a' w'=>R w w'∧∃ v,a' = a.put o.dst v∧Φ (k+j) v w') Q else R w w∧Φ (k+j) undef w:=by
 intro l
 induction l with
 | nil=>intro k _ j o h;simp at h
 | cons x r ih =>
  intro k hs j o h
  cases j with
  | zero =>
   simp only [List.getElem?_cons_zero,Option.some.injEq] at h
   subst h
   exact hs.1
  | succ j =>
   have:=ih (k+1) hs.2 j o (by simpa using h)
   rw [show k+(j+1)=k+1+j by omega]
   exact this
theorem wp_region_facts_lit {id:Nat} {l:List Oper} {a0:Act} {w0:World} (n:Nat) (Φ:Nat→Value→World→Prop) (R:World→World→Prop)
  (hm:P.follows .mixedOrders=true) (hB:Region.headOk l.toArray n a0.tmps.size=true) (hn:n≤l.length)
  (hrefl:∀ w,R w w) (htrans:∀ a b c,R a b→R b c→R a c)
  (hstab:∀ i v w w',Φ i v w→R w w'→Φ i v w')
  (hstep:StepsAt P l.toArray Q n Φ R a0 w0.drew 0 (l.take n))
  (hfin:∀ (vs:Nat→Value) w,R w0.drew w→(∀ i,i<n→Φ i (vs i) w)→wpList P l.toArray Q (l.drop n) (putN l.toArray vs n a0) w) :
  (Code.region id l.toArray true).wp P Q a0 w0:=by
 refine wp_region_facts n Φ R hm hB (by simpa using hn) hrefl htrans hstab ?_ ?_
 ·intro i o hi ho a w hR hd hs hag hpre
  have:=StepsAt.get (l.take n) 0 hstep i o (by rw [List.getElem?_take,if_pos hi];simpa using ho) a w hR hd hs hag hpre
  rw [Nat.zero_add] at this
  exact this
 ·intro vs w hR hΦ
  have h:=hfin vs w hR hΦ
  have e:=wpOps_eq_wpList (P:=P) (ops:=l.toArray) (Q:=Q) (l.drop n) n (fun j=>by simp [List.getElem?_drop])
  rw [← e] at h
  simpa using h
theorem ext_refl (w:World):Below w.heap.size w w:=Below.refl _ _
theorem ext_trans (a b c:World) (h:Below a.heap.size a b) (k:Below b.heap.size b c):Below a.heap.size a c:=h.trans (k.mono h.size)
end
end Go.Proofs.Ytgljbdcamagdbaa
namespace Go.Proofs.Ytgljbdcamagdbaa
open Go.RowKit
def OwnD (w:World) (base:Nat) (v:Value) (m:MC):Prop :=
 ∃ a b c d e,v = .agg #[a,b,c,d,e]∧OwnE w base 3 eI 1 a m.cell∧OwnE w base 3 eI 1 b m.stack∧OwnE w base 3 eI 1 c m.queue∧OwnE w base 3 eI 1 d m.set∧OwnE w base 76 eP 2 e m.table
theorem OwnD.base {w:World} {base base' : Nat} {v:Value} {m:MC} (h:OwnD w base v m) (hb:base'≤base):OwnD w base' v m:=by
 obtain ⟨a,b,c,d,e,rfl,h1,h2,h3,h4,h5⟩:=h
 exact ⟨a,b,c,d,e,rfl,h1.base hb,h2.base hb,h3.base hb,h4.base hb,h5.base hb⟩
theorem OwnD.ext {w w' : World} {base:Nat} {v:Value} {m:MC} (h:OwnD w base v m) (hb:Below w.heap.size w w'):OwnD w' base v m:=by
 obtain ⟨a,b,c,d,e,rfl,h1,h2,h3,h4,h5⟩:=h
 exact ⟨a,b,c,d,e,rfl,h1.ext hb,h2.ext hb,h3.ext hb,h4.ext hb,h5.ext hb⟩
theorem OwnD.keep {w w' : World} {base g:Nat} {v:Value} {m:MC} (h:OwnD w base v m) (hg:w.grownBy w' (some g)) (hlt:g<base):OwnD w' base v m:=by
 obtain ⟨a,b,c,d,e,rfl,h1,h2,h3,h4,h5⟩:=h
 exact ⟨a,b,c,d,e,rfl,h1.keep hg hlt,h2.keep hg hlt,h3.keep hg hlt,h4.keep hg hlt,h5.keep hg hlt⟩
def RetD (W:World) (m:MC) (r:Ending) (w' : World):Prop:=∃ v',r = .returned v'∧OwnD w' W.heap.size v' m∧Below W.heap.size W w'
def PhiC (B bx:Nat) (a b c d e:Value) (m:MC):Nat→Value→World→Prop
 | 0,v,_=>∃ ba,v = .slice ba 0 0
 | 4,v,_=>∃ ba,v = .slice ba 0 0
 | 8,v,_=>∃ ba,v = .slice ba 0 0
 | 12,v,_=>∃ ba,v = .slice ba 0 0
 | 16,v,_=>∃ ba,v = .slice ba 0 0
 | 1,v,_=>v = .pointer (some ⟨bx,0,none⟩)
 | 5,v,_=>v = .pointer (some ⟨bx,1,none⟩)
 | 9,v,_=>v = .pointer (some ⟨bx,2,none⟩)
 | 13,v,_=>v = .pointer (some ⟨bx,3,none⟩)
 | 17,v,_=>v = .pointer (some ⟨bx,4,none⟩)
 | 2,v,_=>v=a
 | 6,v,_=>v=b
 | 10,v,_=>v=c
 | 14,v,_=>v=d
 | 18,v,_=>v=e
 | 3,v,w=>OwnE w B 3 eI 1 v m.cell
 | 7,v,w=>OwnE w B 3 eI 1 v m.stack
 | 11,v,w=>OwnE w B 3 eI 1 v m.queue
 | 15,v,w=>OwnE w B 3 eI 1 v m.set
 | 19,v,w=>OwnE w B 76 eP 2 v m.table
 | 20,v,w=>∃ p1 q1 p2 q2 p3 q3 p4 q4 p5 q5,v = .agg #[.slice p1 m.cell.length q1,.slice p2 m.stack.length q2,.slice p3 m.queue.length q3,.slice p4 m.set.length q4,.slice p5 m.table.length q5] ∧
   OwnE w B 3 eI 1 (.slice p1 m.cell.length q1) m.cell∧OwnE w B 3 eI 1 (.slice p2 m.stack.length q2) m.stack∧OwnE w B 3 eI 1 (.slice p3 m.queue.length q3) m.queue ∧
   OwnE w B 3 eI 1 (.slice p4 m.set.length q4) m.set∧OwnE w B 76 eP 2 (.slice p5 m.table.length q5) m.table
 | _,_,_=>True
theorem PhiC_stab (B bx:Nat) (a b c d e:Value) (m:MC):∀ i v w w',PhiC B bx a b c d e m i v w→Below w.heap.size w w'→PhiC B bx a b c d e m i v w':=by
 intro i v w w' h hb
 unfold PhiC at h ⊢
 split <;> simp only at h <;> first | exact h.ext hb | exact h | trivial | skip
 obtain ⟨p1,q1,p2,q2,p3,q3,p4,q4,p5,q5,h0,h1,h2,h3,h4,h5⟩:=h
 exact ⟨p1,q1,p2,q2,p3,q3,p4,q4,p5,q5,h0,h1.ext hb,h2.ext hb,h3.ext hb,h4.ext hb,h5.ext hb⟩
theorem full_own {α:Type} {w w' : World} {B:Nat} {e:TypeId} {enc:α→List Value} {size:Nat} {ba:Option Addr} {v' : Value} {xs:List α} (hB:B≤w.heap.size)
  (h:(xs=[]∧v' = .slice ba 0 0∧w' = w)∨(xs≠[]∧w'.ownsRow w.heap.size e size v' (0+xs.length) (([]++xs).flatMap enc))):OwnE w' B e enc size v' xs:=by
 rcases h with ⟨h1,h2,_⟩ | ⟨_,h⟩
 ·exact Or.inl ⟨h1,ba,h2⟩
 ·simp only [Nat.zero_add,List.nil_append] at h
  exact OwnE.base (Or.inr h) hB
set_option maxRecDepth 100000 in
set_option maxHeartbeats 2000000 in
theorem mCopied {a b c d e:Value} {m:MC} {w:World} (h:Cont w (.agg #[a,b,c,d,e]) m) (hok:m.ok 0) :
  Calls Try.prog 42 #[.agg #[a,b,c,d,e]] w (RetD w m):=by
 obtain ⟨_,_,_,_,_,hv,h1,h2,h3,h4,h5⟩:=h
 cases hv
 have H1:=Lib.hid h1;clear h1
 have H2:=Lib.hid h2;clear h2
 have H3:=Lib.hid h3;clear h3
 have H4:=Lib.hid h4;clear h4
 have H5:=Lib.hid h5;clear h5
 obtain ⟨k1,k2,k3,k4,k5⟩:=hok
 go_enter Try.func42,Try.ntmps42
 go_wp2_with fail
 have hb00:Below w.heap.size w ((w.alloc (.cells #[a,b,c,d,e] 29)).alloc (.cells #[.slice none 0 0,.slice none 0 0,.slice none 0 0,.slice none 0 0,.slice none 0 0] 29)):=(below_box _ _).trans ((below_box _ _).mono (by simp))
 have hbs:w.heap.size+2≤((w.alloc (.cells #[a,b,c,d,e] 29)).alloc (.cells #[.slice none 0 0,.slice none 0 0,.slice none 0 0,.slice none 0 0,.slice none 0 0] 29)).heap.size:=by simp
 have X:Hid (∀ j u,#[a,b,c,d,e][j]? = some u→((w.alloc (.cells #[a,b,c,d,e] 29)).alloc (.cells #[.slice none 0 0,.slice none 0 0,.slice none 0 0,.slice none 0 0,.slice none 0 0] 29)).cell? ⟨w.heap.size,j,none⟩=some u) :=
  fun j u h=>((below_box _ _).cell (by simp)).trans (box_cell w _ _ j u h)
 have Y:Hid (((w.alloc (.cells #[a,b,c,d,e] 29)).alloc (.cells #[.slice none 0 0,.slice none 0 0,.slice none 0 0,.slice none 0 0,.slice none 0 0] 29)).heap[w.heap.size+1]? = some (.cells #[.slice none 0 0,.slice none 0 0,.slice none 0 0,.slice none 0 0,.slice none 0 0] 29)):=by
  show _=_
  have:=heap_alloc_new (w.alloc (.cells #[a,b,c,d,e] 29)) (.cells #[.slice none 0 0,.slice none 0 0,.slice none 0 0,.slice none 0 0,.slice none 0 0] 29)
  simpa using this
 generalize ((w.alloc (.cells #[a,b,c,d,e] 29)).alloc (.cells #[.slice none 0 0,.slice none 0 0,.slice none 0 0,.slice none 0 0,.slice none 0 0] 29))=W1 at *
 refine wp_region_facts_lit 21 (PhiC W1.heap.size w.heap.size a b c d e m) (fun w w'=>Below w.heap.size w w') (by kernel_rfl) (by kernel_rfl) (by simp) ext_refl ext_trans (PhiC_stab _ _ _ _ _ _ _ _) ?_ ?_
 ·refine ⟨?_,?_,?_,?_,?_,?_,?_,?_,?_,?_,?_,?_,?_,?_,?_,?_,?_,?_,?_,?_,?_,trivial⟩
  all_goals intro A W hR hd hs hag hpre
  all_goals rw [if_pos (by rfl)]
  all_goals have hlt1:w.heap.size<W1.heap.size:=by omega
  all_goals have hle1:w.heap.size≤W1.drew.heap.size:=by show w.heap.size≤W1.heap.size;omega
  ·go_simp
   exact ⟨below_box _ _,_,rfl,_,rfl⟩
  ·have t1:=hag 1 (noDst (by kernel_rfl))
   have t1' : A.tmps.getD 1 undef = .pointer (some ⟨w.heap.size,0,none⟩):=t1
   clear t1
   go_simp
   exact ⟨Below.refl _ _,_,rfl,rfl⟩
  ·have p:A.tmps.getD 4 undef = .pointer (some ⟨w.heap.size,0,none⟩):=hpre ⟨1,.data⟩ (by simp) rfl _ rfl
   have c:=(hR.cell (show w.heap.size<W1.drew.heap.size by exact hlt1)).trans (X.out 0 _ rfl)
   go_simp
   exact ⟨Below.refl _ _,_,rfl,rfl⟩
  ·obtain ⟨ba,p⟩:∃ ba,A.tmps.getD 3 undef = .slice ba 0 0:=hpre ⟨0,.data⟩ (by simp) rfl _ rfl
   have q:A.tmps.getD 5 undef=a:=hpre ⟨2,.data⟩ (by simp) rfl _ rfl
   exact wp_append_full (.tmp 3) (.tmp 5) rfl tI eI_ok p (arr_empty _ _ _ _) q (H1.out.below (hb00.drew.trans (hR.mono hle1))) (by omega) (by unfold maxLen;omega)
    fun v' w' hb h=>⟨hb,v',rfl,full_own hR.size h⟩
  ·go_simp
   exact ⟨below_box _ _,_,rfl,_,rfl⟩
  ·have t1:=hag 1 (noDst (by kernel_rfl))
   have t1' : A.tmps.getD 1 undef = .pointer (some ⟨w.heap.size,0,none⟩):=t1
   clear t1
   go_simp
   exact ⟨Below.refl _ _,_,rfl,rfl⟩
  ·have p:A.tmps.getD 8 undef = .pointer (some ⟨w.heap.size,1,none⟩):=hpre ⟨5,.data⟩ (by simp) rfl _ rfl
   have c:=(hR.cell (show w.heap.size<W1.drew.heap.size by exact hlt1)).trans (X.out 1 _ rfl)
   go_simp
   exact ⟨Below.refl _ _,_,rfl,rfl⟩
  ·obtain ⟨ba,p⟩:∃ ba,A.tmps.getD 7 undef = .slice ba 0 0:=hpre ⟨4,.data⟩ (by simp) rfl _ rfl
   have q:A.tmps.getD 9 undef=b:=hpre ⟨6,.data⟩ (by simp) rfl _ rfl
   exact wp_append_zero (.tmp 7) (.tmp 9) rfl tI eI_ok p (arr_empty _ _ _ _) q (H2.out.below (hb00.drew.trans (hR.mono hle1))) (by omega) (by unfold maxLen;omega)
    fun v' w' hb h=>⟨hb,v',rfl,full_own hR.size h⟩
  ·go_simp
   exact ⟨below_box _ _,_,rfl,_,rfl⟩
  ·have t1:=hag 1 (noDst (by kernel_rfl))
   have t1' : A.tmps.getD 1 undef = .pointer (some ⟨w.heap.size,0,none⟩):=t1
   clear t1
   go_simp
   exact ⟨Below.refl _ _,_,rfl,rfl⟩
  ·have p:A.tmps.getD 12 undef = .pointer (some ⟨w.heap.size,2,none⟩):=hpre ⟨9,.data⟩ (by simp) rfl _ rfl
   have c:=(hR.cell (show w.heap.size<W1.drew.heap.size by exact hlt1)).trans (X.out 2 _ rfl)
   go_simp
   exact ⟨Below.refl _ _,_,rfl,rfl⟩
  ·obtain ⟨ba,p⟩:∃ ba,A.tmps.getD 11 undef = .slice ba 0 0:=hpre ⟨8,.data⟩ (by simp) rfl _ rfl
   have q:A.tmps.getD 13 undef=c:=hpre ⟨10,.data⟩ (by simp) rfl _ rfl
   exact wp_append_full (.tmp 11) (.tmp 13) rfl tI eI_ok p (arr_empty _ _ _ _) q (H3.out.below (hb00.drew.trans (hR.mono hle1))) (by omega) (by unfold maxLen;omega)
    fun v' w' hb h=>⟨hb,v',rfl,full_own hR.size h⟩
  ·go_simp
   exact ⟨below_box _ _,_,rfl,_,rfl⟩
  ·have t1:=hag 1 (noDst (by kernel_rfl))
   have t1' : A.tmps.getD 1 undef = .pointer (some ⟨w.heap.size,0,none⟩):=t1
   clear t1
   go_simp
   exact ⟨Below.refl _ _,_,rfl,rfl⟩
  ·have p:A.tmps.getD 16 undef = .pointer (some ⟨w.heap.size,3,none⟩):=hpre ⟨13,.data⟩ (by simp) rfl _ rfl
   have c:=(hR.cell (show w.heap.size<W1.drew.heap.size by exact hlt1)).trans (X.out 3 _ rfl)
   go_simp
   exact ⟨Below.refl _ _,_,rfl,rfl⟩
  ·obtain ⟨ba,p⟩:∃ ba,A.tmps.getD 15 undef = .slice ba 0 0:=hpre ⟨12,.data⟩ (by simp) rfl _ rfl
   have q:A.tmps.getD 17 undef=d:=hpre ⟨14,.data⟩ (by simp) rfl _ rfl
   exact wp_append_full (.tmp 15) (.tmp 17) rfl tI eI_ok p (arr_empty _ _ _ _) q (H4.out.below (hb00.drew.trans (hR.mono hle1))) (by omega) (by unfold maxLen;omega)
    fun v' w' hb h=>⟨hb,v',rfl,full_own hR.size h⟩
  ·go_simp
   exact ⟨below_box _ _,_,rfl,_,rfl⟩
  ·have t1:=hag 1 (noDst (by kernel_rfl))
   have t1' : A.tmps.getD 1 undef = .pointer (some ⟨w.heap.size,0,none⟩):=t1
   clear t1
   go_simp
   exact ⟨Below.refl _ _,_,rfl,rfl⟩
  ·have p:A.tmps.getD 20 undef = .pointer (some ⟨w.heap.size,4,none⟩):=hpre ⟨17,.data⟩ (by simp) rfl _ rfl
   have c:=(hR.cell (show w.heap.size<W1.drew.heap.size by exact hlt1)).trans (X.out 4 _ rfl)
   go_simp
   exact ⟨Below.refl _ _,_,rfl,rfl⟩
  ·obtain ⟨ba,p⟩:∃ ba,A.tmps.getD 19 undef = .slice ba 0 0:=hpre ⟨16,.data⟩ (by simp) rfl _ rfl
   have q:A.tmps.getD 21 undef=e:=hpre ⟨18,.data⟩ (by simp) rfl _ rfl
   exact wp_append_full (.tmp 19) (.tmp 21) rfl tP eP_ok p (arr_empty _ _ _ _) q (H5.out.below (hb00.drew.trans (hR.mono hle1))) (by omega) (by unfold maxLen;omega)
    fun v' w' hb h=>⟨hb,v',rfl,full_own hR.size h⟩
  ·have g1:OwnE W W1.heap.size 3 eI 1 (A.tmps.getD 6 undef) m.cell:=hpre ⟨3,.data⟩ (by simp) rfl _ rfl
   have g2:OwnE W W1.heap.size 3 eI 1 (A.tmps.getD 10 undef) m.stack:=hpre ⟨7,.data⟩ (by simp) rfl _ rfl
   have g3:OwnE W W1.heap.size 3 eI 1 (A.tmps.getD 14 undef) m.queue:=hpre ⟨11,.data⟩ (by simp) rfl _ rfl
   have g4:OwnE W W1.heap.size 3 eI 1 (A.tmps.getD 18 undef) m.set:=hpre ⟨15,.data⟩ (by simp) rfl _ rfl
   have g5:OwnE W W1.heap.size 76 eP 2 (A.tmps.getD 22 undef) m.table:=hpre ⟨19,.data⟩ (by simp) rfl _ rfl
   obtain ⟨p1,q1,e1⟩:=g1.form
   obtain ⟨p2,q2,e2⟩:=g2.form
   obtain ⟨p3,q3,e3⟩:=g3.form
   obtain ⟨p4,q4,e4⟩:=g4.form
   obtain ⟨p5,q5,e5⟩:=g5.form
   rw [e1] at g1
   rw [e2] at g2
   rw [e3] at g3
   rw [e4] at g4
   rw [e5] at g5
   have G:Hid (PhiC W1.heap.size w.heap.size a b c d e m 20 (.agg #[.slice p1 m.cell.length q1,.slice p2 m.stack.length q2,.slice p3 m.queue.length q3,.slice p4 m.set.length q4,.slice p5 m.table.length q5]) W) :=
    ⟨p1,q1,p2,q2,p3,q3,p4,q4,p5,q5,rfl,g1,g2,g3,g4,g5⟩
   clear g1 g2 g3 g4 g5 hs hag hd hpre
   simp only [Array.getD_eq_getD_getElem?] at e1 e2 e3 e4 e5
   go_simp
   exact ⟨Below.refl _ _,_,rfl,G.out⟩
 ·intro vs W hR hΦ
  obtain ⟨p1,q1,p2,q2,p3,q3,p4,q4,p5,q5,e20,g1,g2,g3,g4,g5⟩:=hΦ 20 (by omega)
  simp only [putN,List.getElem?_toArray,List.getElem?_cons_succ,List.getElem?_cons_zero,Option.bind_some,Act.put,List.setIfInBounds_toArray,List.set_cons_succ,List.set_cons_zero,List.drop_succ_cons,List.drop_zero,e20]
  have hY:=(hR.block _ (show w.heap.size+1<W1.drew.heap.size by show _<W1.heap.size;omega)).trans Y.out
  have hBW:Below w.heap.size w W:=hb00.drew.trans (hR.mono (show w.heap.size≤W1.heap.size by omega))
  have OB:Hid (OwnD (W.setRow (w.heap.size+1) #[.slice p1 m.cell.length q1,.slice p2 m.stack.length q2,.slice p3 m.queue.length q3,.slice p4 m.set.length q4,.slice p5 m.table.length q5]) w.heap.size (.agg #[.slice p1 m.cell.length q1,.slice p2 m.stack.length q2,.slice p3 m.queue.length q3,.slice p4 m.set.length q4,.slice p5 m.table.length q5]) m):=by
   have G:=grownBy_setRow W (w.heap.size+1) #[.slice p1 m.cell.length q1,.slice p2 m.stack.length q2,.slice p3 m.queue.length q3,.slice p4 m.set.length q4,.slice p5 m.table.length q5]
   exact ⟨_,_,_,_,_,rfl,(g1.keep G (by omega)).base (by omega),(g2.keep G (by omega)).base (by omega),(g3.keep G (by omega)).base (by omega),(g4.keep G (by omega)).base (by omega),(g5.keep G (by omega)).base (by omega)⟩
  have BB:Hid (Below w.heap.size w (W.setRow (w.heap.size+1) #[.slice p1 m.cell.length q1,.slice p2 m.stack.length q2,.slice p3 m.queue.length q3,.slice p4 m.set.length q4,.slice p5 m.table.length q5])) :=
   below_setRow' hBW (by omega) _
  clear g1 g2 g3 g4 g5 e20 hΦ hR
  obtain ⟨⟨z0,z1,z2,z3,z4⟩,⟨f0,f1,f2,f3,f4⟩⟩:=blk5 hY
  go_wp2
  rw [set5 hY]
  clear z0 z1 z2 z3 z4 f0 f1 f2 f3 f4
  obtain ⟨⟨z0,z1,z2,z3,z4⟩,_⟩:=blk5 (setRow_heap W (w.heap.size+1) _ #[.slice p1 m.cell.length q1,.slice p2 m.stack.length q2,.slice p3 m.queue.length q3,.slice p4 m.set.length q4,.slice p5 m.table.length q5] 29 (0,0) hY)
  refine bodyPost_ret (v:=.agg #[.slice p1 m.cell.length q1,.slice p2 m.stack.length q2,.slice p3 m.queue.length q3,.slice p4 m.set.length q4,.slice p5 m.table.length q5])
   (by simp [results,Try.results42,go_sem,z0,z1,z2,z3,z4]) rfl ⟨_,rfl,OB.out,BB.out⟩
end Go.Proofs.Ytgljbdcamagdbaa
namespace Go.Proofs.Ytgljbdcamagdbaa
open Go.RowKit
theorem rSame0 {v v' : Value} {m m' : MC} {w:World} (h:Cont w v m) (h' : Cont w v' m') :
  Calls Try.prog 39 #[v,v'] w fun e w'=>e = .returned (.bool (decide (m=m')))∧Below w.heap.size w w':=by
 obtain ⟨a,b,c,d,e,rfl,h1,h2,h3,h4,h5⟩:=h
 obtain ⟨a',b',c',d',e',rfl,h1',h2',h3',h4',h5'⟩:=h'
 obtain ⟨be,ce,rfl,_,_,g5⟩:=h5.at2
 obtain ⟨be',ce',rfl,_,_,g5'⟩:=h5'.at2
 exact rSame_core a b c d a' b' c' d' be be' _ _ ce ce' m m' w rfl rfl (by omega) (by omega) h1 h2 h3 h4 h1' h2' h3' h4' g5 g5'
set_option maxHeartbeats 400000 in
theorem rSame {v v' : Value} {m m' : MC} {w:World} (h:Cont w v m) (h' : Cont w v' m') :
  Calls Try.prog 21 #[v,v'] w fun e w'=>e = .returned (.bool (decide (m=m')))∧Below w.heap.size w w':=by
 have h0:=h
 have h0':=h'
 obtain ⟨a,b,c,d,e,rfl,_⟩:=h
 obtain ⟨a',b',c',d',e',rfl,_⟩:=h'
 have C:Hid (∀ wx,Below w.heap.size w wx→Calls Try.prog 39 #[.agg #[a,b,c,d,e],.agg #[a',b',c',d',e']] wx fun e w'=>e = .returned (.bool (decide (m=m')))∧Below wx.heap.size wx w') :=
  fun wx hb=>rSame0 (h0.below hb) (h0'.below hb)
 clear h0 h0'
 have hb0:Hid (Below w.heap.size w ((w.alloc (.cells #[a,b,c,d,e] 29)).alloc (.cells #[a',b',c',d',e'] 29))):=(below_box _ _).trans ((below_box _ _).mono (by simp))
 go_enter Try.func21,Try.ntmps21
 go_wp2_with fail
 generalize (w.alloc (.cells #[a,b,c,d,e] 29)).alloc (.cells #[a',b',c',d',e'] 29)=W1 at *
 go_wp2_with (go_at_call 39;(with_reducible refine (C.out _ hb0.out).mono ?_);rintro e w' ⟨rfl,hb⟩)
 go_ret
 exact ⟨rfl,hb0.out.trans (hb.mono hb0.out.size)⟩
def RetOwn (W:World) (m:MC) (r:Ending) (w' : World):Prop:=∃ v',r = .returned v'∧OwnC w' W.heap.size v' m∧Below W.heap.size W w'
theorem OwnC.base {w:World} {base base' : Nat} {v:Value} {m:MC} (h:OwnC w base v m) (hb:base'≤base):OwnC w base' v m:=by
 obtain ⟨a,b,c,d,e,rfl,h1,h2,h3,h4,h5,h6⟩:=h
 exact ⟨a,b,c,d,e,rfl,own_base h1 hb,own_base h2 hb,own_base h3 hb,own_base h4 hb,own_base h5 hb,h6⟩
set_option maxHeartbeats 400000 in
theorem rCopy {v:Value} {m:MC} {w:World} (h:Cont w v m) (hok:m.ok 0) :
  Calls Try.prog 22 #[v] w (RetOwn w m):=by
 have h0:=h
 obtain ⟨a,b,c,d,e,rfl,_⟩:=h
 have C:Hid (∀ wx,Below w.heap.size w wx→Calls Try.prog 40 #[.agg #[a,b,c,d,e]] wx (RetOwn wx m)) :=
  fun wx hb=>rCopy0 (h0.below hb) hok
 clear h0 hok
 have hb0:Hid (Below w.heap.size w ((w.alloc (.cells #[a,b,c,d,e] 29)).alloc (.cells #[.slice none 0 0,.slice none 0 0,.slice none 0 0,.slice none 0 0,.slice none 0 0] 29))):=(below_box _ _).trans ((below_box _ _).mono (by simp))
 have Y:Hid (((w.alloc (.cells #[a,b,c,d,e] 29)).alloc (.cells #[.slice none 0 0,.slice none 0 0,.slice none 0 0,.slice none 0 0,.slice none 0 0] 29)).heap[w.heap.size+1]? = some (.cells #[.slice none 0 0,.slice none 0 0,.slice none 0 0,.slice none 0 0,.slice none 0 0] 29)):=by
  show _=_
  have:=heap_alloc_new (w.alloc (.cells #[a,b,c,d,e] 29)) (.cells #[.slice none 0 0,.slice none 0 0,.slice none 0 0,.slice none 0 0,.slice none 0 0] 29)
  simpa using this
 have hsz:w.heap.size+2≤((w.alloc (.cells #[a,b,c,d,e] 29)).alloc (.cells #[.slice none 0 0,.slice none 0 0,.slice none 0 0,.slice none 0 0,.slice none 0 0] 29)).heap.size:=by simp
 go_enter Try.func22,Try.ntmps22
 go_wp2_with fail
 generalize ((w.alloc (.cells #[a,b,c,d,e] 29)).alloc (.cells #[.slice none 0 0,.slice none 0 0,.slice none 0 0,.slice none 0 0,.slice none 0 0] 29))=W1 at *
 (with_reducible refine (C.out _ hb0.out).mono ?_)
 rintro r w' ⟨v',rfl,ho,hb⟩
 obtain ⟨a1,b1,c1,d1,e1,rfl,h1,h2,h3,h4,h5,h6⟩:=ho
 obtain ⟨p1,q1,rfl⟩:=own_form h1
 obtain ⟨p2,q2,rfl⟩:=own_form h2
 obtain ⟨p3,q3,rfl⟩:=own_form h3
 obtain ⟨p4,q4,rfl⟩:=own_form h4
 obtain ⟨p5,q5,rfl⟩:=own_form h5
 have hY:=(hb.block _ (show w.heap.size+1<W1.heap.size by omega)).trans Y.out
 have hBW:Below w.heap.size w w':=hb0.out.trans (hb.mono (by omega))
 have OB:Hid (OwnC (w'.setRow (w.heap.size+1) #[.slice p1 m.cell.length q1,.slice p2 m.stack.length q2,.slice p3 m.queue.length q3,.slice p4 m.set.length q4,.slice p5 m.table.length q5]) w.heap.size (.agg #[.slice p1 m.cell.length q1,.slice p2 m.stack.length q2,.slice p3 m.queue.length q3,.slice p4 m.set.length q4,.slice p5 m.table.length q5]) m):=by
  have G:=grownBy_setRow w' (w.heap.size+1) #[.slice p1 m.cell.length q1,.slice p2 m.stack.length q2,.slice p3 m.queue.length q3,.slice p4 m.set.length q4,.slice p5 m.table.length q5]
  exact ⟨_,_,_,_,_,rfl,own_base (own_keep h1 G (by omega)) (by omega),own_base (own_keep h2 G (by omega)) (by omega),own_base (own_keep h3 G (by omega)) (by omega),own_base (own_keep h4 G (by omega)) (by omega),own_base (own_keep h5 G (by omega)) (by omega),h6⟩
 have BB:Hid (Below w.heap.size w (w'.setRow (w.heap.size+1) #[.slice p1 m.cell.length q1,.slice p2 m.stack.length q2,.slice p3 m.queue.length q3,.slice p4 m.set.length q4,.slice p5 m.table.length q5])) :=
  below_setRow' hBW (by omega) _
 clear h1 h2 h3 h4 h5 h6 hb C
 obtain ⟨⟨z0,z1,z2,z3,z4⟩,⟨f0,f1,f2,f3,f4⟩⟩:=blk5 hY
 go_wp2
 rw [set5 hY]
 clear z0 z1 z2 z3 z4 f0 f1 f2 f3 f4
 obtain ⟨⟨z0,z1,z2,z3,z4⟩,_⟩:=blk5 (setRow_heap w' (w.heap.size+1) _ #[.slice p1 m.cell.length q1,.slice p2 m.stack.length q2,.slice p3 m.queue.length q3,.slice p4 m.set.length q4,.slice p5 m.table.length q5] 29 (0,0) hY)
 refine bodyPost_ret (v:=.agg #[.slice p1 m.cell.length q1,.slice p2 m.stack.length q2,.slice p3 m.queue.length q3,.slice p4 m.set.length q4,.slice p5 m.table.length q5])
  (by simp [results,Try.results22,go_sem,z0,z1,z2,z3,z4]) rfl ⟨_,rfl,OB.out,BB.out⟩
theorem arr_one {w:World} {B:Nat} {x:Int} {t:TypeId} (h:w.heap[B]? = some (.cells #[.int .i64 x] t)):Arr w eI 1 (.slice (some ⟨B,0,none⟩) 1 1) [x]:=by
 refine ⟨_,1,rfl,Nat.le_refl _,by unfold maxLen;omega,Or.inr ⟨B,0,rfl,fun k y hk j u hu=>?_⟩⟩
 have hk0:k=0:=by have:=(List.getElem?_eq_some_iff.1 hk).1;simpa using this
 subst hk0
 simp only [List.getElem?_cons_zero,Option.some.injEq] at hk
 subst hk
 have hj0:j=0:=by have:=(List.getElem?_eq_some_iff.1 hu).1;simpa [eI] using this
 subst hj0
 simp only [eI,List.getElem?_cons_zero,Option.some.injEq] at hu
 subst hu
 rw [cell_of_row w B _ _ t (0,0) h]
 rfl
end Go.Proofs.Ytgljbdcamagdbaa
namespace Go.Proofs.Ytgljbdcamagdbaa
open Go.RowKit
section
variable {H:Type} {enc:TypeId×Value→H} {P:Program} {w:World} {base:Nat} {spare:Nat→Bool} {held:Bool}
def leavesFields (L:TypeId→Option (List TypeId)) (P:Program):List Field→Nat→Option (List TypeId)
 | [],_=>some []
 | f :: r,off=>if f.offset=off then (L f.type).bind fun l=>if l.length=P.cellsOf f.type then (leavesFields L P r (off+l.length)).map (l++·) else none else none
def leavesIn (P:Program):Nat→TypeId→Option (List TypeId)
 | 0,_=>none
 | n+1,t=>match P.underlying t with
  | some (.struct fs)=>leavesFields (leavesIn P n) P fs.toList 0
  | some (.array k e)=>(leavesIn P n e).bind fun l=>if l.length=P.cellsOf e then some (List.replicate k l).flatten else none
  | some _=>some [t]
  | none=>none
theorem trod_one {t:TypeId} {fuel:Nat} {cs:List Value} {x:DataW H×List MemPlace} {d:TypeDesc} (hu:P.underlying t=some d) (hs:∀ fs,d≠.struct fs) (ha:∀ n e,d≠.array n e)
  (h:DataW.trod enc P w base spare held fuel t cs=some x):∃ c,cs=[c]:=by
 cases fuel with
 | zero=>simp [DataW.trod] at h
 | succ n =>
  rcases cs with _ | ⟨c,_ | ⟨c2,r⟩⟩
  ·exfalso
   cases d <;> first | exact hs _ rfl | exact ha _ _ rfl | simp [DataW.trod,hu] at h
  ·exact ⟨c,rfl⟩
  ·exfalso
   cases d <;> first | exact hs _ rfl | exact ha _ _ rfl | simp [DataW.trod,hu] at h
def LeafAt (enc:TypeId×Value→H) (P:Program) (w:World) (base:Nat) (spare:Nat→Bool) (held:Bool) (bound:Nat) (ws:List Nat) (u:TypeId) (c:Value):Prop :=
 ∃ m y,DataW.trod enc P w base spare held m u [c]=some y∧Rows.uptoBulk y.1≤bound∧∀ k∈y.1.weights P u,k∈ws
theorem bulk_mem {d:DataW H} {l:List (DataW H)} (h:d∈l):Rows.uptoBulk d≤Rows.uptoBulkAll l:=by
 induction l with
 | nil=>cases h
 | cons x r ih =>
  simp only [Rows.uptoBulkAll]
  cases List.mem_cons.1 h with
  | inl e=>subst e;omega
  | inr e=>have:=ih e;omega
theorem one_le_bulk (d:DataW H):1≤Rows.uptoBulk d:=by
 cases d with
 | lit l=>cases l <;> simp [Rows.uptoBulk]
 | nil=>simp [Rows.uptoBulk]
 | ptr d=>simp [Rows.uptoBulk]
 | slice elems spare=>simp [Rows.uptoBulk]
 | agg parts=>simp [Rows.uptoBulk]
 | iface t d=>simp [Rows.uptoBulk]
 | map entries=>simp [Rows.uptoBulk]
 | held h=>simp [Rows.uptoBulk]
theorem length_le_bulk (l:List (DataW H)):l.length≤Rows.uptoBulkAll l:=by
 induction l with
 | nil=>simp [Rows.uptoBulkAll]
 | cons x r ih=>have:=one_le_bulk x;simp only [Rows.uptoBulkAll,List.length_cons];omega
theorem weightsEach_mem {ts:List TypeId} {ds:List (DataW H)} {i:Nat} {t:TypeId} {d:DataW H} (ht:ts[i]? = some t) (hd:ds[i]? = some d):∀ k∈d.weights P t,k∈DataW.weightsEach P ts ds:=by
 intro k hk
 induction ts generalizing ds i with
 | nil=>simp at ht
 | cons t0 ts ih =>
  cases ds with
  | nil=>simp at hd
  | cons d0 ds =>
   simp only [DataW.weightsEach,List.mem_append]
   cases i with
   | zero=>simp at ht hd;subst ht;subst hd;exact Or.inl hk
   | succ i=>exact Or.inr (ih (by simpa using ht) (by simpa using hd))
theorem weightsAll_mem {e:TypeId} {ds:List (DataW H)} {d:DataW H} (hd:d∈ds):∀ k∈d.weights P e,k∈DataW.weightsAll P e ds:=by
 intro k hk
 induction ds with
 | nil=>cases hd
 | cons d0 ds ih =>
  simp only [DataW.weightsAll,List.mem_append]
  cases List.mem_cons.1 hd with
  | inl e=>subst e;exact Or.inl hk
  | inr e=>exact Or.inr (ih e)
theorem LeafAt.mono {b b' : Nat} {ws ws' : List Nat} {u:TypeId} {c:Value} (h:LeafAt enc P w base spare held b ws u c) (hb:b≤b') (hw:∀ k∈ws,k∈ws'):LeafAt enc P w base spare held b' ws' u c:=by
 obtain ⟨m,y,h1,h2,h3⟩:=h
 exact ⟨m,y,h1,by omega,fun k hk=>hw k (h3 k hk)⟩
theorem leavesFields_at {L:TypeId→Option (List TypeId)}:∀ (fs:List Field) (off:Nat) (l:List TypeId),leavesFields L P fs off=some l→∀ i u,l[i]? = some u →
  ∃ (k:Nat) (f:Field) (lf:List TypeId) (j:Nat),fs[k]? = some f∧L f.type=some lf∧lf.length=P.cellsOf f.type∧lf[j]? = some u∧off+i=f.offset+j:=by
 intro fs
 induction fs with
 | nil=>intro off l h i u hi;simp [leavesFields] at h;subst h;simp at hi
 | cons f r ih =>
  intro off l h i u hi
  simp only [leavesFields] at h
  split at h
  ·rename_i ho
   obtain ⟨lf,hlf,h⟩:=Option.bind_eq_some_iff.1 h
   split at h
   ·rename_i hlen
    obtain ⟨l',hl',rfl⟩:=Option.map_eq_some_iff.1 h
    by_cases hlt:i<lf.length
    ·rw [List.getElem?_append_left hlt] at hi
     exact ⟨0,f,lf,i,rfl,hlf,hlen,hi,by omega⟩
    ·rw [List.getElem?_append_right (by omega)] at hi
     obtain ⟨k,f',lf',j,h1,h2,h3,h4,h5⟩:=ih _ _ hl' _ _ hi
     exact ⟨k+1,f',lf',j,by simpa using h1,h2,h3,h4,by omega⟩
   ·cases h
  ·cases h
theorem flatten_rep_at {α:Type}:∀ (k:Nat) (l:List α) (i:Nat) (u:α),(List.replicate k l).flatten[i]? = some u→∃ a j,a<k∧l[j]? = some u∧i=a * l.length+j:=by
 intro k
 induction k with
 | zero=>intro l i u h;simp at h
 | succ k ih =>
  intro l i u h
  rw [List.replicate_succ,List.flatten_cons] at h
  by_cases hlt:i<l.length
  ·rw [List.getElem?_append_left hlt] at h
   exact ⟨0,i,by omega,h,by omega⟩
  ·rw [List.getElem?_append_right (by omega)] at h
   obtain ⟨a,j,h1,h2,h3⟩:=ih l _ u h
   refine ⟨a+1,j,by omega,h2,?_⟩
   rw [Nat.add_mul];omega
theorem leaf_of:∀ (n:Nat) (t:TypeId) (L:List TypeId),leavesIn P n t=some L→∀ (fuel:Nat) (cs:List Value) (x:DataW H×List MemPlace),DataW.trod enc P w base spare held fuel t cs=some x →
  ∀ (i:Nat) (u:TypeId) (c:Value),L[i]? = some u→cs[i]? = some c→LeafAt enc P w base spare held (Rows.uptoBulk x.1) (x.1.weights P t) u c:=by
 intro n
 induction n with
 | zero=>intro t L h;simp [leavesIn] at h
 | succ n ih =>
  intro t L hL fuel cs x hx i u c hi hc
  cases hu:P.underlying t with
  | none=>simp [leavesIn,hu] at hL
  | some d =>
   by_cases hs:∃ fs,d = .struct fs
   ·obtain ⟨fs,rfl⟩:=hs
    simp only [leavesIn,hu] at hL
    obtain ⟨k,f,lf,j,h1,h2,h3,h4,h5⟩:=leavesFields_at _ _ _ hL i u hi
    obtain ⟨xs,n',_,rfl,hlen,hxl,hg⟩:=DataW.trod_struct hu hx
    have h1' : fs[k]? = some f:=by simpa using h1
    have hk:=hg k f h1'
    have hkl:k<xs.length:=by rw [hxl];exact (Array.getElem?_eq_some_iff.1 h1').1
    rw [List.getElem?_eq_getElem hkl] at hk
    have hj:j<lf.length:=(List.getElem?_eq_some_iff.1 h4).1
    have hcj:((cs.drop f.offset).take (P.cellsOf f.type))[j]? = some c:=by
     rw [List.getElem?_take,if_pos (by omega),List.getElem?_drop,← h5,Nat.zero_add];exact hc
    have:=ih f.type lf h2 n' _ _ hk j u c h4 hcj
    have hm:xs[k].1∈xs.map (·.1):=List.mem_map.2 ⟨xs[k],List.getElem_mem hkl,rfl⟩
    refine this.mono ?_ ?_
    ·have:=bulk_mem hm
     simp only [Rows.uptoBulk];omega
    ·intro q hq
     simp only [DataW.weights,hu]
     exact weightsEach_mem (i:=k) (t:=f.type) (d:=xs[k].1) (by rw [List.getElem?_map];rw [h1];rfl) (by rw [List.getElem?_map,List.getElem?_eq_getElem hkl];rfl) q hq
   ·by_cases ha:∃ k e,d = .array k e
    ·obtain ⟨k,e,rfl⟩:=ha
     simp only [leavesIn,hu] at hL
     obtain ⟨l,hl,hL⟩:=Option.bind_eq_some_iff.1 hL
     split at hL
     ·rename_i hlen
      cases hL
      obtain ⟨a,j,h1,h2,h3⟩:=flatten_rep_at _ _ _ _ hi
      obtain ⟨xs,n',_,rfl,_,hxl,hg⟩:=DataW.trod_array hu hx
      have hk:=hg a h1
      have hkl:a<xs.length:=by omega
      rw [List.getElem?_eq_getElem hkl] at hk
      have hj:j<l.length:=(List.getElem?_eq_some_iff.1 h2).1
      have hcj:((cs.drop (a * P.cellsOf e)).take (P.cellsOf e))[j]? = some c:=by
       rw [List.getElem?_take,if_pos (by omega),List.getElem?_drop,← hlen,← h3];exact hc
      have:=ih e l hl n' _ _ hk j u c h2 hcj
      have hm:xs[a].1∈xs.map (·.1):=List.mem_map.2 ⟨xs[a],List.getElem_mem hkl,rfl⟩
      refine this.mono ?_ ?_
      ·have:=bulk_mem hm
       simp only [Rows.uptoBulk];omega
      ·intro q hq
       simp only [DataW.weights,hu]
       exact weightsAll_mem hm q hq
     ·cases hL
    ·have hL' : L=[t]:=by
      simp only [leavesIn,hu] at hL
      cases d <;> first | exact absurd ⟨_,rfl⟩ hs | exact absurd ⟨_,_,rfl⟩ ha | (simpa using hL.symm)
     subst hL'
     obtain ⟨c',rfl⟩:=trod_one hu (fun fs e=>hs ⟨fs,e⟩) (fun k e e'=>ha ⟨k,e,e'⟩) hx
     have hi0:i=0:=by have:=(List.getElem?_eq_some_iff.1 hi).1;simpa using this
     subst hi0
     simp at hi hc
     subst hi;subst hc
     exact ⟨fuel,x,hx,Nat.le_refl _,fun _ h=>h⟩
theorem LeafAt.int {b:Nat} {ws:List Nat} {u:TypeId} {c:Value} {k:IntKind} (hu:P.underlying u=some (.int k)) (h:LeafAt enc P w base spare held b ws u c):∃ n,c = .int k n∧(Lit.int k n).wf=true:=by
 obtain ⟨m,y,h1,_⟩:=h
 obtain ⟨n,hc,_,hw⟩:=DataW.trod_int hu h1
 exact ⟨n,by simpa using hc,hw⟩
theorem LeafAt.bool {b:Nat} {ws:List Nat} {u:TypeId} {c:Value} (hu:P.underlying u=some .bool) (h:LeafAt enc P w base spare held b ws u c):∃ n,c = .bool n:=by
 obtain ⟨m,y,h1,_⟩:=h
 obtain ⟨n,hc,_⟩:=DataW.trod_bool hu h1
 exact ⟨n,by simpa using hc⟩
theorem choose_list {α:Type} {R:Nat→α→Prop}:∀ n,(∀ i,i<n→∃ x,R i x)→∃ xs:List α,xs.length=n∧∀ i x,xs[i]? = some x→R i x:=by
 intro n
 induction n with
 | zero=>intro _;exact ⟨[],rfl,fun i x h=>by simp at h⟩
 | succ n ih =>
  intro h
  obtain ⟨xs,hl,hx⟩:=ih (fun i hi=>h i (by omega))
  obtain ⟨y,hy⟩:=h n (by omega)
  refine ⟨xs++[y],by simp [hl],fun i x hi=>?_⟩
  by_cases hlt:i<xs.length
  ·rw [List.getElem?_append_left hlt] at hi
   exact hx i x hi
  ·rw [List.getElem?_append_right (by omega)] at hi
   have h0:i - xs.length=0:=by have:=(List.getElem?_eq_some_iff.1 hi).1;simp at this;omega
   rw [h0] at hi
   simp at hi
   subst hi
   have:i=n:=by omega
   subst this
   exact hy
theorem LeafAt.slice {α:Type} {b:Nat} {ws:List Nat} {u e:TypeId} {c:Value} (hu:P.underlying u=some (.slice e)) {s:Nat} (hpos:0<s) (hc:P.cellsOf e=s) (encA:α→List Value) (Q:α→Prop)
  (helem:∀ (m:Nat) (cs:List Value) (y:DataW H×List MemPlace),cs.length=s→DataW.trod enc P w base spare held m e cs=some y→∃ x:α,cs=encA x∧Q x)
  (h:LeafAt enc P w base spare held b ws u c):∃ xs:List α,Arr w encA s c xs∧(∀ x∈xs,Q x)∧xs.length+1≤b∧(xs=[]∨∃ k∈ws,xs.length * P.bytesOf e≤k):=by
 obtain ⟨m,y,h1,hb,hw⟩:=h
 rcases DataW.trod_slice hu h1 with ⟨hcs,rfl⟩ | ⟨a,len,cap,elems,rest,n,_,hcs,rfl,hba,hl,hm,hlen,hel,hsp,hns⟩
 ·simp only [List.cons.injEq,and_true] at hcs
  subst hcs
  refine ⟨[],Arr.nil _ _ _,by simp,?_,Or.inl rfl⟩
  simp only [Rows.uptoBulk] at hb
  simpa using hb
 ·simp only [List.cons.injEq,and_true] at hcs
  subst hcs
  have each:∀ i,i<len→∃ x:α,(∃ cs,w.cells? base (a.add (i * s)) s=some cs∧cs=encA x)∧Q x:=by
   intro i hi
   have h2:=hel i hi
   rw [List.getElem?_eq_getElem (by omega),hc] at h2
   obtain ⟨cs,h3,h4⟩:=Option.bind_eq_some_iff.1 h2
   obtain ⟨x,h5,h6⟩:=helem n cs _ (World.cells?_some h3).2.1 h4
   exact ⟨x,⟨cs,h3,h5⟩,h6⟩
  obtain ⟨xs,hxl,hx⟩:=choose_list len each
  refine ⟨xs,?_,?_,?_,?_⟩
  ·refine ⟨some a,cap,by rw [hxl],by omega,hm,?_⟩
   by_cases h0:xs=[]
   ·exact Or.inl h0
   ·right
    by_cases hspot:a.spot=none
    ·obtain ⟨ab,ao,sp⟩:=a
     simp only at hspot
     subst hspot
     refine ⟨ab,ao,rfl,fun k x hk j u hj=>?_⟩
     obtain ⟨⟨cs,h3,rfl⟩,_⟩:=hx k x hk
     obtain ⟨_,hlc,hcell⟩:=World.cells?_some h3
     have hjs:j<s:=by rw [← hlc];exact (List.getElem?_eq_some_iff.1 hj).1
     have h4:=hcell j hjs
     rw [hj] at h4
     rw [← h4]
     congr 1
     unfold Addr.add
     split <;> split <;> simp_all
    ·exfalso
     obtain ⟨x0,hx0⟩:∃ x0,xs[0]? = some x0:=by cases xs with | nil=>exact absurd rfl h0 | cons y _=>exact ⟨y,rfl⟩
     obtain ⟨⟨cs,h3,_⟩,_⟩:=hx 0 x0 hx0
     obtain ⟨_,hlc,hcell⟩:=World.cells?_some h3
     have h4:=hcell 0 hpos
     rw [Nat.zero_mul] at h4
     have e:(a.add 0).add 0=a:=by simp [Addr.add]
     rw [e,List.getElem?_eq_getElem (by omega)] at h4
     unfold World.cell? at h4
     split at h4
     ·cases hs:a.spot with
      | none=>exact hspot hs
      | some q=>rw [hs] at h4;simp at h4
     ·cases h4
  ·intro x hx'
   obtain ⟨i,hi⟩:=List.getElem?_of_mem hx'
   exact (hx i x hi).2
  ·have h2:=length_le_bulk (elems.map (·.1))
   simp only [Rows.uptoBulk,List.length_map] at hb h2
   omega
  ·right
   refine ⟨_,hw (((elems.map (·.1)).length+(rest.map (·.1)).length) * P.bytesOf e) ?_,?_⟩
   ·simp only [DataW.weights,hu]
    exact List.mem_cons_self
   ·rw [hxl,List.length_map,hlen]
    exact Nat.mul_le_mul_right _ (by omega)
end
end Go.Proofs.Ytgljbdcamagdbaa
namespace Go.Proofs.Ytgljbdcamagdbaa
open Go.RowKit
def objOf (n:Int):Int :=
 if n=22 then 1 else if n=23 then 1 else if n=30 then 2 else if n=31 then 2 else if n=40 then 3 else if n=41 then 3 else
 if n=50 then 4 else if n=51 then 4 else if n=52 then 4 else if n=60 then 5 else if n=61 then 5 else if n=62 then 5 else 0
set_option maxHeartbeats 400000 in
theorem mObject (n:Int) (w:World) :
  Calls Try.prog 16 #[.int .i64 n] w fun e w'=>e = .returned (.int .i64 (objOf n))∧w=w':=by
 go_enter Try.func16,Try.ntmps16
 go_wp2
 all_goals go_ret
 all_goals simp_all [objOf]
set_option maxHeartbeats 400000 in
theorem rObject0 (n:Int) (w:World) :
  Calls Try.prog 36 #[.int .i64 n] w fun e w'=>e = .returned (.int .i64 (objOf n))∧w=w':=by
 go_enter Try.func36,Try.ntmps36
 go_wp2
 all_goals go_ret
 all_goals simp_all [objOf]
set_option maxHeartbeats 400000 in
theorem rObject (n:Int) (w:World) :
  Calls Try.prog 17 #[.int .i64 n] w fun e w'=>e = .returned (.int .i64 (objOf n))∧w=w':=by
 go_enter Try.func17,Try.ntmps17
 go_wp2_with (go_at_call 36;refine (rObject0 _ _).mono ?_;rintro e w' ⟨rfl,rfl⟩)
 go_ret
 exact ⟨rfl,rfl⟩
set_option maxHeartbeats 400000 in
theorem lawObjects (n:Int) (w:World) :
  Calls Try.prog 3 #[.int .i64 n] w fun e w'=>e = .returned (.bool true)∧w=w':=by
 go_enter Try.func3,Try.ntmps3
 go_wp2_with (first
  | (go_at_call 16;refine (mObject _ _).mono ?_;rintro e w' ⟨rfl,rfl⟩)
  | (go_at_call 17;refine (rObject _ _).mono ?_;rintro e w' ⟨rfl,rfl⟩))
 go_ret
 exact ⟨rfl,rfl⟩
theorem own:ownKnob Try.prog.godebug=none:=by kernel_rfl
theorem laidOut:laidOutB Try.prog=true:=by kernel_rfl
namespace modelObjects
open Go.ChangeShapes Go.WideShapes Go.ChangeAt
set_option maxRecDepth 100000 in
theorem lifted (os:Os) (started:os.Started) (H:Type) (enc:TypeId×Value→H) :
  ReturnsInHanded {} Try.checked os 3 .any (Rows.modelObjectsSpec.pre6 enc Try.prog Try.f3 Rows.modelObjectsRow.domain false) (Rows.modelObjectsSpec.post enc Try.prog Try.f3 false true false false):=by
 refine returnsInHanded_of_change (C:=Try.checked) own started (by kernel_rfl) Try.func3
  (ChangeSpec.witness6 (enc:=enc) (C:=Try.checked) false ⟨#[],#[.int .i64 0],[]⟩ 8 (by kernel_rfl) (by kernel_rfl) (by kernel_rfl) (by kernel_rfl)) ?_
 intro W base args ds gs before hval0 hW hcnd _
 have hval:∀ (j:Nat) t v,Try.f3.params[j]? = some t→args[j]? = some v→Value.okWide Try.prog W .any base t v:=hval0
 have hW':=hW
 obtain ⟨p,q,hA0,hV,rfl,hfz,hnd⟩:=hW
 have hA:DataW.TrodAll enc Try.prog W 0 (fun _=>true) true Try.f3.params.toList args.toList ds p:=hA0
 rw [Try.params3] at hA hval
 obtain ⟨v0,vs0,d0,ds0,p0,q0,hargs,rfl,rfl,h0,r0⟩:=ChangeShapes.trodAll_cons hA
 obtain ⟨rfl,rfl,rfl⟩:=ChangeShapes.trodAll_nil r0
 obtain rfl:args = #[v0]:=by cases args;simp_all
 obtain ⟨a0,rfl,hd,_,w0⟩:=open_int Try.underlying3 (hval 0 3 v0 rfl rfl) h0
 refine (lawObjects a0 W).mono fun e W' ⟨he,hg⟩=>?_
 subst hg
 exact ⟨_,he,post_of_below laidOut rfl (by intro t ht;rw [Try.params3] at ht;simp at ht;subst ht;exact ⟨by kernel_rfl,of_decide_eq_true (by kernel_rfl)⟩) rfl Try.underlying4 hW' rfl (Below.refl _ _)⟩
theorem proved:Rows.ModelObjectsSaid :=
 OpenClaim.holds_of_wide 3 Try.f3 rfl rfl rfl rfl rfl rfl rfl ⟨rfl,rfl,rfl,rfl,rfl⟩ rfl rfl rfl rfl rfl (by kernel_rfl) Try.func3 (by kernel_rfl)
  (of_decide_eq_true (by kernel_rfl)) (by unfold Func.isWrapper;first | (rw [if_pos (by decide +kernel)];kernel_rfl) | (rw [if_neg (by decide +kernel)];exact ⟨rfl,rfl⟩))
  (fun os started H enc _=>lifted os started H enc)
end modelObjects
end Go.Proofs.Ytgljbdcamagdbaa
namespace Go.Proofs.Ytgljbdcamagdbaa
open Go.RowKit Go.ChangeShapes Go.WideShapes Go.ChangeAt
theorem MC.ok.le {m:MC} {j k:Nat} (h:m.ok k) (hj:j≤k):m.ok j:=by simp only [MC.ok] at *;omega
theorem leavesC:leavesIn Try.prog 9 29=some [26,26,26,26,27]:=by kernel_rfl
theorem leavesP:leavesIn Try.prog 9 76=some [3,3]:=by kernel_rfl
theorem cellsC:Try.prog.cellsOf 29=5:=by kernel_rfl
theorem cellsP:Try.prog.cellsOf 76=2:=by kernel_rfl
theorem cellsI:Try.prog.cellsOf 3=1:=by kernel_rfl
theorem bytesI:Try.prog.bytesOf 3=8:=by kernel_rfl
theorem bytesP:Try.prog.bytesOf 76=16:=by kernel_rfl
section
variable {H:Type} {enc:TypeId×Value→H} {w:World}
theorem leaf_ints {b:Nat} {ws:List Nat} {c:Value} (h:LeafAt enc Try.prog w 0 (fun _=>true) true b ws 26 c) :
  ∃ xs:List Int,Arr w eI 1 c xs∧xs.length+1≤b∧(xs=[]∨∃ k∈ws,xs.length * 8≤k):=by
 obtain ⟨xs,h1,_,h2,h3⟩:=h.slice (α:=Int) Try.underlying26 (by decide) cellsI eI (fun _=>True) (fun m cs y hl ht=>by
  obtain ⟨n,rfl,_⟩:=DataW.trod_int Try.underlying3 ht
  exact ⟨n,rfl,trivial⟩)
 rw [bytesI] at h3
 exact ⟨xs,h1,h2,h3⟩
theorem leaf_pairs {b:Nat} {ws:List Nat} {c:Value} (h:LeafAt enc Try.prog w 0 (fun _=>true) true b ws 27 c) :
  ∃ xs:List (Int×Int),Arr w eP 2 c xs∧xs.length+1≤b∧(xs=[]∨∃ k∈ws,xs.length * 16≤k):=by
 obtain ⟨xs,h1,_,h2,h3⟩:=h.slice (α:=Int×Int) Try.underlying27 (by decide) cellsP eP (fun _=>True) (fun m cs y hl ht=>by
  match cs,hl with
  | [c0,c1],_ =>
   obtain ⟨x,rfl,_⟩:=(leaf_of 9 _ _ leavesP m _ _ ht 0 3 c0 rfl rfl).int Try.underlying3
   obtain ⟨z,rfl,_⟩:=(leaf_of 9 _ _ leavesP m _ _ ht 1 3 c1 rfl rfl).int Try.underlying3
   exact ⟨(x,z),rfl,trivial⟩)
 rw [bytesP] at h3
 exact ⟨xs,h1,h2,h3⟩
end
end Go.Proofs.Ytgljbdcamagdbaa
namespace Go.Proofs.Ytgljbdcamagdbaa
open Go.RowKit
def RetE {α:Type} (W:World) (e:TypeId) (enc:α→List Value) (s:Nat) (l:List α) (r:Ending) (w' : World):Prop:=∃ v',r = .returned v'∧OwnE w' W.heap.size e enc s v' l∧Below W.heap.size W w'
theorem wpList_append_empty {P:Program} {w:World} {ops:Array Oper} {rest:List Oper} {o:Oper} {a:Act} {Q:Exit→Act→World→Prop} (hgd:o.guard=none) (s x:Operand) {t e:TypeId} {size bytes:Nat}
  (ho:o.op = .call { callee:=.builtin .append,args:=#[s,x],argTypes:=#[t,t] }) (T:ElemT P t e size bytes)
  {α:Type} {enc:α→List Value} (E:EncT enc size) {ba:Option Addr} {xs:List α} (hs:a.eval s = .slice ba 0 0)
  {v2:Value} (hx:a.eval x=v2) (hxs:Arr w enc size v2 xs)
  (hbytes:xs.length * bytes≤281474976710656) (h63:xs.length≤maxLen)
  (h:∀ v' w',Below w.heap.size w w'→OwnE w' w.heap.size e enc size v' xs→wpList P ops Q rest (a.put o.dst v') w'):wpList P ops Q (o :: rest) a w :=
 wpList_plain hgd fun _ hK=>wp_append_zero s x ho T E hs (arr_empty _ _ _ _) hx hxs (by simpa using hbytes) (by simpa using h63) fun v' w' hb h2=>hK _ _ (h v' w' hb (by
  rcases h2 with ⟨h1,h2,_⟩ | ⟨_,h2⟩
  ·exact Or.inl ⟨h1,ba,h2⟩
  ·simp only [Nat.zero_add,List.nil_append] at h2
   exact Or.inr h2))
theorem tE_stack:ElemT Try.prog 91 3 1 8:=⟨Try.underlying91,tI.ex,by decide⟩
set_option maxRecDepth 100000 in
set_option maxHeartbeats 400000 in
theorem clone_stack {v:Value} {l:List Int} {w:World} (h:Arr w eI 1 v l) (hl:l.length * 8≤281474976710656) :
  Calls Try.prog 78 #[v] w (RetE w 3 eI 1 l):=by
 have h0:=h
 obtain ⟨ba,cap,rfl,hlc,hcm,hc⟩:=h
 have H:=Lib.hid h0;clear h0
 have HC:=Lib.hid hc;clear hc
 have HL:=Lib.hid hl;clear hl
 have HM:=Lib.hid (Nat.le_trans hlc hcm);clear hlc hcm
 have hq:=fun wx=>Lib.run_eql_slice_nil (P:=Try.prog) wx 91 _ ba l.length cap 0 0 Try.underlying91
 rcases ba with _ | ba
 ·have hl0:l=[]:=by
   rcases HC.out with h | ⟨_,_,h,_⟩
   ·exact h
   ·cases h
  have HL0:=Lib.hid hl0;clear hl0
  go_enter Try.func78,Try.ntmps78
  go_wp2
  go_ret
  exact ⟨_,rfl,Or.inl ⟨HL0.out,none,rfl⟩,Below.refl _ _⟩
 ·go_enter Try.func78,Try.ntmps78
  go_wp2_with (at_builtin;refine wpList_append_empty rfl (.tmp 5) (.tmp 6) rfl tE_stack eI_ok rfl rfl (H.out.below (below_box _ _)) HL.out HM.out ?_;intro v' w' hb ho)
  have HO:=Lib.hid ho;clear ho
  go_wp2
  go_ret
  exact ⟨v',rfl,HO.out.base (by simp),below_from (hb.mono (by simp))⟩
theorem tE_queue:ElemT Try.prog 92 3 1 8:=⟨Try.underlying92,tI.ex,by decide⟩
set_option maxRecDepth 100000 in
set_option maxHeartbeats 400000 in
theorem clone_queue {v:Value} {l:List Int} {w:World} (h:Arr w eI 1 v l) (hl:l.length * 8≤281474976710656) :
  Calls Try.prog 81 #[v] w (RetE w 3 eI 1 l):=by
 have h0:=h
 obtain ⟨ba,cap,rfl,hlc,hcm,hc⟩:=h
 have H:=Lib.hid h0;clear h0
 have HC:=Lib.hid hc;clear hc
 have HL:=Lib.hid hl;clear hl
 have HM:=Lib.hid (Nat.le_trans hlc hcm);clear hlc hcm
 have hq:=fun wx=>Lib.run_eql_slice_nil (P:=Try.prog) wx 92 _ ba l.length cap 0 0 Try.underlying92
 rcases ba with _ | ba
 ·have hl0:l=[]:=by
   rcases HC.out with h | ⟨_,_,h,_⟩
   ·exact h
   ·cases h
  have HL0:=Lib.hid hl0;clear hl0
  go_enter Try.func81,Try.ntmps81
  go_wp2
  go_ret
  exact ⟨_,rfl,Or.inl ⟨HL0.out,none,rfl⟩,Below.refl _ _⟩
 ·go_enter Try.func81,Try.ntmps81
  go_wp2_with (at_builtin;refine wpList_append_empty rfl (.tmp 5) (.tmp 6) rfl tE_queue eI_ok rfl rfl (H.out.below (below_box _ _)) HL.out HM.out ?_;intro v' w' hb ho)
  have HO:=Lib.hid ho;clear ho
  go_wp2
  go_ret
  exact ⟨v',rfl,HO.out.base (by simp),below_from (hb.mono (by simp))⟩
theorem tE_set:ElemT Try.prog 93 3 1 8:=⟨Try.underlying93,tI.ex,by decide⟩
set_option maxRecDepth 100000 in
set_option maxHeartbeats 400000 in
theorem clone_set {v:Value} {l:List Int} {w:World} (h:Arr w eI 1 v l) (hl:l.length * 8≤281474976710656) :
  Calls Try.prog 87 #[v] w (RetE w 3 eI 1 l):=by
 have h0:=h
 obtain ⟨ba,cap,rfl,hlc,hcm,hc⟩:=h
 have H:=Lib.hid h0;clear h0
 have HC:=Lib.hid hc;clear hc
 have HL:=Lib.hid hl;clear hl
 have HM:=Lib.hid (Nat.le_trans hlc hcm);clear hlc hcm
 have hq:=fun wx=>Lib.run_eql_slice_nil (P:=Try.prog) wx 93 _ ba l.length cap 0 0 Try.underlying93
 rcases ba with _ | ba
 ·have hl0:l=[]:=by
   rcases HC.out with h | ⟨_,_,h,_⟩
   ·exact h
   ·cases h
  have HL0:=Lib.hid hl0;clear hl0
  go_enter Try.func87,Try.ntmps87
  go_wp2
  go_ret
  exact ⟨_,rfl,Or.inl ⟨HL0.out,none,rfl⟩,Below.refl _ _⟩
 ·go_enter Try.func87,Try.ntmps87
  go_wp2_with (at_builtin;refine wpList_append_empty rfl (.tmp 5) (.tmp 6) rfl tE_set eI_ok rfl rfl (H.out.below (below_box _ _)) HL.out HM.out ?_;intro v' w' hb ho)
  have HO:=Lib.hid ho;clear ho
  go_wp2
  go_ret
  exact ⟨v',rfl,HO.out.base (by simp),below_from (hb.mono (by simp))⟩
theorem tE_table:ElemT Try.prog 94 76 2 16:=⟨Try.underlying94,tP.ex,by decide⟩
set_option maxRecDepth 100000 in
set_option maxHeartbeats 400000 in
theorem clone_table {v:Value} {l:List (Int×Int)} {w:World} (h:Arr w eP 2 v l) (hl:l.length * 16≤281474976710656) :
  Calls Try.prog 102 #[v] w (RetE w 76 eP 2 l):=by
 have h0:=h
 obtain ⟨ba,cap,rfl,hlc,hcm,hc⟩:=h
 have H:=Lib.hid h0;clear h0
 have HC:=Lib.hid hc;clear hc
 have HL:=Lib.hid hl;clear hl
 have HM:=Lib.hid (Nat.le_trans hlc hcm);clear hlc hcm
 have hq:=fun wx=>Lib.run_eql_slice_nil (P:=Try.prog) wx 94 _ ba l.length cap 0 0 Try.underlying94
 rcases ba with _ | ba
 ·have hl0:l=[]:=by
   rcases HC.out with h | ⟨_,_,h,_⟩
   ·exact h
   ·cases h
  have HL0:=Lib.hid hl0;clear hl0
  go_enter Try.func102,Try.ntmps102
  go_wp2
  go_ret
  exact ⟨_,rfl,Or.inl ⟨HL0.out,none,rfl⟩,Below.refl _ _⟩
 ·go_enter Try.func102,Try.ntmps102
  go_wp2_with (at_builtin;refine wpList_append_empty rfl (.tmp 5) (.tmp 6) rfl tE_table eP_ok rfl rfl (H.out.below (below_box _ _)) HL.out HM.out ?_;intro v' w' hb ho)
  have HO:=Lib.hid ho;clear ho
  go_wp2
  go_ret
  exact ⟨v',rfl,HO.out.base (by simp),below_from (hb.mono (by simp))⟩
end Go.Proofs.Ytgljbdcamagdbaa
namespace Go.Proofs.Ytgljbdcamagdbaa
open Go.RowKit
structure ElemI (P:Program) (e:TypeId) (size bytes:Nat) (z:Value):Prop where
 ex:∃ i,P.info? e=some i∧i.zero=some z∧i.size=size∧i.bytes=bytes
 zs:z.cells.size=size
 z1:∀ u∈z.cells.toList,u.oneCell' = true
 pos:0<size
theorem ElemI.sizeOf {P:Program} {e:TypeId} {size bytes:Nat} {z:Value} (I:ElemI P e size bytes z) (w:World):(Go.sizeOf e).run P w = .ok size w:=by
 obtain ⟨i0,hi,_,hs,_⟩:=I.ex
 simp [Go.sizeOf,typeInfo,hi,hs]
theorem run_copy_rowS {P:Program} (w:World) (dT sT ty elem:TypeId) (s:Nat) (g o dLen dCap:Nat) (a:Addr) (sLen sCap:Nat) (cur:List Value) (t:TypeId) (cs:List Value)
  (hu:P.underlying dT=some (.slice elem)) (hs:(P.info? elem).map (·.size)=some s)
  (hg:w.heap[g]? = some (.cells cur.toArray t (0,0))) (hn:cs.length=Nat.min sLen dLen * s)
  (hsrc:∀ j v,cs[j]? = some v→w.cell? (a.add j)=some v) (hfit:o+cs.length≤cur.length) (h1:∀ v∈cs,v.oneCell' = true) :
  (Builtin.copy_ #[dT,sT] ty #[.slice (some ⟨g,o,none⟩) dLen dCap,.slice (some a) sLen sCap]).run P w =
   .ok (goInt (Nat.min sLen dLen)) (w.setRow g (splice cur o cs).toArray):=by
 have hl:=run_loadCells_list (P:=P) w a cs hsrc
 have hst:=run_storeCells_at P g o t cs 0 cur.toArray w hg (by simpa using hfit) h1
 cases hq:P.info? elem with
 | none=>simp [hq] at hs
 | some i =>
  have hi:i.size=s:=by simpa [hq] using hs
  subst hi
  simp [Builtin.copy_,run_underlying hu,Builtin.lenOf,Builtin.firstCells,sizeOf,typeInfo,hq,← hn,hl,hst,splice]
theorem wp_copy_rowS {P:Program} {w:World} {o:Oper} {a:Act} {K:Act→World→Prop} {Q:Exit→Act→World→Prop} (d s:Operand) (dT sT:TypeId)
  (ho:o.op = .call { callee:=.builtin .copy,args:=#[d,s],argTypes:=#[dT,sT] }) (elem:TypeId) (size:Nat) (hu:P.underlying dT=some (.slice elem)) (hsz:(P.info? elem).map (·.size)=some size)
  {g off dLen dCap:Nat} {ad:Addr} {sLen sCap:Nat} (hd:a.eval d = .slice (some ⟨g,off,none⟩) dLen dCap) (hs:a.eval s = .slice (some ad) sLen sCap)
  {cur:List Value} {t:TypeId} (hg:w.heap[g]? = some (.cells cur.toArray t (0,0))) (cs:List Value) (hn:cs.length=Nat.min sLen dLen * size)
  (hsrc:∀ j v,cs[j]? = some v→w.cell? (ad.add j)=some v) (hfit:off+cs.length≤cur.length) (h1:∀ v∈cs,v.oneCell' = true)
  (h:∀ w',w' = w.setRow g (splice cur off cs).toArray→K (a.put o.dst (goInt (Nat.min sLen dLen))) w'):o.wp P a w K Q:=by
 have hr:=run_copy_rowS (P:=P) w dT sT o.type elem size g off dLen dCap ad sLen sCap cur t cs hu hsz hg hn hsrc hfit h1
 unfold Oper.wp execOp
 simp only [ho,resolve,invoke,builtin,Sem.run_bind,Sem.run_pure,Result.andThen_ok,List.map_toArray,List.map_cons,List.map_nil,hs,hd,hr]
 exact h _ rfl
theorem wpList_copy_rowS {P:Program} {w:World} {ops:Array Oper} {rest:List Oper} {o:Oper} {a:Act} {Q:Exit→Act→World→Prop} (hgd:o.guard=none) (d s:Operand) (dT sT:TypeId)
  (ho:o.op = .call { callee:=.builtin .copy,args:=#[d,s],argTypes:=#[dT,sT] }) (elem:TypeId) (size:Nat) (hu:P.underlying dT=some (.slice elem)) (hsz:(P.info? elem).map (·.size)=some size)
  {g off dLen dCap:Nat} {ad:Addr} {sLen sCap:Nat} (hd:a.eval d = .slice (some ⟨g,off,none⟩) dLen dCap) (hs:a.eval s = .slice (some ad) sLen sCap)
  {cur:List Value} {t:TypeId} (hg:w.heap[g]? = some (.cells cur.toArray t (0,0))) (cs:List Value) (hn:cs.length=Nat.min sLen dLen * size)
  (hsrc:∀ j v,cs[j]? = some v→w.cell? (ad.add j)=some v) (hfit:off+cs.length≤cur.length) (h1:∀ v∈cs,v.oneCell' = true)
  (h:∀ w',w' = w.setRow g (splice cur off cs).toArray→wpList P ops Q rest (a.put o.dst (goInt (Nat.min sLen dLen))) w'):wpList P ops Q (o :: rest) a w :=
 wpList_plain hgd fun _ hK=>wp_copy_rowS d s dT sT ho elem size hu hsz hd hs hg cs hn hsrc hfit h1 fun w' e=>hK _ _ (h w' e)
theorem step_copy_rowS {P:Program} {w:World} {ops:Array Oper} {o:Oper} {a:Act} {K:Act→World→Prop} {Q:Exit→Act→World→Prop} {F:Prop} (hgd:o.guard=none) (d s:Operand) (dT sT:TypeId)
  (ho:o.op = .call { callee:=.builtin .copy,args:=#[d,s],argTypes:=#[dT,sT] }) (elem:TypeId) (size:Nat) (hu:P.underlying dT=some (.slice elem)) (hsz:(P.info? elem).map (·.size)=some size)
  {g off dLen dCap:Nat} {ad:Addr} {sLen sCap:Nat} (hd:a.eval d = .slice (some ⟨g,off,none⟩) dLen dCap) (hs:a.eval s = .slice (some ad) sLen sCap)
  {cur:List Value} {t:TypeId} (hg:w.heap[g]? = some (.cells cur.toArray t (0,0))) (cs:List Value) (hn:cs.length=Nat.min sLen dLen * size)
  (hsrc:∀ j v,cs[j]? = some v→w.cell? (ad.add j)=some v) (hfit:off+cs.length≤cur.length) (h1:∀ v∈cs,v.oneCell' = true)
  (h:∀ w',w' = w.setRow g (splice cur off cs).toArray→K (a.put o.dst (goInt (Nat.min sLen dLen))) w') :
  if Region.wanted o (yielded ops a.tmps)=true then Oper.wp P o a w K Q else F:=by
 have hw:Region.wanted o (yielded ops a.tmps)=true:=by simp [Region.wanted,hgd]
 rw [if_pos hw]
 exact wp_copy_rowS d s dT sT ho elem size hu hsz hd hs hg cs hn hsrc hfit h1 h
theorem run_append_zeros {P:Program} {w:World} {t tn e:TypeId} (ty:TypeId) {size bytes:Nat} {z:Value} (I:ElemI P e size bytes z) (ht:P.underlying t=some (.slice e)) (htn:P.underlying tn=some (.int .i64))
  (b:Addr) (sLen sCap k:Nat) (olds:List Value) (hlo:olds.length=sLen * size) (holds:∀ j v,olds[j]? = some v→w.cell? (b.add j)=some v) (h0:0<k) (hg:sCap<sLen+k)
  (hbytes:(sLen+k) * bytes≤140737488355328) (h63:sLen+k≤maxLen) :
  ∃ (cap:Nat) (spare:List Value),(Builtin.append_ #[t,tn] ty #[.slice (some b) sLen sCap,.int .i64 k]).run P w =
   .ok (.slice (some ⟨w.heap.size,0,none⟩) (sLen+k) cap) (w.drew.alloc (.cells (olds++(Builtin.zeroCells z.cells k).toList++spare).toArray e))∧sLen+k≤cap∧cap≤maxLen ∧
   (olds++(Builtin.zeroCells z.cells k).toList++spare).length=cap * size:=by
 obtain ⟨i,hi,hz,hsz,hby⟩:=I.ex
 subst hsz
 subst hby
 have hold:(Builtin.firstCells i.size sLen (.slice (some b) sLen sCap)).run P w.drew = .ok olds.toArray w.drew :=
  run_firstCells_some (P:=P) w.drew i.size sLen b sLen sCap olds hlo (by simpa using holds)
 have hr:=Lib.run_append_grow_zeros w t tn ty e i z .i64 .i64 ht htn hi hz (some b) sLen sCap olds hold k h0 I.pos hg (by unfold maxLen at h63;omega) (by
  have:k * i.bytes≤(sLen+k) * i.bytes:=Nat.mul_le_mul_right _ (by omega)
  omega) (growslice_fits hg hbytes)
 have hge:=grownCap_ge w (sLen+k) sCap e
 have hcm:grownCap w (sLen+k) sCap e≤maxLen:=grownCap_le_maxLen w (sLen+k) sCap e h63
 refine ⟨grownCap w (sLen+k) sCap e,(Builtin.zeroCells z.cells (grownCap w (sLen+k) sCap e - (sLen+k))).toList,?_,hge,hcm,?_⟩
 ·rw [hr]
  congr 2
  simp
 ·simp only [List.length_append,Array.length_toList,size_zeroCells,I.zs,hlo,← Nat.add_mul]
  congr 1
  omega
theorem wpList_append_zeros {P:Program} {w:World} {ops:Array Oper} {rest:List Oper} {o:Oper} {a:Act} {Q:Exit→Act→World→Prop} (hgd:o.guard=none) (s x:Operand) {t tn e:TypeId} {size bytes:Nat} {z:Value}
  (ho:o.op = .call { callee:=.builtin .append,args:=#[s,x],argTypes:=#[t,tn] }) (I:ElemI P e size bytes z) (ht:P.underlying t=some (.slice e)) (htn:P.underlying tn=some (.int .i64))
  {b:Addr} {sLen sCap:Nat} (hs:a.eval s = .slice (some b) sLen sCap) (k:Nat) {kk:Int} (hx:a.eval x = .int .i64 kk) (hk:kk=k) (olds:List Value) (hlo:olds.length=sLen * size) (holds:∀ j v,olds[j]? = some v→w.cell? (b.add j)=some v) (h0:0<k) (hg:sCap<sLen+k)
  (hbytes:(sLen+k) * bytes≤140737488355328) (h63:sLen+k≤maxLen)
  (h:∀ w' cap Z spare,w'.heap[w.heap.size]? = some (.cells (olds++(Z++spare)).toArray e (0,0))→Below w.heap.size w w'→w.heap.size<w'.heap.size→Z.length=k * size→sLen+k≤cap→cap≤maxLen→(olds++(Z++spare)).length=cap * size →
   wpList P ops Q rest (a.put o.dst (.slice (some ⟨w.heap.size,0,none⟩) (sLen+k) cap)) w'):wpList P ops Q (o :: rest) a w:=by
 subst hk
 obtain ⟨cap,spare,hr,h1,h2,h3⟩:=run_append_zeros (w:=w) o.type I ht htn b sLen sCap k olds hlo holds h0 hg hbytes h63
 refine wpList_plain hgd fun K hK=>?_
 unfold Oper.wp execOp
 simp only [ho,resolve,invoke,builtin,Sem.run_bind,Sem.run_pure,Result.andThen_ok,List.map_toArray,List.map_cons,List.map_nil,hs,hx,hr]
 rw [List.append_assoc] at h3 ⊢
 refine hK _ _ (h _ cap _ spare (heap_alloc_new w.drew _) (((Below.refl _ _).drew).alloc (Nat.le_refl _) _) (by simp) ?_ h1 h2 h3)
 rw [Array.length_toList,size_zeroCells,I.zs]
theorem run_append_rowS {P:Program} (w:World) {t ty e:TypeId} {size bytes:Nat} {z:Value} (I:ElemI P e size bytes z) (ht:P.underlying t=some (.slice e))
  (g o n cap:Nat) (a:Addr) (m c:Nat) (cur:List Value) (tt:TypeId) (cs:List Value)
  (hg:w.heap[g]? = some (.cells cur.toArray tt (0,0))) (hn:cs.length=m * size) (hroom:n+m≤cap)
  (hsrc:∀ j v,cs[j]? = some v→w.cell? (a.add j)=some v) (hfit:o+n * size+cs.length≤cur.length) (h1:∀ v∈cs,v.oneCell' = true) :
  (Builtin.append_ #[t,t] ty #[.slice (some ⟨g,o,none⟩) n cap,.slice (some a) m c]).run P w =
   .ok (.slice (some ⟨g,o,none⟩) (n+m) cap) (w.setRow g (splice cur (o+n * size) cs).toArray):=by
 obtain ⟨i,hi,_,hs,_⟩:=I.ex
 subst hs
 have hfc:=run_firstCells_some (P:=P) w i.size m a m c cs hn hsrc
 have hst:=run_storeCells_at P g (o+n * i.size) tt cs 0 cur.toArray w hg (by simpa using hfit) h1
 simp only [Nat.add_zero] at hst
 simp [Builtin.append_,run_underlying ht,sizeOf,typeInfo,hi,Builtin.lenOf,hroom,hfc,Addr.add_lit,hst,splice]
theorem step_append_rowS {P:Program} {w:World} {ops:Array Oper} {o:Oper} {a:Act} {K:Act→World→Prop} {Q:Exit→Act→World→Prop} {F:Prop} (hgd:o.guard=none) (d s:Operand) (dT:TypeId)
  (ho:o.op = .call { callee:=.builtin .append,args:=#[d,s],argTypes:=#[dT,dT] }) {e:TypeId} {size bytes:Nat} {z:Value} (I:ElemI P e size bytes z) (hu:P.underlying dT=some (.slice e))
  {g off n cap:Nat} {ad:Addr} {m c:Nat} (hd:a.eval d = .slice (some ⟨g,off,none⟩) n cap) (hs:a.eval s = .slice (some ad) m c)
  {cur:List Value} {t:TypeId} (hg:w.heap[g]? = some (.cells cur.toArray t (0,0))) (cs:List Value) (hn:cs.length=m * size) (hroom:n+m≤cap)
  (hsrc:∀ j v,cs[j]? = some v→w.cell? (ad.add j)=some v) (hfit:off+n * size+cs.length≤cur.length) (h1:∀ v∈cs,v.oneCell' = true)
  (h:∀ w',w' = w.setRow g (splice cur (off+n * size) cs).toArray→K (a.put o.dst (.slice (some ⟨g,off,none⟩) (n+m) cap)) w') :
  if Region.wanted o (yielded ops a.tmps)=true then Oper.wp P o a w K Q else F:=by
 have hw:Region.wanted o (yielded ops a.tmps)=true:=by simp [Region.wanted,hgd]
 rw [if_pos hw]
 have hr:=run_append_rowS (P:=P) w (ty:=o.type) I hu g off n cap ad m c cur t cs hg hn hroom hsrc hfit h1
 unfold Oper.wp execOp
 simp only [ho,resolve,invoke,builtin,Sem.run_bind,Sem.run_pure,Result.andThen_ok,List.map_toArray,List.map_cons,List.map_nil,hs,hd,hr]
 exact h _ rfl
theorem mem_zeroCells {z:Array Value} {n:Nat} {u:Value} (h:u∈(Builtin.zeroCells z n).toList):u∈z.toList:=by
  simp only [Builtin.zeroCells] at h
  simp only [Array.toList_map,Array.toList_range,List.mem_map,List.mem_range] at h
  obtain ⟨a,ha,rfl⟩:=h
  have h0 : 0 < z.size := by rcases Nat.eq_zero_or_pos z.size with h | h;· rw [h] at ha;omega
                             · exact h
  have h1:a % z.size<z.size:=Nat.mod_lt _ h0
  simp [getElem!_pos,h1]
theorem run_clear_rowS {P:Program} (w:World) {t ty e:TypeId} {size bytes:Nat} {z:Value} (I:ElemI P e size bytes z) (ht:P.underlying t=some (.slice e))
  (g o n c:Nat) (cur:List Value) (tt:TypeId)
  (hg:w.heap[g]? = some (.cells cur.toArray tt (0,0))) (hn:n≠0) (hfit:o+n * size≤cur.length) :
  ∃ cs:List Value,cs.length=n * size∧(Builtin.clear_ #[t] ty #[.slice (some ⟨g,o,none⟩) n c]).run P w =
   .ok (.tuple #[]) (w.setRow g (splice cur o cs).toArray):=by
 obtain ⟨i,hi,hz,hs,_⟩:=I.ex
 subst hs
 refine ⟨(Builtin.zeroCells z.cells n).toList,by rw [Array.length_toList,size_zeroCells,I.zs],?_⟩
 have hst:=run_storeCells_at P g o tt (Builtin.zeroCells z.cells n).toList 0 cur.toArray w hg (by rw [Array.length_toList,size_zeroCells,I.zs];simpa using hfit) (by
  intro u hu
  exact I.z1 u (mem_zeroCells hu))
 have hv:(zeroValue e).run P w = .ok z w:=by simp [zeroValue,typeInfo,hi,hz]
 obtain ⟨k,rfl⟩:∃ k,n=k+1:=⟨n - 1,by omega⟩
 simp [Builtin.clear_,run_underlying ht,hv,hst,splice]
theorem wpList_clear_rowS {P:Program} {w:World} {ops:Array Oper} {rest:List Oper} {o:Oper} {a:Act} {Q:Exit→Act→World→Prop} (hgd:o.guard=none) (d:Operand) (dT:TypeId)
  (ho:o.op = .call { callee:=.builtin .clear,args:=#[d],argTypes:=#[dT] }) {e:TypeId} {size bytes:Nat} {z:Value} (I:ElemI P e size bytes z) (hu:P.underlying dT=some (.slice e))
  {g off n c:Nat} (hd:a.eval d = .slice (some ⟨g,off,none⟩) n c) {cur:List Value} {t:TypeId} (hg:w.heap[g]? = some (.cells cur.toArray t (0,0))) (hn:n≠0) (hfit:off+n * size≤cur.length)
  (h:∀ w' cs,cs.length=n * size→w' = w.setRow g (splice cur off cs).toArray→wpList P ops Q rest (a.put o.dst (.tuple #[])) w'):wpList P ops Q (o :: rest) a w:=by
 obtain ⟨cs,hcs,hr⟩:=run_clear_rowS (P:=P) w (ty:=o.type) I hu g off n c cur t hg hn hfit
 refine wpList_plain hgd fun K hK=>?_
 unfold Oper.wp execOp
 simp only [ho,resolve,invoke,builtin,Sem.run_bind,Sem.run_pure,Result.andThen_ok,List.map_toArray,List.map_cons,List.map_nil,hd,hr]
 exact hK _ _ (h _ cs hcs rfl)
theorem splice_at {α:Type} (X Z R E:List α) (k:Nat) (hX:X.length=k) (hZ:Z.length=E.length):splice (X++(Z++R)) k E=X++(E++R):=by
 subst hX
 unfold splice
 rw [List.take_left,← hZ]
 congr 2
 rw [← List.append_assoc,show X.length+Z.length=(X++Z).length by simp,List.drop_left]
theorem splice_ins {α:Type} (X Y S E:List α) (k s:Nat) (hX:X.length=k) (hE:E.length=s) (hS:s≤S.length) :
  splice (splice (X++(Y++S)) (k+s) Y) k E=X++(E++(Y++S.drop s)):=by
 obtain ⟨Z,R,hZR,hZ⟩:∃ Z R,Y++S=Z++R∧Z.length=s:=⟨(Y++S).take s,(Y++S).drop s,(List.take_append_drop _ _).symm,by rw [List.length_take,List.length_append];omega⟩
 have e1:splice (X++(Y++S)) (k+s) Y=(X++Z)++(Y++S.drop s):=by
  rw [hZR,← List.append_assoc]
  have hR:R=(R.take Y.length)++R.drop Y.length:=(List.take_append_drop _ _).symm
  have hRl:R.length=Y.length+S.length - s:=by
   have:=congrArg List.length hZR
   simp only [List.length_append] at this
   omega
  rw [hR,splice_at (X++Z) (R.take Y.length) (R.drop Y.length) Y (k+s) (by simp [hX,hZ]) (by rw [List.length_take];omega)]
  congr 2
  have h2:(Y++S).drop (s+Y.length)=R.drop Y.length:=by
   rw [hZR,← hZ,List.drop_append,show Z.length+Y.length - Z.length=Y.length by omega,List.drop_eq_nil_of_le (by omega),List.nil_append]
  rw [← h2,List.drop_append,show s+Y.length - Y.length=s by omega,List.drop_eq_nil_of_le (by omega),List.nil_append]
 rw [e1,List.append_assoc,splice_at X Z (Y++S.drop s) E k hX (by rw [hZ,hE])]
theorem splice_new {α:Type} (X Z S E Y:List α) (k s:Nat) (hX:X.length=k) (hE:E.length=s) (hZ:Z.length=s+Y.length) :
  splice (splice (X++(Z++S)) k E) (k+s) Y=X++(E++(Y++S)):=by
 have hz:Z=Z.take s++Z.drop s:=(List.take_append_drop _ _).symm
 rw [hz,List.append_assoc,splice_at X (Z.take s) (Z.drop s++S) E k hX (by rw [List.length_take,hE];omega),← List.append_assoc,
  splice_at (X++E) (Z.drop s) S Y (k+s) (by simp [hX,hE]) (by rw [List.length_drop];omega),List.append_assoc]
end Go.Proofs.Ytgljbdcamagdbaa
