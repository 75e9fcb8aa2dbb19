/- TsoFreshSaid: what its proof is made of. No condition. -/
import Derived.Test.YtmcpdafmkkjlcaaPkTTsoFreshAP
set_option linter.unusedSimpArgs false
set_option linter.unusedVariables false
namespace Go.Proofs.Ytmcpdafmkkjlcaa.Z
open Go Go.RowKit
structure WkNd (L:Lt) (o:Int) (l:List Sp):Prop extends WkOk L o l where
 nd:(l.map (·.s)).Nodup
theorem bfsI_ok {L:Lt} {o:Int} (hL:checkB L=true) {i:Nat}:∀ {ts:List Tn} {l l' : List Sp},WkNd L o l→i<l.length→bfsI L o i ts l=some l'→WkNd L o l'∧i<l'.length
 | [],l,l',h,hi,e=>by
  simp only [bfsI,Option.some.injEq] at e
  subst e;exact ⟨h,hi⟩
 | t :: ts,l,l',h,hi,e=>by
  simp only [bfsI] at e
  split at e
  ·next hc =>
   split at e
   ·cases e
   ·next hl =>
    refine bfsI_ok hL ⟨wkOk_push h.toWkOk hl (turn_wfT hL (h.toWkOk.at hi) t),?_⟩ (by simp;omega) e
    rw [List.map_append,List.map_cons,List.map_nil,List.nodup_append]
    exact ⟨h.nd,by simp,fun a ha b hb q=>by
     rw [List.mem_singleton] at hb
     subst hb
     subst q
     exact hc.2 ha⟩
  ·exact bfsI_ok hL h hi e
theorem bfsO_ok {L:Lt} {o:Int} (hL:checkB L=true):∀ {n i:Nat} {l l' : List Sp},WkNd L o l→bfsO L o n i l=some l'→WkNd L o l'
 | 0,i,l,l',h,e=>by
  simp only [bfsO,Option.some.injEq] at e
  subst e;exact h
 | n+1,i,l,l',h,e=>by
  simp only [bfsO] at e
  split at e
  ·next hi =>
   cases hb:bfsI L o i (turnsL L o) l with
   | none=>rw [hb] at e;cases e
   | some l2 =>
    rw [hb] at e
    exact bfsO_ok hL (bfsI_ok hL h hi hb).1 e
  ·simp only [Option.some.injEq] at e
   subst e;exact h
theorem bfs_ok {L:Lt} {o:Int} (hL:checkB L=true) {l:List Sp} (h:bfs L o=some l):WkNd L o l :=
 bfsO_ok hL ⟨wkOk_begin,by simp⟩ h
theorem fin_inj {L:Lt} {o:Int} {s s' : LS} (h:WfT L o s) (h' : WfT L o s') (hf:finB L s=true) (hf' : finB L s' = true) (e:endF s=endF s'):s=s':=by
 have g:=finB_iff.1 hf
 have g':=finB_iff.1 hf'
 have hw:=h.wf;have hw':=h'.wf
 cases s with | mk w r p b =>
 cases s' with | mk w' r' p' b' =>
 simp only [endF,Fn.mk.injEq] at e
 obtain ⟨rfl,rfl⟩:=e
 have ep:p=p':=by
  refine List.ext_getElem (by have:=hw.p;have:=hw'.p;simp only at *;omega) fun i h1 h2=>?_
  have hi:i<L.thr.length:=by have:=hw.p;simp only at this;omega
  have k1:=(g i hi).1;have k2:=(g' i hi).1
  simp only [List.getD_eq_getElem?_getD,List.getElem?_eq_getElem h1,List.getElem?_eq_getElem h2,Option.getD_some] at k1 k2
  rw [k1,k2]
 have eb:b=b':=by
  refine List.ext_getElem (by have:=hw.b;have:=hw'.b;simp only at *;omega) fun i h1 h2=>?_
  have hi:i<L.thr.length:=by have:=hw.b;simp only at this;omega
  have k1:=(g i hi).2;have k2:=(g' i hi).2
  simp only [List.getD_eq_getElem?_getD,List.getElem?_eq_getElem h1,List.getElem?_eq_getElem h2,Option.getD_some] at k1 k2
  rw [List.eq_nil_of_length_eq_zero k1,List.eq_nil_of_length_eq_zero k2]
 rw [ep,eb]
def catR:List R4→List Int
 | []=>[]
 | r :: l=>r4L r++catR l
theorem catR_app:∀ l m:List R4,catR (l++m)=catR l++catR m
 | [],m=>rfl
 | r :: l,m=>by simp [catR,catR_app l m]
theorem numT_take (f:Fn):∀ n,n≤f.regs.length→numT f n=f.words++catR (f.regs.take n)
 | 0,_=>by simp [numT,catR]
 | n+1,h=>by
  rw [numT,numT_take f n (by omega),List.take_succ_eq_append_getElem (by omega),catR_app,List.append_assoc]
  simp [catR,List.getD_eq_getElem?_getD,List.getElem?_eq_getElem (show n<f.regs.length by omega)]
theorem numF_eq (f:Fn):numF f=f.words++catR f.regs:=by rw [numF,numT_take f _ (Nat.le_refl _),List.take_length]
theorem ordR_eq:∀ {l m:List R4},l.length=m.length→ordR l m=cmpL (catR l) (catR m)
 | [],[],_=>by simp [ordR,catR,cmpL]
 | [],_ :: _,h=>by simp at h
 | _ :: _,[],h=>by simp at h
 | x :: l,y :: m,h=>by
  simp only [ordR,catR]
  rw [cmp_app (by simp [r4L]),ordR_eq (by simpa using h)]
theorem ordF_eq {a b:Fn} (h1:a.words.length=b.words.length) (h2:a.regs.length=b.regs.length):ordF a b=cmpL (numF a) (numF b):=by
 rw [ordF,numF_eq,numF_eq,cmp_app h1,ordR_eq h2]
theorem r4L_inj {x y:R4} (h:r4L x=r4L y):x=y:=by
 cases x;cases y;simp [r4L] at h;obtain ⟨rfl,rfl,rfl,rfl⟩:=h;rfl
theorem catR_inj:∀ {l m:List R4},l.length=m.length→catR l=catR m→l=m
 | [],[],_,_=>rfl
 | [],_ :: _,h,_=>by simp at h
 | _ :: _,[],h,_=>by simp at h
 | x :: l,y :: m,h,e=>by
  simp only [catR] at e
  obtain ⟨e1,e2⟩:=List.append_inj e (by simp [r4L])
  rw [r4L_inj e1,catR_inj (by simpa using h) e2]
theorem numF_inj {a b:Fn} (h1:a.words.length=b.words.length) (h2:a.regs.length=b.regs.length) (e:numF a=numF b):a=b:=by
 rw [numF_eq,numF_eq] at e
 obtain ⟨e1,e2⟩:=List.append_inj e h1
 cases a;cases b
 simp only at *
 rw [e1,catR_inj h2 e2]
def SameSh (l:List Fn):Prop:=∀ a∈l,∀ b∈l,a.words.length=b.words.length∧a.regs.length=b.regs.length
def SrtF (l:List Fn):Prop:=l.Pairwise fun a b=>lessL (numF a) (numF b)=true
theorem same_iff {a b:Fn} (h:a.words.length=b.words.length∧a.regs.length=b.regs.length):sameF a b=true↔a=b:=by
 unfold sameF
 rw [decide_eq_true h,Bool.true_and]
 constructor
 ·intro e
  simp only [Bool.and_eq_true,Bool.not_eq_true'] at e
  exact numF_inj h.1 h.2 (less_eq e.1 e.2)
 ·rintro rfl
  simp [less_irr]
theorem insF_perm {x:Fn}:∀ {l:List Fn},x ∉ l→(∀ y∈l,y.words.length=x.words.length∧y.regs.length=x.regs.length)→(insF x l).Perm (x :: l)
 | [],_,_=>List.Perm.refl _
 | y :: l,h,hs=>by
  simp only [insF]
  split
  ·exact ((insF_perm (fun q=>h (List.mem_cons_of_mem _ q)) fun z hz=>hs z (List.mem_cons_of_mem _ hz)).cons y).trans (List.Perm.swap x y l)
  ·split
   ·next e =>
    rw [same_iff (hs y List.mem_cons_self)] at e
    subst e
    exact absurd List.mem_cons_self h
   ·exact List.Perm.refl _
theorem insF_srt {x:Fn}:∀ {l:List Fn},x ∉ l→(∀ y∈l,y.words.length=x.words.length∧y.regs.length=x.regs.length)→SrtF l→SrtF (insF x l)
 | [],_,_,_=>List.pairwise_singleton _ _
 | y :: l,h,hs,hl=>by
  have hl2:=List.pairwise_cons.1 hl
  simp only [insF]
  split
  ·next h1 =>
   refine List.pairwise_cons.2 ⟨fun z hz=>?_,insF_srt (fun q=>h (List.mem_cons_of_mem _ q)) (fun z hz=>hs z (List.mem_cons_of_mem _ hz)) hl2.2⟩
   have hp:=(insF_perm (fun q=>h (List.mem_cons_of_mem _ q)) fun z hz=>hs z (List.mem_cons_of_mem _ hz)).mem_iff.1 hz
   rcases List.mem_cons.1 hp with rfl | hz
   ·exact h1
   ·exact hl2.1 z hz
  ·next h1 =>
   split
   ·exact hl
   ·next h2 =>
    have hxy:lessL (numF x) (numF y)=true:=by
     cases e:lessL (numF x) (numF y) with
     | true=>rfl
     | false =>
      have hh:=hs y List.mem_cons_self
      have:=numF_inj hh.1.symm hh.2.symm (less_eq e (by simpa using h1))
      subst this
      exact absurd List.mem_cons_self h
    refine List.pairwise_cons.2 ⟨fun z hz=>?_,hl⟩
    rcases List.mem_cons.1 hz with rfl | hz
    ·exact hxy
    ·exact less_trans hxy (hl2.1 z hz)
theorem insF_fold:∀ {ys acc:List Fn},(ys++acc).Nodup→SameSh (ys++acc)→SrtF acc→(ys.foldl (fun out x=>insF x out) acc).Perm (ys++acc)∧SrtF (ys.foldl (fun out x=>insF x out) acc)
 | [],acc,_,_,h=>⟨List.Perm.refl _,h⟩
 | y :: ys,acc,hn,hs,h=>by
  simp only [List.foldl_cons]
  have hn2:=hn
  rw [List.cons_append,List.nodup_cons] at hn2
  have hy:y ∉ acc:=fun q=>hn2.1 (List.mem_append_right _ q)
  have hs1:∀ z∈acc,z.words.length=y.words.length∧z.regs.length=y.regs.length:=fun z hz=>hs z (List.mem_append_right _ hz) y (List.mem_append_left _ List.mem_cons_self)
  have hp:=insF_perm hy hs1
  have hpp:(ys++insF y acc).Perm (y :: ys++acc):=(List.Perm.append_left ys hp).trans List.perm_middle
  obtain ⟨h1,h2⟩:=insF_fold (hpp.nodup_iff.2 hn) (fun a ha b hb=>hs a (hpp.mem_iff.1 ha) b (hpp.mem_iff.1 hb)) (insF_srt hy hs1 h)
  exact ⟨h1.trans hpp,h2⟩
theorem srt_unique {l m:List Fn} (hp:l.Perm m) (hl:SrtF l) (hm:SrtF m):l=m :=
 List.Perm.eq_of_pairwise (le:=fun a b=>lessL (numF a) (numF b)=true) (fun a b _ _ h1 h2=>by
  have:=less_trans h1 h2
  rw [less_irr] at this
  cases this) hl hm hp
theorem finsL_eq (L:Lt) (l:List LS):finsL L l=((l.filter (finB L)).map endF).foldl (fun out x=>insF x out) []:=by
 rw [List.foldl_map];rfl
theorem ends_ok {L:Lt} {o:Int} {l:List LS} (hw:∀ s∈l,WfT L o s) (hn:l.Nodup):((l.filter (finB L)).map endF).Nodup∧SameSh ((l.filter (finB L)).map endF):=by
 refine ⟨?_,fun a ha b hb=>?_⟩
 ·rw [List.nodup_iff_pairwise_ne,List.pairwise_map]
  refine List.Pairwise.imp_of_mem ?_ (hn.filter (finB L))
  intro a b ha hb hne e
  rw [List.mem_filter] at ha hb
  exact hne (fin_inj (hw a ha.1) (hw b hb.1) ha.2 hb.2 e)
 ·rw [List.mem_map] at ha hb
  obtain ⟨s,hs,rfl⟩:=ha
  obtain ⟨t,ht,rfl⟩:=hb
  rw [List.mem_filter] at hs ht
  have h1:=(hw s hs.1).wf;have h2:=(hw t ht.1).wf
  exact ⟨h1.w.trans h2.w.symm,h1.r.trans h2.r.symm⟩
theorem finsL_ok {L:Lt} {o:Int} {l:List LS} (hw:∀ s∈l,WfT L o s) (hn:l.Nodup):(finsL L l).Perm ((l.filter (finB L)).map endF)∧SrtF (finsL L l):=by
 rw [finsL_eq]
 obtain ⟨h1,h2⟩:=ends_ok hw hn
 obtain ⟨h3,h4⟩:=insF_fold (ys:=(l.filter (finB L)).map endF) (acc:=[]) (by rw [List.append_nil];exact h1) (by rw [List.append_nil];exact h2) List.Pairwise.nil
 rw [List.append_nil] at h3
 exact ⟨h3,h4⟩
def idxL (L:Lt) (l:List Sp):List Nat:=(List.range l.length).filter fun k=>finB L (l.getD k sp0).s
def ordI (l:List Sp) (a b:Nat):Int:=ordF (endF (l.getD a sp0).s) (endF (l.getD b sp0).s)
theorem idx_map (L:Lt) (l:List Sp):(idxL L l).map (fun k=>endF (l.getD k sp0).s)=((l.map (·.s)).filter (finB L)).map endF:=by
 have e:l.map (·.s)=(List.range l.length).map fun k=>(l.getD k sp0).s:=by
  refine List.ext_getElem (by simp) fun i h1 h2=>?_
  simp at h1
  simp [List.getD_eq_getElem?_getD,h1]
 rw [e,List.filter_map,List.map_map]
 rfl
theorem idx_lt {L:Lt} {l:List Sp} {k:Nat} (h:k∈idxL L l):k<l.length∧finB L (l.getD k sp0).s=true:=by
 rw [idxL,List.mem_filter,List.mem_range] at h;exact h
theorem idx_inj {L:Lt} {o:Int} {l:List Sp} (h:WkNd L o l) {a b:Nat} (ha:a∈idxL L l) (hb:b∈idxL L l) (e:endF (l.getD a sp0).s=endF (l.getD b sp0).s):a=b:=by
 obtain ⟨h1,h2⟩:=idx_lt ha
 obtain ⟨g1,g2⟩:=idx_lt hb
 have:=fin_inj (h.toWkOk.at h1) (h.toWkOk.at g1) h2 g2 e
 have hn:=h.nd
 rw [List.nodup_iff_pairwise_ne,List.pairwise_iff_getElem] at hn
 have key:∀ i j (hi:i<l.length) (hj:j<l.length),(l.getD i sp0).s=(l.getD j sp0).s→¬ i<j:=fun i j hi hj q hij=>by
  refine hn i j (by simpa using hi) (by simpa using hj) hij ?_
  simp only [List.getElem_map]
  simpa only [List.getD_eq_getElem?_getD,List.getElem?_eq_getElem hi,List.getElem?_eq_getElem hj,Option.getD_some] using q
 rcases Nat.lt_trichotomy a b with q | q | q
 ·exact absurd q (key a b h1 g1 this)
 ·exact q
 ·exact absurd q (key b a g1 h1 this.symm)
theorem shp_idx {L:Lt} {o:Int} {l:List Sp} (h:WkNd L o l) {a b:Nat} (ha:a<l.length) (hb:b<l.length):(endF (l.getD a sp0).s).words.length=(endF (l.getD b sp0).s).words.length∧(endF (l.getD a sp0).s).regs.length=(endF (l.getD b sp0).s).regs.length:=by
 have h1:=(h.toWkOk.at ha).wf;have h2:=(h.toWkOk.at hb).wf
 exact ⟨h1.w.trans h2.w.symm,h1.r.trans h2.r.symm⟩
theorem ordI_eq {L:Lt} {o:Int} {l:List Sp} (h:WkNd L o l) {a b:Nat} (ha:a<l.length) (hb:b<l.length):ordI l a b=cmpL (numF (endF (l.getD a sp0).s)) (numF (endF (l.getD b sp0).s)):=by
 obtain ⟨h1,h2⟩:=shp_idx h ha hb
 exact ordF_eq h1 h2
theorem srt_idx {L:Lt} {o:Int} {l:List Sp} (h:WkNd L o l) {m:List Nat} (hp:m.Perm (idxL L l)) (hs:m.Pairwise fun a b=>ordI l a b≤0):m.map (fun k=>endF (l.getD k sp0).s)=finsL L (l.map (·.s)):=by
 have hw:∀ s∈l.map (·.s),WfT L o s:=fun s hs=>by
  rw [List.mem_map] at hs
  obtain ⟨x,hx,rfl⟩:=hs
  exact h.wf x hx
 obtain ⟨h1,h2⟩:=finsL_ok hw h.nd
 refine srt_unique ?_ ?_ h2
 ·refine (hp.map _).trans ?_
  rw [idx_map]
  exact h1.symm
 ·unfold SrtF
  rw [List.pairwise_map]
  have hnd:m.Nodup:=hp.nodup_iff.2 (List.nodup_range.filter _)
  refine List.Pairwise.imp_of_mem ?_ (hs.and hnd)
  intro a b ha hb hab
  obtain ⟨hab,hne⟩:=hab
  have ha':=hp.mem_iff.1 ha;have hb':=hp.mem_iff.1 hb
  rw [ordI_eq h (idx_lt ha').1 (idx_lt hb').1] at hab
  rw [← cmp_less]
  have:cmpL (numF (endF (l.getD a sp0).s)) (numF (endF (l.getD b sp0).s))≠0:=fun q=>by
   rw [cmp_zero] at q
   obtain ⟨k1,k2⟩:=shp_idx h (idx_lt ha').1 (idx_lt hb').1
   exact hne (idx_inj h ha' hb' (numF_inj k1 k2 q))
  omega
end Go.Proofs.Ytmcpdafmkkjlcaa.Z
namespace Go.Proofs.Ytmcpdafmkkjlcaa.Z
open Go Go.RowKit
theorem insF_at {x:Fn}:∀ {out:List Fn} {a:Nat},a≤out.length→(∀ k,k<a→lessL (numF (out.getD k ⟨[],[]⟩)) (numF x)=true)→(a<out.length→¬ lessL (numF (out.getD a ⟨[],[]⟩)) (numF x)=true)→insF x out=if a<out.length∧sameF (out.getD a ⟨[],[]⟩) x=true then out else out.take a++x :: out.drop a
 | [],a,h,_,_=>by
  have:a=0:=by simpa using h
  subst this
  simp [insF]
 | y :: out,0,h,_,h2=>by
  have h2:=h2 (by simp)
  simp only [List.getD_cons_zero] at h2
  simp only [insF,if_neg h2]
  by_cases e:sameF y x=true
  ·simp [e]
  ·simp [e]
 | y :: out,a+1,h,h1,h2=>by
  have h0:=h1 0 (by omega)
  simp only [List.getD_cons_zero] at h0
  have ih:=insF_at (x:=x) (out:=out) (a:=a) (by simpa using h) (fun k hk=>by simpa using h1 (k+1) (by omega)) (fun hk=>by simpa using h2 (by simpa using hk))
  simp only [insF,if_pos h0,ih]
  by_cases e:a<out.length∧sameF (out.getD a ⟨[],[]⟩) x=true
  ·rw [if_pos e,if_pos (by simpa using e)]
  ·rw [if_neg e,if_neg (by simpa using e)]
   simp
theorem insF_mem {x:Fn}:∀ {out:List Fn} {y:Fn},y∈insF x out→y=x∨y∈out
 | [],y,h=>by simp [insF] at h;exact Or.inl h
 | z :: out,y,h=>by
  simp only [insF] at h
  split at h
  ·rcases List.mem_cons.1 h with rfl | h
   ·exact Or.inr List.mem_cons_self
   ·exact (insF_mem h).imp id (List.mem_cons_of_mem _)
  ·split at h
   ·exact Or.inr h
   ·rcases List.mem_cons.1 h with rfl | h
    ·exact Or.inl rfl
    ·exact Or.inr h
theorem insF_len {x:Fn}:∀ {out:List Fn},(insF x out).length≤out.length+1
 | []=>by simp [insF]
 | z :: out=>by
  simp only [insF]
  split
  ·have:=insF_len (x:=x) (out:=out);simp;omega
  ·split <;> simp
structure FsOk (L:Lt) (n:Nat) (out:List Fn):Prop where
 len:out.length≤n
 sh:∀ f∈out,f.words.length=L.words.length∧f.regs.length=L.thr.length
theorem FsOk.at {L:Lt} {n:Nat} {out:List Fn} (h:FsOk L n out) {k:Nat} (hk:k<out.length):(out.getD k ⟨[],[]⟩).words.length=L.words.length∧(out.getD k ⟨[],[]⟩).regs.length=L.thr.length :=
 h.sh _ (by rw [List.getD_eq_getElem?_getD,List.getElem?_eq_getElem hk];exact List.getElem_mem hk)
theorem finsL_push {L:Lt} {l:List LS} {s:LS}:finsL L (l++[s])=if finB L s=true then insF (endF s) (finsL L l) else finsL L l:=by
 unfold finsL
 rw [List.filter_append,List.foldl_append]
 by_cases h:finB L s=true
 ·rw [if_pos h,List.filter_cons_of_pos h];rfl
 ·rw [if_neg h,List.filter_cons_of_neg h];rfl
theorem fsOk_push {L:Lt} {o:Int} {n:Nat} {out:List Fn} {s:LS} (h:FsOk L n out) (hs:WfT L o s):FsOk L (n+1) (insF (endF s) out) :=
 ⟨Nat.le_trans insF_len (Nat.succ_le_succ h.len),fun f hf=>by
  rcases insF_mem hf with rfl | hf
  ·exact ⟨hs.wf.w,hs.wf.r⟩
  ·exact h.sh f hf⟩
theorem FsOk.mono {L:Lt} {n m:Nat} {out:List Fn} (h:FsOk L n out) (hm:n≤m):FsOk L m out:=⟨Nat.le_trans h.len hm,h.sh⟩
theorem take_s {l:List Sp} {i:Nat} (h:i<l.length):(l.take (i+1)).map (·.s)=(l.take i).map (·.s)++[(l.getD i sp0).s]:=by
 rw [List.take_succ_eq_append_getElem h,List.map_append,List.getD_eq_getElem?_getD,List.getElem?_eq_getElem h];rfl
theorem fs_ok {L:Lt} {o:Int} {l:List Sp} (h:WkOk L o l):∀ i,i≤l.length→FsOk L i (finsL L ((l.take i).map (·.s)))
 | 0,_=>⟨Nat.le_refl _,fun f hf=>by simp [finsL] at hf⟩
 | i+1,hi=>by
  have ih:=fs_ok h i (by omega)
  rw [take_s (by omega),finsL_push]
  split
  ·exact fsOk_push ih (h.at (by omega))
  ·exact ih.mono (Nat.le_succ _)
def fn0:Fn:=⟨[],[]⟩
def foC (b:Nat) (l:List Fn) (k:Nat):List SC:=[.sl (b+1,k,0) 1 0 (l.getD k fn0).words.length none,.sl (b+2,k,0) 4 0 (l.getD k fn0).regs.length none]
def foW (l:List Fn) (k:Nat):Blk:=.ar (l.getD k fn0).words.length 1 (ats eI (l.getD k fn0).words 0) 3
def foR (l:List Fn) (k:Nat):Blk:=.ar (l.getD k fn0).regs.length 4 (ats R4.enc (l.getD k fn0).regs r40) 68
def foO (b:Nat) (l:List Fn):Own:=[(b,.one (.ar l.length 2 (foC b l) 67)),(b+1,.fam l.length (foW l)),(b+2,.fam l.length (foR l))]
theorem fo_at {C:Ctx} {E:Env} {S:St} {a:Act} {w:World} (hs:Sat C.B C.W C.w0 E S a w) {l:List Fn} (b k:Nat) (hk:k<l.length) (h1:look S.own (b+1)=some (.fam l.length (foW l))) (h2:look S.own (b+2)=some (.fam l.length (foR l))):FnR w ((SV.agg (foC b l k)).den E) (l.getD k fn0) :=
 ⟨_,_,by simp [foC,SV.den],arr_ownX (d:=0) hs (b+1,k,0) _ _ _ (by simp only [atN,h1,Fm.get,hk,and_self,if_true];rfl) rfl (Nat.le_refl _) (fun _ _=>rfl),arr_ownX (d:=r40) hs (b+2,k,0) _ _ _ (by simp only [atN,h2,Fm.get,hk,and_self,if_true];rfl) rfl (Nat.le_refl _) (fun _ _=>rfl)⟩
theorem fn_own {C:Ctx} {E:Env} {S:St} {a:Act} {w:World} (hs:Sat C.B C.W C.w0 E S a w) {f:Fn} (b:Nat) (h1:look S.own b=some (.one (.ar f.words.length 1 (ats eI f.words 0) 3))) (h2:look S.own (b+1)=some (.one (.ar f.regs.length 4 (ats R4.enc f.regs r40) 68))):FnR w ((SV.agg (fnS b f)).den E) f :=
 ⟨_,_,by simp [fnS,SV.den],own_at (d:=0) hs b _ h1 rfl,own_at (d:=r40) hs (b+1) _ h2 rfl⟩
theorem fo_same {q:Nat→Prop} {τ:Nat→Nat} {own:Own} {l:List Fn} (b:Nat) (q0:q b) (q1:q (b+1)) (q2:q (b+2)) (t0:τ b=b) (t1:τ (b+1)=b+1) (t2:τ (b+2)=b+2) (h0:look own b=some (.one (.ar l.length 2 (foC b l) 67))) (h1:look own (b+1)=some (.fam l.length (foW l))) (h2:look own (b+2)=some (.fam l.length (foR l))):OwnLe q (idσ τ) own (foO b l):=by
 refine ⟨⟨q0,?_⟩,⟨q1,fun k hk=>?_⟩,⟨q2,fun k hk=>?_⟩,trivial⟩
 ·simp only [idσ,t0,atN,h0,Fm.get,and_self,if_true]
  exact ⟨Nat.le_refl _,rfl,rfl,fun e _=>⟨by simp only [foC,SC.renL,SC.ren,idσ,t1,t2],by simp [foC,SC.okL,SC.okN,q1,q2]⟩⟩
 ·simp only [idσ,t1,atN,h1,Fm.get,hk,and_self,if_true];exact arLe_same
 ·simp only [idσ,t2,atN,h2,Fm.get,hk,and_self,if_true];exact arLe_same
def foσ (i a w r:Nat) (x:Nm):Nm :=
 if x.1=13 then (a,x.2) else if x.1=14∨x.1=15 then
  (if x.2.1<i then x else if x.2.1=i then (if x.1=14 then (w,0,0) else (r,0,0)) else (x.1,x.2.1 - 1,x.2.2))
 else x
theorem getD_ins {α:Type} {l:List α} {x d:α} {i k:Nat} (hi:i≤l.length) (hk:k<l.length+1):(l.take i++x :: l.drop i).getD k d=if k<i then l.getD k d else if k=i then x else l.getD (k - 1) d:=by
 have ht:(l.take i).length=i:=by simp;omega
 split
 ·next h=>rw [List.getD_eq_getElem?_getD,List.getElem?_append_left (by omega),List.getElem?_take_of_lt h,List.getD_eq_getElem?_getD]
 ·next h =>
  rw [List.getD_eq_getElem?_getD,List.getElem?_append_right (by omega),ht]
  split
  ·next e=>subst e;simp
  ·next e =>
   rw [show k - i=(k - i - 1)+1 by omega,List.getElem?_cons_succ,List.getElem?_drop,show i+(k - i - 1)=k - 1 by omega,List.getD_eq_getElem?_getD]
theorem fo_ins {q:Nat→Prop} {l:List Fn} {x:Fn} {O:Own} {i a w r m:Nat} {at_:Nat→List SC} (q0:q 13) (q1:q 14) (q2:q 15) (hi:i≤l.length) (hm:l.length+1≤m)
  (ha:look O a=some (.one (.ar m 2 at_ 67))) (h1:∀ e,e<i→at_ e=foC 13 l e) (h2:at_ i=[.sl (w,0,0) 1 0 x.words.length none,.sl (r,0,0) 4 0 x.regs.length none]) (h3:∀ e,i<e→e<l.length+1→at_ e=foC 13 l (e - 1))
  (hw:look O w=some (.one (.ar x.words.length 1 (ats eI x.words 0) 3))) (hr:look O r=some (.one (.ar x.regs.length 4 (ats R4.enc x.regs r40) 68))) (h14:look O 14=some (.fam l.length (foW l))) (h15:look O 15=some (.fam l.length (foR l))):OwnLe q (foσ i a w r) O (foO 13 (l.take i++x :: l.drop i)):=by
 have hle:(l.take i++x :: l.drop i).length=l.length+1:=by simp;omega
 have g:∀ k,k<l.length+1→(l.take i++x :: l.drop i).getD k fn0=if k<i then l.getD k fn0 else if k=i then x else l.getD (k - 1) fn0:=fun k hk=>getD_ins hi hk
 have s1:∀ y k e,y=14∨y=15→foσ i a w r (y,k,e)=if k<i then (y,k,e) else if k=i then (if y=14 then (w,0,0) else (r,0,0)) else (y,k - 1,e):=fun y k e h=>by
  have:¬ y=13:=by omega
  simp only [foσ,this,h,if_true,if_false]
 have s14:=fun k e=>s1 14 k e (Or.inl rfl)
 have s15:=fun k e=>s1 15 k e (Or.inr rfl)
 simp only [if_true,show ¬ (15=14) by decide,if_false] at s14 s15
 have cs:∀ k,k<l.length+1→k<i∨k=i∨(i<k∧¬ k<i∧¬ k=i∧k - 1<l.length):=fun k hk=>by omega
 refine ⟨⟨q0,?_⟩,⟨q1,fun k hk=>?_⟩,⟨q2,fun k hk=>?_⟩,trivial⟩
 ·simp only [foσ,if_true,atN,ha,Fm.get,and_self]
  refine ⟨by omega,rfl,rfl,fun e he=>⟨?_,by simp [foC,SC.okL,SC.okN,q1,q2]⟩⟩
  rw [hle] at he
  rcases cs e he with h | rfl | ⟨h,n1,n2,n3⟩
  ·rw [h1 e h]
   simp only [foC,SC.renL,SC.ren,Nat.reduceAdd,s14,s15,if_pos h,g e he]
  ·rw [h2]
   simp only [foC,SC.renL,SC.ren,Nat.reduceAdd,s14,s15,Nat.lt_irrefl,if_false,if_true,g e he]
  ·rw [h3 e h he]
   simp only [foC,SC.renL,SC.ren,Nat.reduceAdd,s14,s15,if_neg n1,if_neg n2,g e he]
 ·rw [hle] at hk
  simp only [Nat.reduceAdd]
  rw [s14]
  rcases cs k hk with h | rfl | ⟨h,n1,n2,n3⟩
  ·simp only [if_pos h,atN,h14,Fm.get,show k<l.length by omega,and_self,if_true,foW,g k hk];exact arLe_same
  ·simp only [Nat.lt_irrefl,if_false,if_true,atN,hw,Fm.get,and_self,foW,g k hk];exact arLe_same
  ·simp only [if_neg n1,if_neg n2,atN,h14,Fm.get,n3,and_self,if_true,foW,g k hk];exact arLe_same
 ·rw [hle] at hk
  simp only [Nat.reduceAdd]
  rw [s15]
  rcases cs k hk with h | rfl | ⟨h,n1,n2,n3⟩
  ·simp only [if_pos h,atN,h15,Fm.get,show k<l.length by omega,and_self,if_true,foR,g k hk];exact arLe_same
  ·simp only [Nat.lt_irrefl,if_false,if_true,atN,hr,Fm.get,and_self,foR,g k hk];exact arLe_same
  ·simp only [if_neg n1,if_neg n2,atN,h15,Fm.get,n3,and_self,if_true,foR,g k hk];exact arLe_same
theorem fo_keys {b:Nat} {l:List Fn} {x:Nm} {c:Blk} (h:atN (foO b l) x=some c):x=(b,0,0)∨(∃ k,k<l.length∧x=(b+1,k,0))∨∃ k,k<l.length∧x=(b+2,k,0):=by
 rcases atN_one h with ⟨rfl,_⟩ | h
 ·exact Or.inl rfl
 rcases atN_fam h with ⟨k,hk,rfl,_⟩ | h
 ·exact Or.inr (Or.inl ⟨k,hk,rfl⟩)
 rcases atN_fam h with ⟨k,hk,rfl,_⟩ | h
 ·exact Or.inr (Or.inr ⟨k,hk,rfl⟩)
 exact (atN_nil h).elim
theorem fo_inj {l:List Fn} {i a w r:Nat} {B:Own} (hd:noDup [a,w,r]=true) (hno:∀ z∈[a,w,r],15<z) (hk:∀ z∈keysL B,z<13):InjN (foσ i a w r) (foO 13 l++B):=by
 have ha:=hno a (by simp);have hw:=hno w (by simp);have hr:=hno r (by simp)
 have hne:a≠w∧a≠r∧w≠r:=by
  simp [noDup,memB] at hd
  omega
 have hBσ:∀ y d,atN B y=some d→y.1<13∧foσ i a w r y=y:=fun y d hy=>by
  obtain ⟨F,hF,_⟩:=atN_some hy
  have:=hk y.1 (look_keysL hF)
  refine ⟨this,?_⟩
  unfold foσ
  rw [if_neg (by omega),if_neg (by omega)]
 have s13:foσ i a w r (13,0,0)=(a,0,0):=rfl
 have s14:∀ k,foσ i a w r (13+1,k,0)=if k<i then (14,k,0) else if k=i then (w,0,0) else (14,k - 1,0):=fun k=>by simp [foσ]
 have s15:∀ k,foσ i a w r (13+2,k,0)=if k<i then (15,k,0) else if k=i then (r,0,0) else (15,k - 1,0):=fun k=>by simp [foσ]
 have hA:∀ x c,atN (foO 13 l) x=some c→13≤(foσ i a w r x).1:=fun x c hx=>by
  rcases fo_keys hx with rfl | ⟨k,_,rfl⟩ | ⟨k,_,rfl⟩
  ·rw [s13];simp only;omega
  ·rw [s14];split <;> (try split) <;> simp only <;> omega
  ·rw [s15];split <;> (try split) <;> simp only <;> omega
 refine injN_app ?_ ?_ ?_
 ·intro x y c d hx hy e
  have key:∀ k k' : Nat,∀ z v:Nat,15<v→(z=14∨z=15)→(if k<i then (z,k,0) else if k=i then (v,0,0) else (z,k - 1,0):Nm)=(if k' < i then (z,k',0) else if k' = i then (v,0,0) else (z,k' - 1,0))→k=k':=fun k k' z v hv hz e=>by
   (repeat' split at e) <;> simp only [Prod.mk.injEq] at e <;> omega
  have off:∀ k k' : Nat,(if k<i then (14,k,0) else if k=i then (w,0,0) else (14,k - 1,0):Nm)≠(if k' < i then (15,k',0) else if k' = i then (r,0,0) else (15,k' - 1,0)):=fun k k' e=>by
   (repeat' split at e) <;> simp only [Prod.mk.injEq] at e <;> omega
  have of1:∀ k:Nat,(a,0,0)≠(if k<i then (14,k,0) else if k=i then (w,0,0) else (14,k - 1,0):Nm):=fun k e=>by
   (repeat' split at e) <;> simp only [Prod.mk.injEq] at e <;> omega
  have of2:∀ k:Nat,(a,0,0)≠(if k<i then (15,k,0) else if k=i then (r,0,0) else (15,k - 1,0):Nm):=fun k e=>by
   (repeat' split at e) <;> simp only [Prod.mk.injEq] at e <;> omega
  rcases fo_keys hx with rfl | ⟨k,_,rfl⟩ | ⟨k,_,rfl⟩ <;> rcases fo_keys hy with rfl | ⟨k',_,rfl⟩ | ⟨k',_,rfl⟩
  ·rfl
  ·rw [s13,s14] at e;exact absurd e (of1 k')
  ·rw [s13,s15] at e;exact absurd e (of2 k')
  ·rw [s13,s14] at e;exact absurd e.symm (of1 k)
  ·rw [s14,s14] at e;rw [key k k' 14 w hw (Or.inl rfl) e]
  ·rw [s14,s15] at e;exact absurd e (off k k')
  ·rw [s13,s15] at e;exact absurd e.symm (of2 k)
  ·rw [s14,s15] at e;exact absurd e.symm (off k' k)
  ·rw [s15,s15] at e;rw [key k k' 15 r hr (Or.inr rfl) e]
 ·intro x y c d hx hy e
  rw [(hBσ x c hx).2,(hBσ y d hy).2] at e
  exact e
 ·intro x y c d hx hy e
  obtain ⟨h1,h2⟩:=hBσ y d hy
  have:=hA x c hx
  rw [e,h2] at this
  omega
end Go.Proofs.Ytmcpdafmkkjlcaa.Z
namespace Go.Proofs.Ytmcpdafmkkjlcaa.Z
open Go Go.RowKit
structure BelowD (w w' : World):Prop where
 b:Below w.heap.size w w'
 d:w.drawn≤w'.drawn
theorem BelowD.refl (w:World):BelowD w w:=⟨Below.refl _ _,Nat.le_refl _⟩
theorem BelowD.grow {w w' : World} (h:BelowD w w'):∃ q os,w' = Go.Sort.grow (w.drewN q) os:=by
 refine ⟨w'.drawn - w.drawn,w'.heap.extract w.heap.size w'.heap.size,?_⟩
 have h1:=h.b.os;have h2:=h.b.tape;have h3:=h.b.output;have h4:=h.d;have h5:=h.b.size;have h6:=h.b.block
 cases w with | mk hp tp dr os out =>
 cases w' with | mk hp' tp' dr' os' out' =>
 simp only at h1 h2 h3 h4 h5 h6
 subst h1;subst h2;subst h3
 simp only [Go.Sort.grow,World.drewN,World.mk.injEq,true_and,and_true]
 refine ⟨?_,by omega⟩
 refine Array.ext_getElem? fun i=>?_
 rw [Array.getElem?_append]
 split
 ·next hi=>rw [h6 i hi]
 ·next hi =>
  rw [Array.getElem?_extract]
  split
  ·next hj=>rw [show hp.size+(i - hp.size)=i by omega]
  ·next hj=>rw [Array.getElem?_eq_none (by omega)]
set_option maxHeartbeats 400000 in
theorem nanW (x:Int) (w:World):Calls Try.prog 113 #[.int .i64 x] w fun e w'=>e = .returned (.bool false)∧w' = w:=by
 go_enter Try.func113,Try.ntmps113
 go_wp2
 go_ret
 exact ⟨by simp,rfl⟩
set_option maxHeartbeats 400000 in
theorem cmpW (x y:Int) (w:World):Calls Try.prog 107 #[.int .i64 x,.int .i64 y] w fun e w'=>e = .returned (.int .i64 (cmp1 x y))∧w' = w:=by
 have NX:=Lib.hid (nanW x w)
 have NY:=Lib.hid (nanW y w)
 go_enter Try.func107,Try.ntmps107
 go_wp2_with fail
 refine (NX.out).mono ?_
 rintro e w2 ⟨rfl,rfl⟩
 go_wp2_with fail
 refine (NY.out).mono ?_
 rintro e w2 ⟨rfl,rfl⟩
 go_wp2_with fail
 all_goals go_ret
 all_goals refine ⟨?_,rfl⟩
 all_goals unfold cmp1
 ·rw [if_pos (by assumption)];rfl
 ·rw [if_neg (by omega),if_pos (by omega)];rfl
 ·rw [if_neg (by omega),if_neg (by omega)];rfl
theorem cmp_step {xs ys:List Int} {k:Nat} {x y:Int} (hx:xs[k]? = some x) (hy:ys[k]? = some y):cmpL (xs.drop k) (ys.drop k)=if cmp1 x y=0 then cmpL (xs.drop (k+1)) (ys.drop (k+1)) else cmp1 x y:=by
 have h1:=(List.getElem?_eq_some_iff.1 hx).1
 have h2:=(List.getElem?_eq_some_iff.1 hy).1
 have e1:xs.getD k 0=x:=by rw [List.getD_eq_getElem?_getD,hx];rfl
 have e2:ys.getD k 0=y:=by rw [List.getD_eq_getElem?_getD,hy];rfl
 rw [drop_at h1,drop_at h2,e1,e2]
 simp only [cmpL,cmp1]
 by_cases a:x<y
 ·simp [a]
 ·by_cases b:y<x
  ·simp [a,b]
  ·simp [a,b]
set_option maxHeartbeats 1000000 in
theorem compareW (ba bb:Option Addr) (n m c c' : Nat) (xs ys:List Int) (w:World) (hn:n=xs.length) (hm:m=ys.length) (hnc:n≤9223372036854775807) (hmc:m≤9223372036854775807)
  (hx:∀ k x,xs[k]? = some x→∃ b off,ba=some ⟨b,off,none⟩∧b<w.heap.size∧w.cell? ⟨b,off+k,none⟩=some (.int .i64 x))
  (hy:∀ k x,ys[k]? = some x→∃ b off,bb=some ⟨b,off,none⟩∧b<w.heap.size∧w.cell? ⟨b,off+k,none⟩=some (.int .i64 x)) :
  Calls Try.prog 87 #[.slice ba n c,.slice bb m c'] w fun e w'=>e = .returned (.int .i64 (cmpL xs ys))∧w' = w:=by
 have HX:=Lib.hid hx;clear hx
 have HY:=Lib.hid hy;clear hy
 have HN:=Lib.hid hn;clear hn
 have HM:=Lib.hid hm;clear hm
 go_enter Try.func87,Try.ntmps87
 go_wp2
 go_loopw [11] (fun i wr=>∃ k:Nat,k≤n∧i = .int .i64 k∧Hid (cmpL xs ys=cmpL (xs.drop k) (ys.drop k)∧k≤m)∧wr=w) (fun i _=>n - (intOf i).toNat)
 case atStart=>exact ⟨0,Nat.zero_le _,rfl,⟨by simp,Nat.zero_le _⟩,rfl⟩
 case round =>
  obtain ⟨k,hk,rfl,hkk,rfl⟩:=hrel
  by_cases hlt:k<n
  ·obtain ⟨x,hxk⟩:∃ x,xs[k]? = some x:=⟨_,List.getElem?_eq_getElem (by rw [← HN.out];exact hlt)⟩
   obtain ⟨b1,o1,rfl,hb1,c1⟩:=HX.out k x hxk
   by_cases hlm:k<m
   ·obtain ⟨y,hyk⟩:∃ x,ys[k]? = some x:=⟨_,List.getElem?_eq_getElem (by rw [← HM.out];exact hlm)⟩
    obtain ⟨b2,o2,rfl,hb2,c2⟩:=HY.out k y hyk
    clear hb1 hb2
    have HXK:=Lib.hid hxk;clear hxk
    have HYK:=Lib.hid hyk;clear hyk
    have hI:(k:Int)<(n:Int):=by omega
    have hJ:(k:Int)<(m:Int):=by omega
    have CW:=Lib.hid (cmpW x y wr)
    go_wp2_with fail
    refine (CW.out).mono ?_
    rintro e w2 ⟨rfl,rfl⟩
    clear CW
    have hcc:Hid (cmp1 x y=cmp1 x y):=Lib.hid rfl
    generalize hcv:cmp1 x y=cv at *
    by_cases hz:cv=0
    ·subst hz
     go_wp2_with fail
     go_roundw
     case rel =>
      refine ⟨k+1,by omega,by go_num,⟨?_,by omega⟩,by first | rfl | trivial⟩
      rw [hkk.out.1,cmp_step HXK.out HYK.out,if_pos hcv]
     case measure=>simp [intOf];omega
    ·go_wp2_with fail
     go_ret
     refine ⟨?_,rfl⟩
     rw [hkk.out.1,cmp_step HXK.out HYK.out,hcv,if_neg hz];rfl
   ·have hI:(k:Int)<(n:Int):=by omega
    have hJ:¬ (k:Int)<(m:Int):=by omega
    clear hb1
    have HXK:=Lib.hid hxk;clear hxk
    go_wp2_with fail
    go_ret
    refine ⟨?_,rfl⟩
    have h1:=(List.getElem?_eq_some_iff.1 HXK.out).1
    rw [hkk.out.1,show ys.drop k=[] from List.drop_eq_nil_of_le (by rw [← HM.out];omega),drop_at h1]
    rfl
  ·have hkn:k=n:=by omega
   subst hkn
   by_cases hlm:k<m
   ·have hJ:(k:Int)<(m:Int):=by omega
    go_wp2_with fail
    go_ret
    refine ⟨?_,rfl⟩
    rw [hkk.out.1,show xs.drop k=[] from List.drop_eq_nil_of_le (by rw [← HN.out];exact Nat.le_refl _),drop_at (show k<ys.length by rw [← HM.out];exact hlm)]
    rfl
   ·have hJ:¬ (k:Int)<(m:Int):=by omega
    go_wp2_with fail
    go_ret
    refine ⟨?_,rfl⟩
    rw [hkk.out.1,show xs.drop k=[] from List.drop_eq_nil_of_le (by rw [← HN.out];exact Nat.le_refl _),show ys.drop k=[] from List.drop_eq_nil_of_le (by rw [← HM.out];omega)]
    rfl
def Dr (W w:World):Prop:=∃ q,w=W.drewN q
theorem Dr.drewN {W w:World} (h:Dr W w) (n:Nat):Dr W (w.drewN n):=by
 obtain ⟨q,rfl⟩:=h
 exact ⟨q+n,by simp only [World.drewN,Nat.add_assoc]⟩
theorem Dr.drew {W w:World} (h:Dr W w):Dr W w.drew:=h.drewN 1
theorem cell_lt {w:World} {b o:Nat} {u:Value} (h:w.cell? ⟨b,o,none⟩=some u):b<w.heap.size:=by
 unfold World.cell? at h
 cases e:w.heap[b]? with
 | none=>simp only [e] at h;cases h
 | some x=>exact (Array.getElem?_eq_some_iff.1 e).1
theorem compareA {w:World} {v v' : Value} {xs ys:List Int} (h:Arr w eI 1 v xs) (h' : Arr w eI 1 v' ys):Calls Try.prog 87 #[v,v'] w fun e w'=>e = .returned (.int .i64 (cmpL xs ys))∧w' = w:=by
 have l1:=h.len
 have l2:=h'.len
 obtain ⟨ba,c,rfl,h1,h2,h3⟩:=h
 obtain ⟨bb,c',rfl,h1',h2',h3'⟩:=h'
 refine compareW ba bb _ _ c c' xs ys w rfl rfl l1 l2 (fun k x hk=>?_) (fun k x hk=>?_)
 ·rcases h3 with rfl | ⟨b,off,rfl,h3⟩
  ·simp at hk
  ·have:=h3 k x hk 0 (.int .i64 x) rfl
   simp only [Nat.mul_one,Nat.add_zero] at this
   exact ⟨b,off,rfl,cell_lt this,this⟩
 ·rcases h3' with rfl | ⟨b,off,rfl,h3⟩
  ·simp at hk
  ·have:=h3 k x hk 0 (.int .i64 x) rfl
   simp only [Nat.mul_one,Nat.add_zero] at this
   exact ⟨b,off,rfl,cell_lt this,this⟩
theorem rowA {w:World} {b off t:Nat} {l:List R4} (ht:t<l.length) (h:∀ k x,l[k]? = some x→∀ j u,(R4.enc x)[j]? = some u→w.cell? ⟨b,off+k * 4+j,none⟩=some u):Arr w eI 1 (.slice (some ⟨b,off+t * 4,none⟩) 4 4) (r4L (l.getD t r40)):=by
 refine ⟨_,4,rfl,Nat.le_refl _,by simp [maxLen],Or.inr ⟨b,_,rfl,fun k x hk j u hu=>?_⟩⟩
 have hl:l[t]? = some (l.getD t r40):=by rw [List.getD_eq_getElem?_getD,List.getElem?_eq_getElem ht];rfl
 have hj:j=0:=by
  cases j with
  | zero=>rfl
  | succ j=>simp [eI] at hu
 subst hj
 simp only [eI,List.getElem?_cons_zero,Option.some.injEq] at hu
 subst hu
 rw [Nat.mul_one,Nat.add_zero]
 refine h t _ hl k _ ?_
 have:R4.enc (l.getD t r40)=(r4L (l.getD t r40)).map (Value.int .i64):=rfl
 rw [this,List.getElem?_map,hk];rfl
theorem ordR_step {l m:List R4} {k:Nat} (h1:k<l.length) (h2:k<m.length):ordR (l.drop k) (m.drop k)=if cmpL (r4L (l.getD k r40)) (r4L (m.getD k r40))=0 then ordR (l.drop (k+1)) (m.drop (k+1)) else cmpL (r4L (l.getD k r40)) (r4L (m.getD k r40)):=by
 rw [drop_r4 h1,drop_r4 h2]
 simp only [ordR]
 by_cases e:cmpL (r4L (l.getD k r40)) (r4L (m.getD k r40))=0
 ·rw [if_neg (fun q=>q e),if_pos e]
 ·rw [if_pos e,if_neg e]
set_option maxHeartbeats 1000000 in
theorem orderW (vw vw' : Value) (ba bb:Option Addr) (c c' n n' : Nat) (w:World) (a b:Fn) (hw:Arr w eI 1 vw a.words) (hw' : Arr w eI 1 vw' b.words) (hr:Arr w R4.enc 4 (.slice ba n c) a.regs) (hr' : Arr w R4.enc 4 (.slice bb n' c') b.regs) (hn:n=a.regs.length) (hn' : n' = b.regs.length) (he:n=n') :
  Calls Try.prog 52 #[.agg #[vw,.slice ba n c],.agg #[vw',.slice bb n' c']] w fun e w'=>e = .returned (.int .i64 (ordF a b))∧BelowD w w':=by
 subst he
 have HW:=Lib.hid hw;clear hw
 have HW':=Lib.hid hw';clear hw'
 have HR:=Lib.hid hr;clear hr
 have HR':=Lib.hid hr';clear hr'
 have HN:=Lib.hid hn;clear hn
 have HN':=Lib.hid hn';clear hn'
 have hnl:n≤9223372036854775807:=by rw [HN.out];exact HR.out.len
 go_enter Try.func52,Try.ntmps52
 go_wp2_with fail
 have hb0:Below w.heap.size w ((w.alloc (.cells #[vw,.slice ba n c] 67)).alloc (.cells #[vw',.slice bb n c'] 67)):=(below_box _ _).trans ((below_box _ _).mono (by simp))
 have X:Hid (∀ j u,#[vw,Value.slice ba n c][j]? = some u→((w.alloc (.cells #[vw,.slice ba n c] 67)).alloc (.cells #[vw',.slice bb n c'] 67)).cell? ⟨w.heap.size,j,none⟩=some u) :=
  fun j u h=>((below_box _ _).cell (by simp)).trans (box_cell w _ _ j u h)
 have X' : Hid (∀ j u,#[vw',Value.slice bb n c'][j]? = some u→((w.alloc (.cells #[vw,.slice ba n c] 67)).alloc (.cells #[vw',.slice bb n c'] 67)).cell? ⟨w.heap.size+1,j,none⟩=some u) :=
  fun j u h=>box_cell' _ _ (by simp) j u h
 have hD:BelowD w ((w.alloc (.cells #[vw,.slice ba n c] 67)).alloc (.cells #[vw',.slice bb n c'] 67)):=⟨hb0,Nat.le_refl _⟩
 have CW:=Lib.hid (compareA (HW.out.below hb0) (HW'.out.below hb0))
 have HR1:=Lib.hid (HR.out.below hb0)
 have HR1':=Lib.hid (HR'.out.below hb0)
 clear HR HR' HW HW'
 refine (CW.out).mono ?_
 rintro e w2 ⟨rfl,rfl⟩
 clear CW
 generalize (w.alloc (.cells #[vw,.slice ba n c] 67)).alloc (.cells #[vw',.slice bb n c'] 67)=W1 at *
 have HO:Hid (ordF a b=if cmpL a.words b.words≠0 then cmpL a.words b.words else ordR a.regs b.regs):=rfl
 generalize cmpL a.words b.words=cw at *
 have x1:=X.out 1 _ rfl
 have x1':=X'.out 1 _ rfl
 by_cases hz:cw=0
 ·subst hz
  go_wp2_with fail
  go_loopw [19] (fun i wr=>∃ k:Nat,k≤n∧i = .int .i64 k∧Hid (ordR a.regs b.regs=ordR (a.regs.drop k) (b.regs.drop k))∧Hid (Dr W1 wr)) (fun i _=>n - (intOf i).toNat)
  case atStart=>exact ⟨0,Nat.zero_le _,rfl,Lib.hid (by simp),Lib.hid ⟨0,rfl⟩⟩
  case round =>
   obtain ⟨k,hk,rfl,hkk,HQ⟩:=hrel
   have y1:wr.cell? ⟨w.heap.size,1,none⟩=some (Value.slice ba n c):=by obtain ⟨q,rfl⟩:=HQ.out;exact x1
   have y1' : wr.cell? ⟨w.heap.size+1,1,none⟩=some (Value.slice bb n c'):=by obtain ⟨q,rfl⟩:=HQ.out;exact x1'
   clear x1 x1'
   by_cases hlt:k<n
   ·have hI:(k:Int)<(n:Int):=by omega
    obtain ⟨b1,o1,rfl,e3⟩:∃ b1 o1,ba=some ⟨b1,o1,none⟩∧∀ k x,a.regs[k]? = some x→∀ j u,(R4.enc x)[j]? = some u→W1.cell? ⟨b1,o1+k * 4+j,none⟩=some u:=by
     obtain ⟨ba',cap,e1,_,_,e3⟩:=HR1.out
     simp only [Value.slice.injEq] at e1
     obtain ⟨rfl,_,rfl⟩:=e1
     rcases e3 with e3 | ⟨b1,o1,e3,e4⟩
     ·have:=HN.out;rw [e3] at this;simp at this;omega
     ·exact ⟨b1,o1,e3,e4⟩
    obtain ⟨b2,o2,rfl,e3'⟩:∃ b1 o1,bb=some ⟨b1,o1,none⟩∧∀ k x,b.regs[k]? = some x→∀ j u,(R4.enc x)[j]? = some u→W1.cell? ⟨b1,o1+k * 4+j,none⟩=some u:=by
     obtain ⟨ba',cap,e1,_,_,e3⟩:=HR1'.out
     simp only [Value.slice.injEq] at e1
     obtain ⟨rfl,_,rfl⟩:=e1
     rcases e3 with e3 | ⟨b1,o1,e3,e4⟩
     ·have:=HN'.out;rw [e3] at this;simp at this;omega
     ·exact ⟨b1,o1,e3,e4⟩
    have RA:=Lib.hid (rowA (t:=k) (by rw [← HN.out];exact hlt) e3)
    have RB:=Lib.hid (rowA (t:=k) (by rw [← HN'.out];exact hlt) e3')
    have HS:=Lib.hid (ordR_step (l:=a.regs) (m:=b.regs) (k:=k) (by rw [← HN.out];exact hlt) (by rw [← HN'.out];exact hlt))
    clear e3 e3' HR1 HR1'
    generalize r4L (a.regs.getD k r40)=ra at *
    generalize r4L (b.regs.getD k r40)=rb at *
    have CW:Hid (∀ wx,Dr W1 wx→Calls Try.prog 87 #[.slice (some ⟨b1,o1+k * 4,none⟩) 4 4,.slice (some ⟨b2,o2+k * 4,none⟩) 4 4] wx fun e w'=>e = .returned (.int .i64 (cmpL ra rb))∧w' = wx):=fun wx hwx=>by
     obtain ⟨q,rfl⟩:=hwx
     exact compareA (w:=W1.drewN q) RA.out RB.out
    clear RA RB
    generalize cmpL ra rb=cr at *
    by_cases hz:cr=0
    ·subst hz
     go_wp2_with fail
     go_region_held3 (fun w'=>w'.cell? ⟨w.heap.size,1,none⟩=some (Value.slice (some ⟨b1,o1,none⟩) n c)∧w'.cell? ⟨w.heap.size+1,1,none⟩=some (Value.slice (some ⟨b2,o2,none⟩) n c'))
      (first | (exact ⟨y1,y1'⟩))
      (first | (go_at_call 87;refine (CW.out _ (by first | exact HQ.out | exact HQ.out.drewN _ | exact HQ.out.drew)).mono ?_;rintro r w6 ⟨rfl,rfl⟩))
     go_wp2_with fail
     go_roundw
     case rel=>exact ⟨k+1,by omega,by go_num,Lib.hid (by rw [hkk.out,HS.out];simp),Lib.hid HQ.out.drew⟩
     case measure=>simp [intOf];omega
    ·go_wp2_with fail
     go_region_held3 (fun w'=>w'.cell? ⟨w.heap.size,1,none⟩=some (Value.slice (some ⟨b1,o1,none⟩) n c)∧w'.cell? ⟨w.heap.size+1,1,none⟩=some (Value.slice (some ⟨b2,o2,none⟩) n c'))
      (first | (exact ⟨y1,y1'⟩))
      (first | (go_at_call 87;refine (CW.out _ (by first | exact HQ.out | exact HQ.out.drewN _ | exact HQ.out.drew)).mono ?_;rintro r w6 ⟨rfl,rfl⟩))
     go_wp2_with fail
     go_ret
     obtain ⟨q,rfl⟩:=HQ.out
     refine ⟨?_,⟨below_drewN (below_drewN hD.b _) 1,?_⟩⟩
     ·rw [HO.out,if_neg (fun q=>q rfl),hkk.out,HS.out,if_neg hz];rfl
     ·have:=hD.d;show w.drawn≤W1.drawn+q+1;omega
   ·have hI:¬ (k:Int)<(n:Int):=by omega
    have hkn:k=n:=by omega
    go_wp2_with fail
    go_ret
    obtain ⟨q,rfl⟩:=HQ.out
    refine ⟨?_,⟨below_drewN hD.b _,?_⟩⟩
    ·rw [HO.out,if_neg (by simp),hkk.out,hkn,show a.regs.drop n=[] from List.drop_eq_nil_of_le (by rw [← HN.out];exact Nat.le_refl _)];rfl
    ·have:=hD.d;show w.drawn≤W1.drawn+q;omega
 ·go_wp2_with fail
  go_ret
  exact ⟨by rw [HO.out,if_pos hz];rfl,hD⟩
end Go.Proofs.Ytmcpdafmkkjlcaa.Z
namespace Go.Proofs
open Go.Shelf Go.RowKit Go.Lib Go.Sort
def Ytmcpdafmkkjlcaa.sortFin_ren:Go.Shelf.Ren:=⟨fun | 6=>51 | 15=>86 | 14=>85 | 28=>105 | 29=>106 | 20=>97 | 21=>98 | 22=>99 | 23=>100 | 24=>101 | 25=>102 | 26=>103 | 27=>104 | 46=>108 | 47=>109 | 48=>110 | 49=>111 | 50=>112 | 57=>114 | n=>n,fun | 22=>58 | 24=>67 | 25=>101 | 3=>3 | 39=>138 | 0=>0 | 53=>162 | 55=>164 | 4=>4 | 46=>156 | 45=>155 | 50=>144 | 5=>5 | 9=>9 | 66=>166 | 70=>151 | 76=>172 | 77=>173 | n=>n,fun | n=>n⟩
theorem Ytmcpdafmkkjlcaa.sortFin:Go.Proofs.SlLaysF0.n6 Try.prog Ytmcpdafmkkjlcaa.sortFin_ren where
 mixed:=by kernel_rfl
 f6:=⟨"slices.SortFunc[[]reclaim/api.Final,reclaim/api.Final]",by decide,Try.func51.trans (congrArg some (by kernel_rfl))⟩
 f14:=⟨"slices.pdqsortCmpFunc[reclaim/api.Final]",by decide,Try.func85.trans (congrArg some (by kernel_rfl))⟩
 f15:=Try.func86.trans (congrArg some (by kernel_rfl))
 f20:=⟨"slices.insertionSortCmpFunc[reclaim/api.Final]",by decide,Try.func97.trans (congrArg some (by kernel_rfl))⟩
 f21:=⟨"slices.heapSortCmpFunc[reclaim/api.Final]",by decide,Try.func98.trans (congrArg some (by kernel_rfl))⟩
 f22:=⟨"slices.breakPatternsCmpFunc[reclaim/api.Final]",by decide,Try.func99.trans (congrArg some (by kernel_rfl))⟩
 f23:=⟨"slices.choosePivotCmpFunc[reclaim/api.Final]",by decide,Try.func100.trans (congrArg some (by kernel_rfl))⟩
 f24:=⟨"slices.reverseRangeCmpFunc[reclaim/api.Final]",by decide,Try.func101.trans (congrArg some (by kernel_rfl))⟩
 f25:=⟨"slices.partialInsertionSortCmpFunc[reclaim/api.Final]",by decide,Try.func102.trans (congrArg some (by kernel_rfl))⟩
 f26:=⟨"slices.partitionEqualCmpFunc[reclaim/api.Final]",by decide,Try.func103.trans (congrArg some (by kernel_rfl))⟩
 f27:=⟨"slices.partitionCmpFunc[reclaim/api.Final]",by decide,Try.func104.trans (congrArg some (by kernel_rfl))⟩
 f28:=Try.func105.trans (congrArg some (by kernel_rfl))
 f29:=Try.func106.trans (congrArg some (by kernel_rfl))
 f46:=⟨"slices.siftDownCmpFunc[reclaim/api.Final]",by decide,Try.func108.trans (congrArg some (by kernel_rfl))⟩
 f47:=Try.func109.trans (congrArg some (by kernel_rfl))
 f48:=Try.func110.trans (congrArg some (by kernel_rfl))
 f49:=⟨"slices.medianAdjacentCmpFunc[reclaim/api.Final]",by decide,Try.func111.trans (congrArg some (by kernel_rfl))⟩
 f50:=⟨"slices.medianCmpFunc[reclaim/api.Final]",by decide,Try.func112.trans (congrArg some (by kernel_rfl))⟩
 f57:=⟨"slices.order2CmpFunc[reclaim/api.Final]",by decide,Try.func114.trans (congrArg some (by kernel_rfl))⟩
 t0:=Try.underlying0
 a0:=Try.isAgg0
 z0:=Try.sizeOf0
 v0:=Try.zeroValue0
 t3:=Try.underlying3
 a3:=Try.isAgg3
 z3:=Try.sizeOf3
 v3:=Try.zeroValue3
 t4:=Try.underlying4
 a4:=Try.isAgg4
 z4:=Try.sizeOf4
 v4:=Try.zeroValue4
 t5:=Try.underlying5
 a5:=Try.isAgg5
 z5:=Try.sizeOf5
 v5:=Try.zeroValue5
 t9:=Try.underlying9
 a9:=Try.isAgg9
 z9:=Try.sizeOf9
 v9:=Try.zeroValue9
 t22:=Try.underlying58
 a22:=Try.isAgg58
 z22:=Try.sizeOf58
 v22:=Try.zeroValue58
 t25:=Try.underlying101
 a25:=Try.isAgg101
 z25:=Try.sizeOf101
 v25:=Try.zeroValue101
 t39:=Try.underlying138
 a39:=Try.isAgg138
 z39:=Try.sizeOf138
 v39:=Try.zeroValue138
 t45:=Try.underlying155
 a45:=Try.isAgg155
 z45:=Try.sizeOf155
 v45:=Try.zeroValue155
 t46:=Try.underlying156
 a46:=Try.isAgg156
 z46:=Try.sizeOf156
 v46:=Try.zeroValue156
 t50:=Try.underlying144
 a50:=Try.isAgg144
 z50:=Try.sizeOf144
 v50:=Try.zeroValue144
 t53:=Try.underlying162
 a53:=Try.isAgg162
 z53:=Try.sizeOf162
 v53:=Try.zeroValue162
 t55:=Try.underlying164
 a55:=Try.isAgg164
 z55:=Try.sizeOf164
 v55:=Try.zeroValue164
 t66:=Try.underlying166
 a66:=Try.isAgg166
 z66:=Try.sizeOf166
 v66:=Try.zeroValue166
 t70:=Try.underlying151
 a70:=Try.isAgg151
 z70:=Try.sizeOf151
 v70:=Try.zeroValue151
 t76:=Try.underlying172
 a76:=Try.isAgg172
 z76:=Try.sizeOf172
 v76:=Try.zeroValue172
 t77:=Try.underlying173
 a77:=Try.isAgg173
 z77:=Try.sizeOf173
 v77:=Try.zeroValue173
namespace Ytmcpdafmkkjlcaa.Z
open Go Go.RowKit
def cmpI (l:List Sp) (a b:Nat):Int:=cmpL (numF (endF (l.getD a sp0).s)) (numF (endF (l.getD b sp0).s))
theorem cmp_letrans {a b c:List Int} (h1:cmpL a b≤0) (h2:cmpL b c≤0):cmpL a c≤0:=by
 by_cases e1:cmpL a b=0
 ·rw [(cmp_zero a b).1 e1];exact h2
 ·by_cases e2:cmpL b c=0
  ·rw [← (cmp_zero b c).1 e2];exact h1
  ·have:=(cmp_less a c).2 (less_trans ((cmp_less a b).1 (by omega)) ((cmp_less b c).1 (by omega)))
   omega
theorem map_inj {L:Lt} {o:Int} {l:List Sp} (h:WkNd L o l):∀ {m m' : List Nat},(∀ x∈m,x∈idxL L l)→(∀ x∈m',x∈idxL L l)→m.map (fun k=>endF (l.getD k sp0).s)=m'.map (fun k=>endF (l.getD k sp0).s)→m=m'
 | [],[],_,_,_=>rfl
 | [],_ :: _,_,_,e=>by simp at e
 | _ :: _,[],_,_,e=>by simp at e
 | a :: m,b :: m',h1,h2,e=>by
  simp only [List.map_cons,List.cons.injEq] at e
  rw [idx_inj h (h1 a List.mem_cons_self) (h2 b List.mem_cons_self) e.1,map_inj h (fun x hx=>h1 x (List.mem_cons_of_mem _ hx)) (fun x hx=>h2 x (List.mem_cons_of_mem _ hx)) e.2]
theorem srt_ex {L:Lt} {o:Int} {l:List Sp} (h:WkNd L o l):∃ zs:List Nat,zs.Perm (idxL L l)∧zs.map (fun k=>endF (l.getD k sp0).s)=finsL L (l.map (·.s))∧∀ m:List Nat,m.Perm (idxL L l)→m.Pairwise (fun a b=>¬ ordI l b a<0)→m=zs:=by
 have hle:∀ a b,a∈idxL L l→b∈idxL L l→(¬ ordI l b a<0↔ordI l a b≤0):=fun a b ha hb=>by
  rw [ordI_eq h (idx_lt ha).1 (idx_lt hb).1,ordI_eq h (idx_lt hb).1 (idx_lt ha).1,cmp_anti]
  omega
 have hp:=List.mergeSort_perm (idxL L l) fun a b=>decide (cmpI l a b≤0)
 have hs:=List.pairwise_mergeSort (le:=fun a b=>decide (cmpI l a b≤0)) (fun a b c h1 h2=>by
  simp only [decide_eq_true_eq] at h1 h2 ⊢
  exact cmp_letrans h1 h2) (fun a b=>by
  simp only [Bool.or_eq_true,decide_eq_true_eq]
  unfold cmpI
  rw [cmp_anti (numF (endF (l.getD a sp0).s)) (numF (endF (l.getD b sp0).s))]
  omega) (idxL L l)
 have hs2:((idxL L l).mergeSort fun a b=>decide (cmpI l a b≤0)).Pairwise fun a b=>ordI l a b≤0:=List.Pairwise.imp_of_mem (fun {a b} ha hb hab=>by
  rw [ordI_eq h (idx_lt (hp.mem_iff.1 ha)).1 (idx_lt (hp.mem_iff.1 hb)).1]
  exact of_decide_eq_true hab) hs
 have hm:=srt_idx h hp hs2
 refine ⟨_,hp,hm,fun m hmp hms=>?_⟩
 refine map_inj h (fun x hx=>hmp.mem_iff.1 hx) (fun x hx=>hp.mem_iff.1 hx) ?_
 rw [hm]
 exact srt_idx h hmp (List.Pairwise.imp_of_mem (fun {a b} ha hb hab=>(hle a b (hmp.mem_iff.1 ha) (hmp.mem_iff.1 hb)).1 hab) hms)
theorem swo_idx {L:Lt} {o:Int} {l:List Sp} (h:WkNd L o l):Go.Sort.SWO (ltOf fun x y:{x:Nat // x∈idxL L l}=>ordI l x.1 y.1):=by
 have e:∀ x y:{x:Nat // x∈idxL L l},ordI l x.1 y.1=cmpI l x.1 y.1:=fun x y=>ordI_eq h (idx_lt x.2).1 (idx_lt y.2).1
 refine ⟨fun x=>?_,fun x y z=>?_,fun x y z=>?_⟩ <;> simp only [ltOf,decide_eq_true_eq,decide_eq_false_iff_not,e]
 ·unfold cmpI;rw [(cmp_zero _ _).2 rfl];omega
 ·unfold cmpI
  intro h1 h2
  exact (cmp_less _ _).2 (less_trans ((cmp_less _ _).1 h1) ((cmp_less _ _).1 h2))
 ·intro h1 h2 h3
  unfold cmpI at h1 h2 h3
  have a1:=cmp_anti (numF (endF (l.getD x.1 sp0).s)) (numF (endF (l.getD y.1 sp0).s))
  have a2:=cmp_anti (numF (endF (l.getD y.1 sp0).s)) (numF (endF (l.getD z.1 sp0).s))
  have a3:=cmp_anti (numF (endF (l.getD x.1 sp0).s)) (numF (endF (l.getD z.1 sp0).s))
  have:=cmp_letrans (a:=numF (endF (l.getD z.1 sp0).s)) (b:=numF (endF (l.getD y.1 sp0).s)) (c:=numF (endF (l.getD x.1 sp0).s)) (by omega) (by omega)
  omega
theorem arr_ownW {C:Ctx} {E:Env} {S:St} {a:Act} {w W:World} (hs:Sat C.B C.W C.w0 E S a w) {α:Type} {ty s:Nat} {enc:α→List Value} {ys:List α} {d:α} (x y:Nm) (k n k' s' ty' : Nat) (at_ at' : Nat→List SC) (hat:atN S.own x=some (.ar k s at_ ty)) (hay:atN S.own y=some (.ar k' s' at' ty')) (hne:x≠y) (hk' : 0<k') (hn:n=ys.length) (hk:ys.length≤k)
  (ha:∀ e,e<ys.length→at_ e=ats enc ys d e) (hW:∀ n,n<w.heap.size→n≠E.ρ y→W.heap[n]? = w.heap[n]?):Arr W enc s ((SC.sl x s 0 n none).den E) ys:=by
 subst hn
 obtain ⟨H,hH,_⟩:=hs.mem
 rcases ar_heap hH hat with ⟨h1,h2,h3,_⟩ | ⟨h1,h2,h3,cells,h4,h5,h6,h7⟩
 ·have h0:ys=[]:=List.eq_nil_of_length_eq_zero (by omega)
  subst h0
  exact ⟨if E.ν x=true then none else some ⟨E.ρ x,0,none⟩,0,by simp [SC.den,h2],Nat.le_refl _,by simp [maxLen],Or.inl rfl⟩
 ·refine ⟨some ⟨E.ρ x,0,none⟩,E.κ x,by simp [SC.den,h1],by omega,h3,Or.inr ⟨_,_,rfl,fun e y' hy j u hu=>?_⟩⟩
  have hxy:E.ρ x≠E.ρ y:=fun q=>by
   rcases ar_heap hH hay with ⟨_,_,g3,_⟩ | ⟨_,_,_,cells2,g4,_,_,_⟩
   ·omega
   ·have:=hH.disj x y _ _ hat hay hne (E.ρ x)
    rw [h4,g4,q] at this
    simp [sing] at this
  have hlt:E.ρ x<w.heap.size:=(Array.getElem?_eq_some_iff.1 h5).1
  rw [cell_of_row W _ _ _ ty (0,0) (by rw [hW _ hlt hxy];exact h5),Nat.zero_add]
  have he:e<ys.length:=(List.getElem?_eq_some_iff.1 hy).1
  have:=((h7 e (by omega)).2 j (.v u) (by
   rw [ha e he]
   have:ys.getD e d=y':=by rw [List.getD_eq_getElem?_getD,hy];rfl
   simp only [ats,this,List.getElem?_map,hu];rfl)).1
  rw [den_v] at this
  exact this
theorem retNm {P:Program} {A:List Nat} {w:World} {rs:List RS} {nx:Nat} {T:Nat→SV} {O:Nat→Own} {v:SV} {S:St} (σ:Nat→Nm→Nm) (hv:∀ b,v=(T b).ren (σ b)∧(T b).okN (NewIds b nx))
  (ho:∀ b,OwnLe (NewIds b nx) (σ b) S.own (O b)) (hi:∀ b,InjN (σ b) (O b)):RetVC (mkC P A w rs (RetN w nx T O)) v S:=by
 intro E a w' hs
 have hs:=hs.sat
 refine ⟨_,rfl,below_of hs,fun b=>⟨E.via (σ b),fun x=>hs.one _,fun E2 hE2=>?_⟩⟩
 have hR:∀ x:Nm,NewIds b nx x.1→SameR (σ b) E E2 x:=fun x hx=>hE2 x hx
 obtain ⟨H,hH,_⟩:=hs.mem
 have hat:∀ x c,atN (O b) x=some c→NewIds b nx x.1∧∃ d,atN S.own (σ b x)=some d∧BlkLe (NewIds b nx) (σ b) d c:=fun x c hx=>ownLe_at (ho b) hx
 refine ⟨?_,fun x=>H (σ b x),?_,?_,?_⟩
 ·rw [sv_ren hR _ (hv b).2,← (hv b).1]
 ·intro x c hx
  obtain ⟨h1,d,h2,h3⟩:=hat x c hx
  exact blk_le hR h1 h3 (hH.den _ _ h2)
 ·intro x y c d hx hy hne n
  obtain ⟨_,c',h2,_⟩:=hat x c hx
  obtain ⟨_,d',g2,_⟩:=hat y d hy
  exact hH.disj _ _ c' d' h2 g2 (fun e=>hne (hi b x y c d hx hy e)) n
 ·intro x c hx n o hn
  obtain ⟨_,c',h2,_⟩:=hat x c hx
  obtain ⟨h3,h4⟩:=hH.sub _ c' h2 n o hn
  exact ⟨h3,h4.resolve_right fun h=>h.elim⟩
def esF (l:List Sp) (k:Nat):List SC:=[.sl (5,k,0) 1 0 (l.getD k sp0).s.words.length none,.sl (6,k,0) 4 0 (l.getD k sp0).s.regs.length none]
def idxT (L:Lt) (l:List Sp) (i:Nat):List Nat:=(List.range i).filter fun k=>finB L (l.getD k sp0).s
theorem idxT_succ {L:Lt} {l:List Sp} {i:Nat}:idxT L l (i+1)=if finB L (l.getD i sp0).s=true then idxT L l i++[i] else idxT L l i:=by
 unfold idxT
 rw [List.range_succ,List.filter_append]
 by_cases h:finB L (l.getD i sp0).s=true
 ·rw [if_pos h,List.filter_cons,if_pos h];rfl
 ·rw [if_neg h,List.filter_cons,if_neg h];simp
theorem idxT_len {L:Lt} {l:List Sp} (i:Nat):(idxT L l i).length≤i:=by
 have:=List.length_filter_le (fun k=>finB L (l.getD k sp0).s) (List.range i)
 rwa [List.length_range] at this
def ffL (l:List Sp) (ys:List Nat) (n:Nat):Blk:=.ar n 2 (fun e=>esF l (ys.getD e 0)) 67
def ffS (L:Lt) (l:List Sp) (i:Nat):Own:=(3,.one (.bk [.xv (0,0,0),.xv (1,0,0)] 25)) :: wlO 4 l++[(10,.one (ffL l (idxT L l i) (idxT L l i).length))]
def ffTm (L:Lt) (l:List Sp) (i:Nat):List (Nat×SV):=[(2,.c (.ptr (3,0,0) 0)),(8,.c (.sl (10,0,0) 2 0 (idxT L l i).length none)),(20,.c (.sl (4,0,0) 8 0 l.length none)),(21,.c (.v (.int .i64 l.length))),(22,.c (.v (.int .i64 i)))]
theorem ff_same {q:Nat→Prop} {τ:Nat→Nat} {own:Own} {l:List Sp} {ys:List Nat} {m:Nat} {at_:Nat→List SC} (c:Nat) (hq:∀ i,i<11→q i) (hτ:∀ i,i<10→τ i=i) (h10:τ 10=c) (h3:look own 3=some (.one (.bk [.xv (0,0,0),.xv (1,0,0)] 25)))
  (g4:look own 4=some (.one (.ar l.length 8 (wlC 4 l) 98))) (g5:look own 5=some (.fam l.length (wlW l))) (g6:look own 6=some (.fam l.length (wlR l))) (g7:look own 7=some (.fam l.length (wlP l))) (g8:look own 8=some (.fam l.length (wlB 9 l))) (g9:look own 9=some (.fam2 l.length (wlN l) (wlF l)))
  (hc:look own c=some (.one (.ar m 2 at_ 67))) (hm:ys.length≤m) (ha:∀ e,e<ys.length→at_ e=esF l (ys.getD e 0)):OwnLe q (idσ τ) own ((3,.one (.bk [.xv (0,0,0),.xv (1,0,0)] 25)) :: wlO 4 l++[(10,.one (ffL l ys ys.length))]):=by
 have t0:=hτ 0 (by decide);have t1:=hτ 1 (by decide);have t3:=hτ 3 (by decide);have t4:=hτ 4 (by decide);have t5:=hτ 5 (by decide);have t6:=hτ 6 (by decide);have t7:=hτ 7 (by decide);have t8:=hτ 8 (by decide);have t9:=hτ 9 (by decide)
 have q0:=hq 0 (by decide);have q1:=hq 1 (by decide);have q5:=hq 5 (by decide);have q6:=hq 6 (by decide);have q7:=hq 7 (by decide);have q8:=hq 8 (by decide);have q9:=hq 9 (by decide)
 refine ⟨⟨hq 3 (by decide),?_⟩,⟨hq 4 (by decide),?_⟩,⟨hq 5 (by decide),fun k hk=>?_⟩,⟨hq 6 (by decide),fun k hk=>?_⟩,⟨hq 7 (by decide),fun k hk=>?_⟩,⟨hq 8 (by decide),fun k hk=>?_⟩,⟨hq 9 (by decide),fun k e hk he=>?_⟩,⟨hq 10 (by decide),?_⟩,trivial⟩
 ·simp only [idσ,t3,atN,h3,Fm.get,and_self,if_true]
  exact ⟨by simp only [SC.renL,SC.ren,idσ,t0,t1],rfl,by simp [SC.okL,SC.okN,q0,q1]⟩
 ·simp only [idσ,t4,atN,g4,Fm.get,and_self,if_true]
  exact ⟨Nat.le_refl _,rfl,rfl,fun e _=>⟨by simp only [wlC,SC.renL,SC.ren,idσ,Nat.reduceAdd,t5,t6,t7,t8],by simp [wlC,SC.okL,SC.okN,q5,q6,q7,q8]⟩⟩
 ·simp only [idσ,Nat.reduceAdd,t5,atN,g5,Fm.get,hk,and_self,if_true];exact arLe_same
 ·simp only [idσ,Nat.reduceAdd,t6,atN,g6,Fm.get,hk,and_self,if_true];exact arLe_same
 ·simp only [idσ,Nat.reduceAdd,t7,atN,g7,Fm.get,hk,and_self,if_true];exact arLe_same
 ·simp only [idσ,Nat.reduceAdd,t8,atN,g8,Fm.get,hk,and_self,if_true]
  exact ⟨Nat.le_refl _,rfl,rfl,fun e _=>⟨by simp only [SC.renL,SC.ren,idσ,t9],by simp [SC.okL,SC.okN,q9]⟩⟩
 ·simp only [idσ,Nat.reduceAdd,t9,atN,g9,Fm.get,hk,he,and_self,if_true];exact arLe_same
 ·simp only [idσ,h10,atN,hc,Fm.get,and_self,if_true]
  exact ⟨hm,rfl,rfl,fun e he=>⟨by rw [ha e he];simp only [esF,SC.renL,SC.ren,idσ,t5,t6],by simp [esF,SC.okL,SC.okN,q5,q6]⟩⟩
end Ytmcpdafmkkjlcaa.Z
end Go.Proofs
namespace Go.Proofs.Ytmcpdafmkkjlcaa.Z
open Go Go.RowKit
def ir54:IR:=(.seq (.ops [⟨(some 2),(.box 25 (.t 0)),none⟩,⟨(some 4),(.new 105 [(.v (.slice none 0 0)),(.v (.slice none 0 0)),(.v (.slice none 0 0))]),none⟩,⟨(some 5),(.mv (.k (.c (.v (.bool false))))),none⟩]) (.kill [0,3,5,6,7,8,9,10,11] (.seq (.ops [⟨(some 6),(.new 105 [(.v (.slice none 0 0)),(.v (.slice none 0 0)),(.v (.slice none 0 0))]),none⟩]) (.seq (.ops [⟨(some 15),(.build [(.v (.slice none 0 0)),(.v (.slice none 0 0)),(.v (.slice none 0 0))] []),none⟩,⟨(some 16),(.box 143 (.t 15)),none⟩,⟨(some 7),(.mv (.t 16)),none⟩]) (.kill [15,16] (.seq (.ops [⟨(some 17),(.ld true 2 (.t 2)),none⟩,⟨(some 18),(.call 20 [(.t 17)]),none⟩,⟨(some 8),(.new 32 [(.v (.slice none 0 0)),(.v (.slice none 0 0)),(.v (.slice none 0 0)),(.v (.slice none 0 0))]),none⟩,⟨none,(.st 4 (.t 8) (.t 18)),none⟩]) (.kill [17,18] (.seq (.ops [⟨(some 19),(.mv (.t 7)),none⟩,⟨(some 20),(.ld true 4 (.t 8)),none⟩,⟨(some 21),(.call 89 [(.t 20)]),none⟩,⟨(some 22),(.call 88 [(.t 19),(.t 21)]),none⟩]) (.kill [19,20,21,22] (.seq (.ops [⟨(some 23),(.fa 0 (.t 6)),none⟩,⟨(some 24),(.ld false 1 (.t 23)),none⟩,⟨(some 25),(.ld true 4 (.t 8)),none⟩,⟨(some 26),(.mkSl 32 1 4 [(.v (.slice none 0 0)),(.v (.slice none 0 0)),(.v (.slice none 0 0)),(.v (.slice none 0 0))] [(0,(4,(.t 25)))]),none⟩,⟨(some 27),(.app 32 4 96 [(.v (.slice none 0 0)),(.v (.slice none 0 0)),(.v (.slice none 0 0)),(.v (.slice none 0 0))] (.t 24) (.t 26)),none⟩,⟨(some 28),(.fa 0 (.t 6)),none⟩,⟨none,(.st 1 (.t 28) (.t 27)),none⟩]) (.kill [8,23,24,25,26,27,28] (.seq (.ops [⟨(some 29),(.fa 1 (.t 6)),none⟩,⟨(some 30),(.ld false 1 (.t 29)),none⟩,⟨(some 31),(.mkSl 3 1 1 [(.v (.int .i64 0))] [(0,(1,(.k (.c (.v (.int .i64 (-1)))))))]),none⟩,⟨(some 32),(.app 3 1 8 [(.v (.int .i64 0))] (.t 30) (.t 31)),none⟩,⟨(some 33),(.fa 1 (.t 6)),none⟩,⟨none,(.st 1 (.t 33) (.t 32)),none⟩]) (.kill [29,30,31,32,33] (.seq (.ops [⟨(some 34),(.fa 2 (.t 6)),none⟩,⟨(some 35),(.ld false 1 (.t 34)),none⟩,⟨(some 36),(.build [(.v (.int .i64 0)),(.v (.bool false)),(.v (.int .i64 0))] []),none⟩,⟨(some 37),(.mkSl 44 1 3 [(.v (.int .i64 0)),(.v (.bool false)),(.v (.int .i64 0))] [(0,(3,(.t 36)))]),none⟩,⟨(some 38),(.app 44 3 24 [(.v (.int .i64 0)),(.v (.bool false)),(.v (.int .i64 0))] (.t 35) (.t 37)),none⟩,⟨(some 39),(.fa 2 (.t 6)),none⟩,⟨none,(.st 1 (.t 39) (.t 38)),none⟩]) (.kill [34,35,36,37,38,39] (.seq (.ops [⟨(some 40),(.ld true 2 (.t 2)),none⟩,⟨(some 41),(.mv (.t 1)),none⟩,⟨(some 42),(.call 90 [(.t 40),(.t 41)]),none⟩,⟨(some 9),(.mv (.t 42)),none⟩]) (.kill [40,41,42] (.seq (.seq (.ops [⟨(some 10),(.mv (.k (.c (.v (.int .i64 0))))),none⟩]) (.blk 0 (.loop (.seq (.seq (.ops [⟨(some 43),(.mv (.t 10)),none⟩,⟨(some 44),(.fa 0 (.t 6)),none⟩,⟨(some 45),(.ld false 1 (.t 44)),none⟩,⟨(some 46),(.len (.t 45)),none⟩,⟨(some 47),(.bin .lss (.t 43) (.t 46)),none⟩]) (.kill [5,11,12,13,14,43,44,45,46,48,49,50,51,52,53,54,55,56,57,58,59,60,61,62,63,64,65,66,67,68,69,70,71,72,73,74,75,76,77,78,79,80,81,82,83,84,85,86,87,88,89,90,91,92,93,94,95,96,97,98,99,100,101,102,103,104] (.cond (.t 47) .skip (.exit 0)))) (.kill [47] (.seq (.blk 1 (.seq (.ops [⟨(some 11),(.mv (.k (.c (.v (.int .i64 0))))),none⟩]) (.blk 2 (.loop (.seq (.seq (.ops [⟨(some 50),(.mv (.t 11)),none⟩,⟨(some 51),(.mv (.t 9)),none⟩,⟨(some 52),(.len (.t 51)),none⟩,⟨(some 53),(.bin .lss (.t 50) (.t 52)),none⟩]) (.kill [5,12,13,14,50,51,52,54,55,56,57,58,59,60,61,62,63,64,65,66,67,68,69,70,71,72,73,74,75,76,77,78,79,80,81,82,83,84,85,86,87,88,89,90,91,92,93,94,95,96,97,98,99,100,101,102,103,104] (.cond (.t 53) .skip (.exit 2)))) (.kill [53] (.seq (.blk 3 (.seq (.ops [⟨(some 56),(.fa 0 (.t 6)),none⟩,⟨(some 57),(.ld false 1 (.t 56)),none⟩,⟨(some 58),(.mv (.t 10)),none⟩,⟨(some 59),(.ia 4 (.t 57) (.t 58)),none⟩,⟨(some 60),(.ld true 4 (.t 59)),none⟩,⟨(some 61),(.call 21 [(.t 60)]),none⟩,⟨(some 12),(.new 32 [(.v (.slice none 0 0)),(.v (.slice none 0 0)),(.v (.slice none 0 0)),(.v (.slice none 0 0))]),none⟩,⟨none,(.st 4 (.t 12) (.t 61)),none⟩]) (.kill [56,57,58,59,60,61] (.seq (.seq (.draw [(⟨(some 62),(.ld true 2 (.t 2)),none⟩,([],[63,64,65,66,67])),(⟨(some 63),(.mv (.t 1)),none⟩,([0],[62,64,65,66,67])),(⟨(some 64),(.mv (.t 9)),none⟩,([0,1],[62,63,65])),(⟨(some 65),(.mv (.t 11)),none⟩,([0,1,2],[62,63,64])),(⟨(some 66),(.ia 3 (.t 64) (.t 65)),none⟩,([0,1],[62,63])),(⟨(some 67),(.ld true 3 (.t 66)),none⟩,([0,1],[62,63])),(⟨(some 68),(.call 25 [(.t 62),(.t 63),(.t 12),(.t 67)]),none⟩,([],[])),(⟨(some 69),(.un .not (.t 68)),none⟩,([],[]))]) (.kill [62,63,64,65,66,67,68] (.cond (.t 69) (.exit 3) .skip))) (.kill [69] (.seq (.ops [⟨(some 71),(.mv (.t 7)),none⟩,⟨(some 72),(.ld true 4 (.t 12)),none⟩,⟨(some 73),(.call 89 [(.t 72)]),none⟩,⟨(some 74),(.call 88 [(.t 71),(.t 73)]),none⟩,⟨(some 70),(.mv (.t 74)),none⟩,⟨(some 75),(.ext 0 (.t 70)),none⟩,⟨(some 76),(.ext 1 (.t 70)),none⟩,⟨(some 13),(.mv (.t 75)),none⟩,⟨(some 14),(.mv (.t 76)),none⟩]) (.kill [13,70,71,72,73,74,75,76] (.seq (.seq (.ops [⟨(some 77),(.mv (.t 14)),none⟩,⟨(some 78),(.un .not (.t 77)),none⟩]) (.kill [14,77] (.cond (.t 78) (.exit 3) .skip))) (.kill [78] (.seq (.seq (.ops [⟨(some 79),(.fa 0 (.t 6)),none⟩,⟨(some 80),(.ld false 1 (.t 79)),none⟩,⟨(some 81),(.len (.t 80)),none⟩,⟨(some 82),(.bin .eql (.t 81) (.k (.c (.v (.int .i64 30000))))),none⟩]) (.kill [79,80,81] (.cond (.t 82) (.seq (.ops [⟨(some 83),(.build [(.v (.slice none 0 0)),(.v (.slice none 0 0)),(.v (.slice none 0 0))] []),none⟩,⟨none,(.st 3 (.t 4) (.t 83)),none⟩,⟨(some 5),(.mv (.k (.c (.v (.bool false))))),none⟩]) (.kill [1,2,6,7,9,10,11,12,82,83] .ret)) .skip))) (.kill [5,82] (.seq (.ops [⟨(some 84),(.fa 0 (.t 6)),none⟩,⟨(some 85),(.ld false 1 (.t 84)),none⟩,⟨(some 86),(.ld true 4 (.t 12)),none⟩,⟨(some 87),(.mkSl 32 1 4 [(.v (.slice none 0 0)),(.v (.slice none 0 0)),(.v (.slice none 0 0)),(.v (.slice none 0 0))] [(0,(4,(.t 86)))]),none⟩,⟨(some 88),(.app 32 4 96 [(.v (.slice none 0 0)),(.v (.slice none 0 0)),(.v (.slice none 0 0)),(.v (.slice none 0 0))] (.t 85) (.t 87)),none⟩,⟨(some 89),(.fa 0 (.t 6)),none⟩,⟨none,(.st 1 (.t 89) (.t 88)),none⟩]) (.kill [12,84,85,86,87,88,89] (.seq (.ops [⟨(some 90),(.fa 1 (.t 6)),none⟩,⟨(some 91),(.ld false 1 (.t 90)),none⟩,⟨(some 92),(.mv (.t 10)),none⟩,⟨(some 93),(.mkSl 3 1 1 [(.v (.int .i64 0))] [(0,(1,(.t 92)))]),none⟩,⟨(some 94),(.app 3 1 8 [(.v (.int .i64 0))] (.t 91) (.t 93)),none⟩,⟨(some 95),(.fa 1 (.t 6)),none⟩,⟨none,(.st 1 (.t 95) (.t 94)),none⟩]) (.kill [90,91,92,93,94,95] (.draw [(⟨(some 96),(.fa 2 (.t 6)),none⟩,([],[98,99,100,101,102])),(⟨(some 97),(.ld false 1 (.t 96)),none⟩,([],[98,99,100,101,102])),(⟨(some 98),(.mv (.t 9)),none⟩,([0,1],[96,97,99])),(⟨(some 99),(.mv (.t 11)),none⟩,([0,1,2],[96,97,98])),(⟨(some 100),(.ia 3 (.t 98) (.t 99)),none⟩,([0,1],[96,97])),(⟨(some 101),(.ld true 3 (.t 100)),none⟩,([0,1],[96,97])),(⟨(some 102),(.mkSl 44 1 3 [(.v (.int .i64 0)),(.v (.bool false)),(.v (.int .i64 0))] [(0,(3,(.t 101)))]),none⟩,([0,1],[96,97])),(⟨(some 103),(.app 44 3 24 [(.v (.int .i64 0)),(.v (.bool false)),(.v (.int .i64 0))] (.t 97) (.t 102)),none⟩,([],[])),(⟨(some 104),(.fa 2 (.t 6)),none⟩,([],[])),(⟨none,(.st 1 (.t 104) (.t 103)),none⟩,([],[]))])))))))))))))))) (.kill [5,12,13,14,56,57,58,59,60,61,62,63,64,65,66,67,68,69,70,71,72,73,74,75,76,77,78,79,80,81,82,83,84,85,86,87,88,89,90,91,92,93,94,95,96,97,98,99,100,101,102,103,104] (.ops [⟨(some 54),(.mv (.t 11)),none⟩,⟨(some 55),(.bin .add (.t 54) (.k (.c (.v (.int .i64 1))))),none⟩,⟨(some 11),(.mv (.t 55)),none⟩]))))))))) (.kill [5,11,12,13,14,50,51,52,53,54,55,56,57,58,59,60,61,62,63,64,65,66,67,68,69,70,71,72,73,74,75,76,77,78,79,80,81,82,83,84,85,86,87,88,89,90,91,92,93,94,95,96,97,98,99,100,101,102,103,104] (.ops [⟨(some 48),(.mv (.t 10)),none⟩,⟨(some 49),(.bin .add (.t 48) (.k (.c (.v (.int .i64 1))))),none⟩,⟨(some 10),(.mv (.t 49)),none⟩])))))))) (.kill [1,2,5,7,9,10,11,12,13,14,43,44,45,46,47,48,49,50,51,52,53,54,55,56,57,58,59,60,61,62,63,64,65,66,67,68,69,70,71,72,73,74,75,76,77,78,79,80,81,82,83,84,85,86,87,88,89,90,91,92,93,94,95,96,97,98,99,100,101,102,103,104] (.seq (.ops [⟨(some 105),(.ld true 3 (.t 6)),none⟩,⟨none,(.st 3 (.t 4) (.t 105)),none⟩,⟨(some 5),(.mv (.k (.c (.v (.bool true))))),none⟩]) (.kill [6,105] .ret)))))))))))))))))))))
def rs54:List RS:=[(.cell 4 true 3),(.t 5)]
def nt54:Nat:=106
theorem tree1_le {T:Tr}:OwnLe (fun i=>i∈[6,7,8,9,10,13]∨NewIds 14 4 i) (idσ (backN [6,7,8,9,10,13] 0)) (killO [5]++trE T 14) (killO [13]++((6,.one (trS 14 T)) :: trO 14 T)) :=
 ⟨⟨Or.inl (by decide),by simp [idσ,backN,atN,killO,look,BlkLeO,BlkLe,Fm.get]⟩,trS_le 14 14 0 6 rfl rfl rfl rfl (fun _=>rfl) (Or.inl (by decide)) (Or.inr ⟨by decide,by decide⟩) (Or.inr ⟨by decide,by decide⟩) (Or.inr ⟨by decide,by decide⟩) (Or.inr ⟨by decide,by decide⟩) rfl rfl rfl rfl rfl⟩
theorem tree2_le {T:Tr}:OwnLe (fun i=>i∈[6,20,21,22,23,32]∨NewIds 33 4 i) (idσ (backN [6,20,21,22,23,32] 0)) (killO [1,2,3,4,5]++trE T 33) (killO [20,21,22,23,32]++((6,.one (trS 33 T)) :: trO 33 T)) :=
 ⟨⟨Or.inl (by decide),by simp [idσ,backN,atN,killO,look,BlkLeO,BlkLe,Fm.get]⟩,⟨Or.inl (by decide),by simp [idσ,backN,atN,killO,look,BlkLeO,BlkLe,Fm.get]⟩,⟨Or.inl (by decide),by simp [idσ,backN,atN,killO,look,BlkLeO,BlkLe,Fm.get]⟩,⟨Or.inl (by decide),by simp [idσ,backN,atN,killO,look,BlkLeO,BlkLe,Fm.get]⟩,⟨Or.inl (by decide),by simp [idσ,backN,atN,killO,look,BlkLeO,BlkLe,Fm.get]⟩,
  trS_le 33 33 0 6 rfl rfl rfl rfl (fun _=>rfl) (Or.inl (by decide)) (Or.inr ⟨by decide,by decide⟩) (Or.inr ⟨by decide,by decide⟩) (Or.inr ⟨by decide,by decide⟩) (Or.inr ⟨by decide,by decide⟩) rfl rfl rfl rfl rfl⟩
def tuE (s:LS):Own:=killO [29]++[(30,.one (.bk (stC 25 s) 32)),(25,.one (.ar s.words.length 1 (ats eI s.words 0) 3)),(26,.one (.ar s.regs.length 4 (ats R4.enc s.regs r40) 68)),(27,.one (.ar s.places.length 1 (ats eI s.places 0) 3)),(28,.one (.ar s.bufs.length 1 (bfC 31 s) 86)),(31,.fam s.bufs.length (bfO s))]
theorem turn_le {s:LS}:OwnLe (fun i=>i∈[0,1,2,3,4,30,25,26,27,28,29]∨NewIds 31 1 i) (idσ (backN [0,1,2,3,4,30,25,26,27,28,29] 0)) (killO [10]++stE 31 s) (tuE s):=by
 refine ⟨⟨Or.inl (by decide),?_⟩,⟨Or.inl (by decide),?_⟩,⟨Or.inl (by decide),?_⟩,⟨Or.inl (by decide),?_⟩,⟨Or.inl (by decide),?_⟩,⟨Or.inl (by decide),?_⟩,⟨Or.inr ⟨Nat.le_refl _,Nat.lt_succ_self _⟩,fun k hk=>?_⟩,trivial⟩
 ·simp [idσ,backN,atN,killO,look,BlkLeO,BlkLe,Fm.get]
 ·simp [idσ,backN,atN,killO,stE,look,BlkLeO,BlkLe,Fm.get,stC,SC.renL,SC.ren,SC.okL,SC.okN]
 ·simp [idσ,backN,atN,killO,stE,look,BlkLeO,Fm.get];exact arLe_same
 ·simp [idσ,backN,atN,killO,stE,look,BlkLeO,Fm.get];exact arLe_same
 ·simp [idσ,backN,atN,killO,stE,look,BlkLeO,Fm.get];exact arLe_same
 ·simp [idσ,backN,atN,killO,stE,look,BlkLeO,Fm.get]
  exact ⟨Nat.le_refl _,rfl,rfl,fun e he=>⟨by simp [bfC,SC.renL,SC.ren,idσ],by simp [bfC,SC.okL,SC.okN,NewIds]⟩⟩
 ·simp [idσ,backN,atN,killO,stE,look,Fm.get,hk,BlkLeO,bfO];exact arLe_same
theorem flat_seen {L:Lt} {o:Int} {l:List Sp} {T:Tr} {s:LS} (h:WkOk L o l) (hT:T.keys=l.map fun x=>flatS x.s) (hs:WfT L o s):flatS s∈T.keys↔s∈l.map (·.s):=by
 rw [hT]
 simp only [List.mem_map]
 constructor
 ·rintro ⟨x,hx,e⟩
  exact ⟨x,hx,flatS_inj (h.wf x hx).shp hs.shp e⟩
 ·rintro ⟨x,hx,e⟩
  exact ⟨x,hx,by rw [e]⟩
set_option maxRecDepth 100000 in
set_option maxHeartbeats 2000000 in
theorem all_calls (w:World) (v:Value) (L:Lt) (o:Int) (hL:checkB L=true) (h:LtR w v L):Calls Try.prog 54 #[v,.int .i64 o] w (AllR L o w):=by
 refine enterLt (A:=[]) (c:=ir54) (rs:=rs54) (nt:=nt54) h [.agg (ltS 0),.c (.v (.int .i64 o))] _ Try.func54 rfl (by kernel_rfl) (by kernel_rfl) rfl (fun E' h0=>by simp only [List.map_cons,List.map_nil,h0];rfl) (of_decide_eq_true rfl) ?_
 generalize hR:AllR L o w=R
 simp (maxSteps:=2000000) only [ir54,nt54,rs54,go_sem,↓runOp,↓reduceIte,Nat.reduceLT,Nat.reduceLeDiff,Nat.reduceAdd,Nat.reduceEqDiff,reduceCtorEq,Int.reduceNeg,ltA,ltS]
 refine callN 5 (fun b=>.agg (stC b (beginS L))) (fun b=>stO b (beginS L)) (fun E a w' hs=>rbegin_calls w' _ L hL (ltL_at hs rfl rfl rfl)) ?_
 simp (maxSteps:=2000000) only [go_sem,↓runOp,↓reduceIte,Nat.reduceLT,Nat.reduceLeDiff,Nat.reduceAdd,Nat.reduceEqDiff,Int.reduceNeg,stO,stC]
 refine callN 1 (lsT 1 (flatS (beginS L)).length) (lsO 3 1 eI (flatS (beginS L)) 0) (fun E a w' hs=>flat_calls w' _ L o (beginS L) hL (begin_wfT o) (st_ownG hs 7 11 rfl rfl rfl rfl rfl)) ?_
 simp (maxSteps:=2000000) only [go_sem,↓runOp,↓reduceIte,Nat.reduceLT,Nat.reduceAdd,Nat.reduceEqDiff,Int.reduceNeg,lsT,lsO]
 refine call_intro (cr_ownT (vs0:=[.c (.ptr (0,0,0) 0),.c (.sl (5,0,0) 1 0 (flatS (beginS L)).length none)]) (eff':=killO [13]++((6,.one (trS 14 ⟨[flatS (beginS L)],[-1],[-1]⟩)) :: trO 14 ⟨[flatS (beginS L)],[-1],[-1]⟩)) (u':=.tup [(false,[.v (.int .i64 0)]),(false,[.bo true])]) [6,7,8,9,10,13] (trN (flatS (beginS L))) [] rfl rfl (show 6≤14 by decide) (plain_of (by simp [PlainL,trN,PlainB])) ⟨rfl,by simp [okVs,SV.okN,SC.okN]⟩ ?_ trivial (by simp [keysL,trN,toN,nth,look,killO,trO]) ⟨rfl,by simp [SV.okN,SC.okN,ok1L,SC.okL]⟩ tree1_le (fun E w h=>put_first w E _ h)) (fun i hi=>ltAll_mem (l:=[6,7,8,9,10,13]) (n:=14) rfl i hi) ?_
 ·simp [trN,OwnLe,BlkLeO,BlkLe,atN,look,Fm.get,idσ,toN,nth,SC.renL,SC.ren,SC.okL,SC.okN,ren_ats,ok_ats]
 simp (maxSteps:=2000000) only [go_sem,↓runOp,↓reduceIte,Nat.reduceLT,Nat.reduceLeDiff,Nat.reduceAdd,Nat.reduceMul,Nat.reduceEqDiff,Int.reduceNeg,killO,trO,trS]
 repeat (with_reducible refine And.intro (by decide) ?_)
 refine callN 1 (lsT 3 (turnsL L o).length) (lsO 44 3 Tn.enc (turnsL L o) tn0) (fun E a w' hs=>rturns_calls w' _ L o hL (ltL_at hs rfl rfl rfl)) ?_
 simp (maxSteps:=2000000) only [go_sem,↓runOp,↓reduceIte,Nat.reduceLT,Nat.reduceAdd,Nat.reduceEqDiff,Int.reduceNeg,lsT,lsO]
 have htl:(turnsL L o).length≤28:=by have:=turnsT_len (o:=o) hL L.thr.length;have:=(sz_at hL).2.1;unfold turnsL;omega
 refine loopI (ι:={ p:Nat×List Sp×Tr // (WkOk L o p.2.1∧TrOk p.2.2∧p.2.2.keys=p.2.1.map fun x=>flatS x.s)∧p.1≤p.2.1.length∧bfsO L o (30001 - p.1) p.1 p.2.1=bfs L o }) (fun p=>⟨106,alTm o (turnsL L o).length p.1.1,alS p.1.2.1 (turnsL L o) p.1.2.2,ltA 0 L,[],25⟩)
  (fun p=>30001 - p.1.1) ⟨(0,[sp1 L],⟨[flatS (beginS L)],[-1],[-1]⟩),⟨wkOk_begin,one_ok _,rfl⟩,by simp,rfl⟩ (le_nm (alσ 0 19 7 8 9 10 11 fun i=>if i=17 then 21 else if i=18 then 23 else if 20≤i∧i≤23 then i - 6 else i) ⟨rfl,rfl,by simp [alTm,TmpsLe,look,SV.ren,SC.ren,alσ,SV.okN,SC.okN],?_,al_arrs (fun i hi=>by rw [if_neg (by omega),if_neg (by omega),if_neg (by omega)]) rfl rfl rfl,al_inj rfl rfl (Or.inl rfl) rfl rfl rfl⟩) ?_
 ·have h0:∀ e:Nat,e<1→e=0:=fun e he=>by omega
  show OwnLe (· < 25) _ _ (alS [sp1 L] (turnsL L o) ⟨[flatS (beginS L)],[-1],[-1]⟩)
  refine ownLe_app (al_push (l:=[]) (x:=sp1 L) (fun i h1 h2=>by omega) rfl rfl (fun e he=>by omega) rfl rfl rfl rfl rfl rfl (fun h=>by omega)) (ownLe_app (alA_le 19 21 23 (by simp) rfl rfl rfl rfl rfl rfl rfl rfl rfl rfl rfl rfl rfl (Nat.le_refl _) (fun e he=>by rw [h0 e he];rfl) rfl (Nat.le_refl _) (fun e he=>by rw [h0 e he];rfl) rfl) (trS_le 14 20 6 6 rfl rfl rfl rfl (fun _=>rfl) (by decide) (by decide) (by decide) (by decide) (by decide) rfl rfl rfl rfl rfl))
 rintro ⟨⟨i,l,T⟩,⟨hw,hT,hTk⟩,hi,hbf⟩
 simp only at hw hi hbf hT hTk
 simp (maxSteps:=2000000) only [go_sem,↓condS,↓exitS,↓runOp,↓reduceIte,Nat.reduceLT,Nat.reduceLeDiff,Nat.reduceAdd,Nat.reduceEqDiff,alTm,alS,alO,alA,alT,trO,trS,fdC,ltA]
 refine both (fun hlt=>?_) (fun hge=>?_)
 ·rw [decide_eq_true_eq] at hlt
  have hlt:i<l.length:=by omega
  have hln:=hw.len
  have hbf:(bfsI L o i (turnsL L o) l).bind (bfsO L o (30000 - i) (i+1))=bfs L o:=by
   rw [← hbf,show 30001 - i=(30000 - i)+1 by omega]
   simp only [bfsO,if_pos hlt]
  refine loopI (ι:={ p:Nat×List Sp×Tr // (WkOk L o p.2.1∧TrOk p.2.2∧p.2.2.keys=p.2.1.map fun x=>flatS x.s)∧p.1≤(turnsL L o).length∧i<p.2.1.length∧(bfsI L o i ((turnsL L o).drop p.1) p.2.1).bind (bfsO L o (30000 - i) (i+1))=bfs L o }) (fun p=>⟨106,alTm o (turnsL L o).length i++[(11,.c (.v (.int .i64 (p.1.1:Nat))))],alS p.1.2.1 (turnsL L o) p.1.2.2,ltA 0 L,[],25⟩)
   (fun p=>(turnsL L o).length - p.1.1) ⟨(0,l,T),⟨hw,hT,hTk⟩,Nat.zero_le _,hlt,by rw [List.drop_zero];exact hbf⟩ ?_ ?_
  ·exact le_ren id rfl rfl (by simp [alTm,TmpsLe,look,SV.ren,SC.ren,idσ,SV.okN,SC.okN]) (alS_le (q:=(· < 25)) 20 (fun i h=>h) (fun _ _ _=>rfl) rfl rfl rfl rfl rfl rfl rfl rfl rfl rfl rfl rfl rfl rfl rfl rfl rfl rfl rfl rfl rfl) (arr_ltA (p:=(· < 25)) (fun i h=>Nat.lt_of_lt_of_le h (show 3≤25 by decide)) (fun _ _=>rfl) rfl rfl rfl) rfl
  rintro ⟨⟨j,l,T⟩,⟨hw,hT,hTk⟩,hj,hlt,hbf⟩
  simp only at hw hj hlt hbf hT hTk
  simp (maxSteps:=2000000) only [go_sem,↓condS,↓exitS,↓runOp,↓reduceIte,Nat.reduceLT,Nat.reduceLeDiff,Nat.reduceAdd,Nat.reduceEqDiff,alTm,alS,alO,alC,alA,alT,trO,trS,fdC,ltA]
  refine both (fun hltj=>?_) (fun hge=>?_)
  ·rw [decide_eq_true_eq] at hltj
   have hltj:j<(turnsL L o).length:=by omega
   have hwi:=hw.at hlt
   have hdr:(turnsL L o).drop j=(turnsL L o).getD j tn0 :: (turnsL L o).drop (j+1):=by rw [List.drop_eq_getElem_cons hltj,List.getD_eq_getElem?_getD,List.getElem?_eq_getElem hltj];rfl
   rw [hdr] at hbf
   simp only [bfsI] at hbf
   refine And.intro ⟨hlt,Nat.le_refl _⟩ (And.intro hlt ?_)
   refine callN 5 (fun b=>.agg (stC b (l.getD i sp0).s)) (fun b=>stO b (l.getD i sp0).s) (fun E a w' hs=>rcopy_calls w' _ (l.getD i sp0).s (wfT_sz hL hwi) (st_ownL hs 11 i hlt rfl rfl rfl rfl rfl)) ?_
   simp (maxSteps:=2000000) only [go_sem,↓runOp,↓reduceIte,Nat.reduceLT,Nat.reduceLeDiff,Nat.reduceAdd,Nat.reduceEqDiff,stO,stC]
   have hwq:=turn_wfT hL hwi ((turnsL L o).getD j tn0)
   generalize hsi:(l.getD i sp0).s=si at hwi hwq hbf ⊢
   refine draw_vc (by kernel_rfl) (mkTab_ok _ _) (of_decide_eq_true rfl) (of_decide_eq_true rfl) ?_
   repeat (first | simp (maxSteps:=2000000) only [go_sem,↓gateD,↓runD,↓reduceIte,Nat.reduceLT,Nat.reduceLeDiff,Nat.reduceAdd,Nat.reduceEqDiff,Tn.enc,ats] | rw [dr_cons])
   refine And.intro ⟨hltj,Nat.le_refl _⟩ (And.intro hltj ?_)
   generalize htj:(turnsL L o).getD j tn0=tj at hwq hbf ⊢
   refine dcall_intro (cr_ownT (vs0:=[.agg (ltS 0),.c (.v (.int .i64 o)),.c (.ptr (5,0,0) 0),.agg (tj.enc.map .v)]) (eff':=tuE (turnS L o si tj).1) (u':=.c (.bo (turnS L o si tj).2)) [0,1,2,3,4,30,25,26,27,28,29] (stP si) (ltA 0 L) rfl rfl (show 11≤31 by decide) (stP_plain _) ⟨by simp [ltS,SV.ren,SC.renL,SC.ren,idσ,toN,nth,Tn.enc],by simp [okVs,ltS,SV.okN,SC.okN,SC.okL,Tn.enc]⟩
    (by simp +contextual [stP,stO,stC,OwnLe,BlkLeO,BlkLe,atN,look,Fm.get,idσ,toN,nth,SC.renL,SC.ren,SC.okL,SC.okN,ren_ats,ok_ats,bfC,bfO]) (arr_ltA (p:=(· < 11)) (fun i h=>Nat.lt_of_lt_of_le h (show 3≤11 by decide)) (fun i h=>by rcases i with _ | _ | _ | i <;> first | rfl | omega) rfl rfl rfl) (by simp [keysL,stP,stO,toN,nth,look,tuE,killO]) ⟨rfl,by simp [SV.okN,SC.okN]⟩ turn_le (fun E w h=>rturn_own w E L o _ tj 10 hL hwi.wf (by omega) h)) rfl trivial ?_ ?_ ?_
   ·simp [wrOk,killO,tuE,wrFree,wkImp]
   ·intro q hq hlt2
    have hlt2:q<31:=hlt2
    have hq:q=29∨q=30∨q=25∨q=26∨q=27∨q=28∨q=31:=by simpa [keysL,killO,tuE] using hq
    rcases hq with rfl | rfl | rfl | rfl | rfl | rfl | rfl
    all_goals first | rfl | omega
   generalize turnS L o si tj=q at hwq hbf ⊢
   repeat (first | simp (maxSteps:=2000000) only [go_sem,↓condS,↓exitS,↓runOp,↓gateD,↓runD,↓reduceIte,Nat.reduceLT,Nat.reduceLeDiff,Nat.reduceAdd,Nat.reduceEqDiff,killO,tuE,stC] | rw [dr_cons])
   have hwr:=wr_succ (n:=j) (by omega)
   rw [hwr]
   have hTn:T.keys.length=l.length:=by rw [hTk];simp
   have hln:=hw.len
   refine both (fun hd=>?_) (fun hd=>?_)
   ·rw [if_neg (by simp at hd;simp [hd])] at hbf
    exact backI ⟨(j+1,l,T),⟨hw,hT,hTk⟩,hltj,hlt,hbf⟩ (by simp only;omega) (le_ren id rfl rfl (by simp [TmpsLe,look,SV.ren,SC.ren,idσ,SV.okN,SC.okN]) (alS_le (q:=(· < 25)) 20 (fun i h=>h) (fun _ _ _=>rfl) rfl rfl rfl rfl rfl rfl rfl rfl rfl rfl rfl rfl rfl rfl rfl rfl rfl rfl rfl rfl rfl) (arr_ltA (p:=(· < 25)) (fun i h=>Nat.lt_of_lt_of_le h (show 3≤25 by decide)) (fun _ _=>rfl) rfl rfl rfl) rfl)
   have hd:q.2=true:=by simpa using hd
   have hsn:=flat_seen hw hTk hwq
   refine callN 1 (lsT 1 (flatS q.1).length) (lsO 3 1 eI (flatS q.1) 0) (fun E a w' hs=>flat_calls w' _ L o q.1 hL hwq (st_ownG hs 25 31 rfl rfl rfl rfl rfl)) ?_
   simp (maxSteps:=2000000) only [go_sem,↓runOp,↓reduceIte,Nat.reduceLT,Nat.reduceAdd,Nat.reduceEqDiff,lsT,lsO]
   obtain ⟨res,hres⟩:=tsr_some hT (flatS q.1) T.keys.length 0 (by omega) (by omega)
   have hiff:=tsr_iff hT (by omega) (flatS q.1)
   refine call_intro (cr_ownT (vs0:=[.c (.ptr (0,0,0) 0),.c (.sl (5,0,0) 1 0 (flatS q.1).length none)]) (eff':=killO [20,21,22,23,32]++((6,.one (trS 33 (prR T (flatS q.1) res).2.2)) :: trO 33 (prR T (flatS q.1) res).2.2)) (u':=.tup [(false,[.v (.int .i64 (prR T (flatS q.1) res).1)]),(false,[.bo (prR T (flatS q.1) res).2.1])]) [6,20,21,22,23,32] (tr0 T (flatS q.1)) [] rfl rfl (show 6≤33 by decide) (plain_of (by simp [PlainL,tr0,trO,trS,trK,PlainB])) ⟨rfl,by simp [okVs,SV.okN,SC.okN]⟩
    (by simp +contextual [tr0,trO,trS,trC,trK,OwnLe,BlkLeO,BlkLe,atN,look,Fm.get,idσ,toN,nth,SC.renL,SC.ren,SC.okL,SC.okN,ren_ats,ok_ats]) trivial (by simp [keysL,tr0,toN,nth,look,killO,trO]) ⟨rfl,by simp [SV.okN,SC.okN,ok1L,SC.okL]⟩ tree2_le (fun E w h=>put_own w E T _ hT (by omega) (by omega) res hres h)) (fun i hi=>ltAll_mem (l:=[6,20,21,22,23,32]) (n:=33) rfl i hi) ?_
   rcases res with jj | ⟨ra,rb⟩
   ·simp (maxSteps:=2000000) only [go_sem,↓condS,↓exitS,↓runOp,↓imp_tf,↓imp_tt,↓reduceIte,Nat.reduceLT,Nat.reduceAdd,Nat.reduceEqDiff,killO,trO,trS,prR]
    rw [hwr]
    have hmem:q.1∈l.map (·.s):=hsn.1 (hiff.1 ⟨_,hres⟩)
    rw [if_neg (fun h=>h.2 hmem)] at hbf
    exact backI ⟨(j+1,l,T),⟨hw,hT,hTk⟩,hltj,hlt,hbf⟩ (by simp only;omega) (le_ren (fun i=>if 20≤i∧i≤23 then i+13 else i) rfl rfl (by simp [TmpsLe,look,SV.ren,SC.ren,idσ,SV.okN,SC.okN]) (alS_le (q:=(· < 25)) 33 (fun i h=>h) (fun i h1 h2=>by rw [if_neg (by omega)]) rfl rfl rfl rfl rfl rfl rfl rfl rfl rfl rfl rfl rfl rfl rfl rfl rfl rfl rfl rfl rfl) (arr_ltA (p:=(· < 25)) (fun i h=>Nat.lt_of_lt_of_le h (show 3≤25 by decide)) (fun i h=>by rw [if_neg (by omega)]) rfl rfl rfl) rfl)
   ·have hnm:q.1 ∉ l.map (·.s):=fun hmem=>by
     obtain ⟨jj,hj2⟩:=hiff.2 (hsn.2 hmem)
     rw [hj2] at hres
     cases hres
    have hT2:=put_ok hT (by omega) hres
    have hTk2:(trPut T (flatS q.1) ra rb).keys=(l++[(⟨q.1,i,tj⟩:Sp)]).map fun x=>flatS x.s:=by simp [trPut,hTk]
    simp (maxSteps:=2000000) only [go_sem,↓condS,↓runOp,↓imp_ft,↓imp_ff,↓reduceIte,Nat.reduceLT,Nat.reduceLeDiff,Nat.reduceAdd,Nat.reduceMul,Nat.reduceEqDiff,killO,trO,trS,prR]
    refine both (fun hfull=>?_) (fun hfull=>?_)
    ·rw [if_pos ⟨hd,hnm⟩,if_pos (by simp at hfull;omega)] at hbf
     have hbf:bfs L o=none:=hbf.symm
     rw [← hR]
     unfold AllR
     rw [hbf]
     exact retV fun E=>by simp [SV.den,SC.den,den1]
    ·have hlf:l.length≠30000:=by simp at hfull;omega
     rw [if_pos ⟨hd,hnm⟩,if_neg hlf] at hbf
     refine And.intro (by decide) (And.intro ⟨Nat.le_refl _,by omega,by simp only [maxLen];omega⟩ (And.intro (by decide) (And.intro ⟨Nat.le_refl _,by omega,by simp only [maxLen];omega⟩ ?_)))
     refine draw_vc (by kernel_rfl) (mkTab_ok _ _) (of_decide_eq_true rfl) (of_decide_eq_true rfl) ?_
     repeat (first | simp (maxSteps:=2000000) only [go_sem,↓runOp,↓gateD,↓runD,↓reduceIte,Nat.reduceLT,Nat.reduceLeDiff,Nat.reduceAdd,Nat.reduceMul,Nat.reduceEqDiff,Tn.enc,ats] | rw [dr_cons])
     repeat (with_reducible refine And.intro (by first | decide | exact ⟨Nat.le_refl _,by omega,by simp only [maxLen];omega⟩ | exact ⟨by omega,Nat.le_refl _⟩ | exact Or.inl trivial | exact Or.inr trivial | omega) ?_)
     rw [hwr]
     refine backI ⟨(j+1,l++[⟨q.1,i,tj⟩],trPut T (flatS q.1) ra rb),⟨wkOk_push hw hlf hwq,hT2,hTk2⟩,hltj,by simp only [List.length_append];omega,hbf⟩ (by simp only;omega) (le_nm (alσ l.length 38 25 26 27 28 31 fun i=>if i=17 then 40 else if i=18 then 42 else if 20≤i∧i≤23 then i+13 else i) ⟨rfl,rfl,by simp [TmpsLe,look,SV.ren,SC.ren,alσ,SV.okN,SC.okN],?_,al_arrs (fun i hi=>by rw [if_neg (by omega),if_neg (by omega),if_neg (by omega)]) rfl rfl rfl,al_inj (by simp) rfl (Or.inr rfl) rfl ?_ rfl⟩)
     ·show OwnLe (· < 25) _ _ (alS (l++[⟨q.1,i,tj⟩]) (turnsL L o) (trPut T (flatS q.1) ra rb))
      refine ownLe_app (al_push (l:=l) (x:=⟨q.1,i,tj⟩) (fun i h1 h2=>by omega) rfl rfl (fun e he=>by simp [appAt,he]) (by simp [appAt,take',drop']) rfl rfl rfl rfl rfl (fun _=>⟨rfl,rfl,rfl,rfl,rfl⟩)) (ownLe_app (alA_le 38 40 42 (by simp) rfl rfl rfl rfl rfl rfl rfl rfl rfl rfl rfl (by simp [look,fdC]) rfl (by simp) (fun e he=>?_) rfl (by simp) (fun e he=>?_) rfl) (trS_le 33 20 6 6 rfl rfl rfl rfl (fun _=>rfl) (by decide) (by decide) (by decide) (by decide) (by decide) rfl rfl rfl rfl rfl))
      ·refine ats_push (enc:=eI) (n:=l.length) (d:=0) (ys:=(l++[(⟨q.1,i,tj⟩:Sp)]).map (·.frm)) (xs:=l.map (·.frm)) (x:=(i:Int)) (by simp) (by simp) (fun _ _=>rfl) ?_ e (by simpa using he)
       rfl
      ·refine ats_push (enc:=Tn.enc) (n:=l.length) (d:=tn0) (ys:=(l++[(⟨q.1,i,tj⟩:Sp)]).map (·.tn)) (xs:=l.map (·.tn)) (x:=tj) (by simp) (by simp) (fun _ _=>rfl) ?_ e (by simpa using he)
       rw [htj];rfl
     ·simp [keysL,fsh,memB]
  ·rw [decide_eq_false_iff_not] at hge
   have hjn:j=(turnsL L o).length:=by omega
   subst hjn
   rw [List.drop_length] at hbf
   have hln:=hw.len
   rw [wr_succ (by omega)]
   exact backI ⟨(i+1,l,T),⟨hw,hT,hTk⟩,hlt,by rw [show 30001 - (i+1)=30000 - i by omega];exact hbf⟩ (by simp only;omega) (le_ren id rfl rfl (by simp [TmpsLe,look,SV.ren,SC.ren,idσ,SV.okN,SC.okN]) (alS_le (q:=(· < 25)) 20 (fun i h=>h) (fun _ _ _=>rfl) rfl rfl rfl rfl rfl rfl rfl rfl rfl rfl rfl rfl rfl rfl rfl rfl rfl rfl rfl rfl rfl) (arr_ltA (p:=(· < 25)) (fun i h=>Nat.lt_of_lt_of_le h (show 3≤25 by decide)) (fun _ _=>rfl) rfl rfl rfl) rfl)
 ·rw [decide_eq_false_iff_not] at hge
  have hin:i=l.length:=by omega
  subst hin
  have hln:=hw.len
  have hbf:bfs L o=some l:=by
   rw [← hbf,show 30001 - l.length=(30000 - l.length)+1 by omega]
   simp only [bfsO,Nat.lt_irrefl,if_false]
  rw [← hR]
  unfold AllR
  rw [hbf]
  refine retN (fun j=>if j=6 then 17 else if j=7 then 18 else j+11) (fun b=>⟨by simp [fdT,SV.ren,SC.renL,SC.ren,ren1L,ren1,fromσ],by simp [fdT,SV.okN,SC.okL,SC.okN,ok1L,NewIds]⟩) (fun b=>?_) (fun b=>?_)
  ·refine ⟨⟨⟨by omega,by omega⟩,?_⟩,⟨⟨by omega,by omega⟩,fun k hk=>?_⟩,⟨⟨by omega,by omega⟩,fun k hk=>?_⟩,⟨⟨by omega,by omega⟩,fun k hk=>?_⟩,⟨⟨by omega,by omega⟩,fun k hk=>?_⟩,⟨⟨by omega,by omega⟩,fun k e hk he=>?_⟩,⟨⟨by omega,by omega⟩,?_⟩,⟨⟨by omega,by omega⟩,?_⟩,trivial⟩
   ·simp only [fromσ,Nat.sub_self,Nat.zero_add,Nat.reduceEqDiff,atN,look,reduceIte,Fm.get,and_self]
    exact ⟨Nat.le_refl _,rfl,rfl,fun e he=>⟨by simp [alC,SC.renL,SC.ren,fromσ],by simp [alC,SC.okL,SC.okN,NewIds]⟩⟩
   ·simp only [fromσ,Nat.add_sub_cancel_left,Nat.reduceAdd,atN,look,Nat.reduceEqDiff,reduceIte,Fm.get,hk,and_self];exact arLe_same
   ·simp only [fromσ,Nat.add_sub_cancel_left,Nat.reduceAdd,atN,look,Nat.reduceEqDiff,reduceIte,Fm.get,hk,and_self];exact arLe_same
   ·simp only [fromσ,Nat.add_sub_cancel_left,Nat.reduceAdd,atN,look,Nat.reduceEqDiff,reduceIte,Fm.get,hk,and_self];exact arLe_same
   ·simp only [fromσ,Nat.add_sub_cancel_left,Nat.reduceAdd,atN,look,Nat.reduceEqDiff,reduceIte,Fm.get,hk,and_self]
    exact ⟨Nat.le_refl _,rfl,rfl,fun e he=>⟨by simp [SC.renL,SC.ren,fromσ],by simp [SC.okL,SC.okN,NewIds]⟩⟩
   ·simp only [fromσ,Nat.add_sub_cancel_left,Nat.reduceAdd,atN,look,Nat.reduceEqDiff,reduceIte,Fm.get,hk,he,and_self];exact arLe_same
   ·simp only [fromσ,Nat.add_sub_cancel_left,Nat.reduceAdd,atN,look,Nat.reduceEqDiff,reduceIte,Fm.get,and_self];exact arLe_same
   ·simp only [fromσ,Nat.add_sub_cancel_left,Nat.reduceAdd,atN,look,Nat.reduceEqDiff,reduceIte,Fm.get,and_self];exact arLe_same
  ·refine injN_from fun x hx y hy e=>?_
   simp only [fdO,alO,List.cons_append,List.nil_append,keysL,List.mem_cons,List.not_mem_nil,or_false] at hx hy
   have hx1:b≤x∧x≤b+7:=by omega
   have hy1:b≤y∧y≤b+7:=by omega
   clear hx hy
   (repeat' split at e) <;> omega
end Go.Proofs.Ytmcpdafmkkjlcaa.Z
