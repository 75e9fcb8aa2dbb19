/- ModelOwnSaid: what its proof is made of. No condition. -/
import Derived.Test.YtgljbdcamagdbaaPkModelOwnAC
set_option linter.unusedSimpArgs false
set_option linter.unusedVariables false
namespace Go.Proofs.Ytgljbdcamagdbaa
open Go.RowKit
def pos (l:List Int) (k:Int):Nat:=l.countP (· < k)
theorem Pos.eq {l:List Int} {k:Int} {i:Nat} (h:Pos l k i):pos l k=i:=by
 have e:l=l.take i++l.drop i:=(List.take_append_drop _ _).symm
 unfold pos
 rw [e,List.countP_append]
 have h1:(l.take i).countP (· < k)=i:=by
  rw [List.countP_eq_length.2,List.length_take,Nat.min_eq_left h.le]
  intro x hx
  obtain ⟨j,hj,rfl⟩:=List.getElem_of_mem hx
  rw [List.length_take] at hj
  exact decide_eq_true (h.lo j _ (by rw [List.getElem_take];exact List.getElem?_eq_getElem (by omega)) (by omega))
 have h2:(l.drop i).countP (· < k)=0:=by
  rw [List.countP_eq_zero]
  intro x hx
  obtain ⟨j,hj,rfl⟩:=List.getElem_of_mem hx
  rw [List.length_drop] at hj
  have:=h.hi (i+j) _ (List.getElem?_eq_getElem (by omega)) (by omega)
  rw [List.getElem_drop]
  simp only [decide_eq_true_eq]
  omega
 rw [h1,h2,Nat.add_zero]
def doCell (l:List Int) (op arg:Int):List Int×Int×Int:=if op=22 then ([arg],1,0) else match l with | []=>([],3,0) | x :: _=>(l,2,x)
def doStack (l:List Int) (op arg:Int):List Int×Int×Int:=if op=30 then (arg :: l,1,0) else match l with | []=>([],3,0) | x :: r=>(r,2,x)
def doQueue (l:List Int) (op arg:Int):List Int×Int×Int:=if op=40 then (l++[arg],1,0) else match l with | []=>([],3,0) | x :: r=>(r,2,x)
def hasB (l:List Int) (k:Int):Bool:=decide (l[pos l k]? = some k)
def doSet (l:List Int) (op arg:Int):List Int×Int×Int :=
 if op=50 then (if hasB l arg then (l,6,0) else (insAt l (pos l arg) arg,5,0))
 else if op=51 then (if hasB l arg then (delAt l (pos l arg),5,0) else (l,6,0))
 else (if hasB l arg then (l,5,0) else (l,6,0))
def doTable (l:List (Int×Int)) (op arg data:Int):List (Int×Int)×Int×Int :=
 if op=60 then (if hasB (keys l) arg then (l,6,0) else (insAt l (pos (keys l) arg) (arg,data),5,0))
 else match l[pos (keys l) arg]? with
 | some p=>if p.1=arg then (if op=61 then (delAt l (pos (keys l) arg),2,p.2) else (l,2,p.2)) else (l,6,0)
 | none=>(l,6,0)
theorem set2 {w:World} {n:Nat} {t:TypeId} {a0 b0:Value} (h:w.heap[n]? = some (.cells #[a0,b0] t)) (a b:Value):(w.setCell ⟨n,0,none⟩ a).setCell ⟨n,1,none⟩ b=w.setRow n #[a,b]:=by
 rw [setCell_eq_setRow w n 0 _ t (0,0) a h]
 have h1:=setRow_heap w n _ (#[a0,b0].setIfInBounds 0 a) t (0,0) h
 rw [setCell_eq_setRow _ n 1 _ t (0,0) b h1,setRow_setRow]
 rfl
theorem blk2 {w:World} {n:Nat} {t:TypeId} {a b:Value} (h:w.heap[n]? = some (.cells #[a,b] t)) :
  (w.cell? ⟨n,0,none⟩=some a∧w.cell? ⟨n,1,none⟩=some b)∧(w.frozen? ⟨n,0,none⟩=false∧w.frozen? ⟨n,1,none⟩=false):=by
 refine ⟨⟨?_,?_⟩,?_,?_⟩
 ·rw [cell_of_row w n 0 _ t (0,0) h];rfl
 ·rw [cell_of_row w n 1 _ t (0,0) h];rfl
 ·simp [World.frozen?,h]
 ·simp [World.frozen?,h]
theorem own_one {α:Type} {w:World} {B B0:Nat} {e:TypeId} {enc:α→List Value} {s:Nat} (E:EncT enc s) {x:α} (h:w.heap[B]? = some (.cells (enc x).toArray e)) (hB:B0≤B):OwnE w B0 e enc s (.slice (some ⟨B,0,none⟩) 1 1) [x]:=by
 refine Or.inr ⟨flat_len E.len _,Or.inr ⟨B,1,_,rfl,hB,h,Nat.le_refl _,by unfold maxLen;omega,?_,?_⟩⟩
 ·rw [List.size_toArray,E.len,Nat.one_mul]
 ·simp only [List.length_singleton,Nat.one_mul,List.flatMap_cons,List.flatMap_nil,List.append_nil]
  rw [← E.len x,List.take_length]
def RetA (W:World) (k v:Int) (r:Ending) (w' : World):Prop:=r = .returned (.agg #[.int .i64 k,.int .i64 v])∧Below W.heap.size W w'
theorem told_any (k:Int) (w:World):Calls Try.prog 74 #[.int .i64 k] w (RetA w k 0):=by
 go_enter Try.func74,Try.ntmps74
 go_wp2
 refine bodyPost_ret (v:=.agg #[.int .i64 k,.int .i64 0]) ?_ rfl ⟨rfl,below_box _ _⟩
 obtain ⟨⟨z0,z1⟩,_⟩:=blk2 (heap_alloc_new w (.cells #[.int .i64 k,.int .i64 0] 42))
 simp [results,Try.results74,go_sem,z0,z1]
theorem value_any (v:Int) (w:World):Calls Try.prog 75 #[.int .i64 v] w (RetA w 2 v):=by
 go_enter Try.func75,Try.ntmps75
 go_wp2
 refine bodyPost_ret (v:=.agg #[.int .i64 2,.int .i64 v]) ?_ rfl ⟨rfl,below_box _ _⟩
 obtain ⟨⟨z0,z1⟩,_⟩:=blk2 (heap_alloc_new w (.cells #[.int .i64 2,.int .i64 v] 42))
 simp [results,Try.results75,go_sem,z0,z1]
theorem yes_any (b:Bool) (w:World):Calls Try.prog 88 #[.bool b] w (RetA w (if b then 5 else 6) 0):=by
 have C:Hid (∀ k wx,Calls Try.prog 74 #[.int .i64 k] wx (RetA wx k 0)):=told_any
 cases b
 ·go_enter Try.func88,Try.ntmps88
  go_wp2_with fail
  obtain ⟨hW,hS,hA⟩:=one_box w #[.int .i64 0,.int .i64 0] 42
  generalize w.alloc (.cells #[.int .i64 0,.int .i64 0] 42)=W1 at *
  (with_reducible refine (C.out _ _).mono ?_)
  rintro r w2 ⟨rfl,hb⟩
  have hA2:=(hb.block w.heap.size (by omega)).trans hA
  have hbw:Below w.heap.size w w2:=hW.trans (hb.mono (by omega))
  have HA:=Lib.hid hA2
  have HB:=Lib.hid hbw
  clear hA hb hbw hW
  obtain ⟨⟨x0,x1⟩,⟨f0,f1⟩⟩:=blk2 hA2
  clear hA2
  go_wp2
  rw [set2 HA.out]
  clear x0 x1 f0 f1
  obtain ⟨⟨z0,z1⟩,_⟩:=blk2 (setRow_heap w2 w.heap.size _ #[.int .i64 6,.int .i64 0] 42 (0,0) HA.out)
  refine bodyPost_ret (v:=.agg #[.int .i64 6,.int .i64 0]) ?_ rfl ⟨rfl,below_setRow' HB.out (Nat.le_refl _) _⟩
  simp [results,Try.results88,go_sem,z0,z1]
 ·go_enter Try.func88,Try.ntmps88
  go_wp2_with fail
  obtain ⟨hW,hS,hA⟩:=one_box w #[.int .i64 0,.int .i64 0] 42
  generalize w.alloc (.cells #[.int .i64 0,.int .i64 0] 42)=W1 at *
  (with_reducible refine (C.out _ _).mono ?_)
  rintro r w2 ⟨rfl,hb⟩
  have hA2:=(hb.block w.heap.size (by omega)).trans hA
  have hbw:Below w.heap.size w w2:=hW.trans (hb.mono (by omega))
  have HA:=Lib.hid hA2
  have HB:=Lib.hid hbw
  clear hA hb hbw hW
  obtain ⟨⟨x0,x1⟩,⟨f0,f1⟩⟩:=blk2 hA2
  clear hA2
  go_wp2
  rw [set2 HA.out]
  clear x0 x1 f0 f1
  obtain ⟨⟨z0,z1⟩,_⟩:=blk2 (setRow_heap w2 w.heap.size _ #[.int .i64 5,.int .i64 0] 42 (0,0) HA.out)
  refine bodyPost_ret (v:=.agg #[.int .i64 5,.int .i64 0]) ?_ rfl ⟨rfl,below_setRow' HB.out (Nat.le_refl _) _⟩
  simp [results,Try.results88,go_sem,z0,z1]
theorem cell_set2 {w:World} {n b o:Nat} {p q u a0 b0:Value} {t:TypeId} (hr:w.heap[n]? = some (.cells #[a0,b0] t)) (h:w.cell? ⟨b,o,none⟩=some u) (hne:b≠n):((w.setCell ⟨n,0,none⟩ p).setCell ⟨n,1,none⟩ q).cell? ⟨b,o,none⟩=some u:=by
 rw [set2 hr]
 have:=setRow_other w n b #[p,q] hne
 simp only [World.cell?,this] at h ⊢
 exact h
theorem own_lt {α:Type} {w:World} {B:Nat} {e:TypeId} {enc:α→List Value} {s:Nat} {v:Value} {xs:List α} (h:OwnE w B e enc s v xs) (hx:xs≠[]):∀ k,v.ownBlock=some k→k<w.heap.size:=by
 rcases h with ⟨h,_⟩ | h
 ·exact absurd h hx
 ·exact fun k hk=>(h.lt k hk).2
theorem arr_tail {w:World} {b o cap:Nat} {x:Int} {r:List Int} (h:Arr w eI 1 (.slice (some ⟨b,o,none⟩) (r.length+1) cap) (x :: r)) {ad:Addr} (had:cap≠1→ad=⟨b,o+1,none⟩):Arr w eI 1 (.slice (some ad) r.length (cap - 1)) r:=by
 obtain ⟨ba,cap',hv,h1,h2,h3⟩:=h
 simp only [Value.slice.injEq] at hv
 obtain ⟨rfl,-,rfl⟩:=hv
 simp only [List.length_cons] at h1
 refine ⟨_,_,rfl,by omega,by omega,?_⟩
 by_cases hr:r=[]
 ·exact Or.inl hr
 ·have hl:0<r.length:=List.length_pos_iff.2 hr
  rcases h3 with h3 | ⟨b',o',hb,hc⟩
  ·cases h3
  ·simp only [Option.some.injEq,Addr.mk.injEq] at hb
   obtain ⟨rfl,rfl,-⟩:=hb
   rw [had (by omega)]
   refine Or.inr ⟨b,o+1,rfl,fun k y hk j u hu=>?_⟩
   have:=hc (k+1) y (by simpa using hk) j u hu
   rw [show o+1+k * 1+j=o+(k+1) * 1+j by omega]
   exact this
theorem wpList_append_ownE {P:Program} {w:World} {ops:Array Oper} {rest:List Oper} {o:Oper} {a:Act} {Q:Exit→Act→World→Prop} (hgd:o.guard=none) (s x:Operand) {t e:TypeId} {size bytes:Nat}
  (ho:o.op = .call { callee:=.builtin .append,args:=#[s,x],argTypes:=#[t,t] }) (T:ElemT P t e size bytes) (base:Nat)
  {α:Type} {enc:α→List Value} (E:EncT enc size) {v:Value} {ys:List α} (hs:a.eval s=v) (hown:OwnE w base e enc size v ys)
  {v2:Value} {xs:List α} (hx:a.eval x=v2) (hxs:Arr w enc size v2 xs)
  (hbytes:(ys.length+xs.length) * bytes≤140737488355328) (hbase:base≤w.heap.size)
  (h:∀ v' w',OwnE w' base e enc size v' (ys++xs)→Below base w w'→wpList P ops Q rest (a.put o.dst v') w') (h63:ys.length+xs.length≤maxLen):wpList P ops Q (o :: rest) a w:=by
 rcases hown with ⟨rfl,ba,rfl⟩ | hown
 ·exact wpList_append_empty hgd s x ho T E hs hx hxs (Nat.le_trans (by simpa using hbytes) (show 140737488355328≤281474976710656 by decide)) (by simpa using h63) fun v' w' hb h2=>h v' w' (h2.base hbase) (hb.mono hbase)
 ·have hbl:∀ k,v.ownBlock=some k→base≤k:=fun k hk=>(hown.lt k hk).1
  exact wpList_append_arr hgd s x ho T base hs hown E hx hxs hbytes h63 hbase fun v' w' h2 h3 =>
   h v' w' (Or.inr (by simpa [List.flatMap_append] using h2)) (below_grown hbase h3 hbl)
def RetDo {α:Type} (W:World) (B:Nat) (ti e:TypeId) (enc:α→List Value) (s:Nat) (d:List α×Int×Int) (r:Ending) (w' : World):Prop :=
 ∃ v',r = .returned (.tuple #[.iface ti v',.agg #[.int .i64 d.2.1,.int .i64 d.2.2]])∧OwnE w' B e enc s v' d.1∧Below W.heap.size W w'
set_option maxRecDepth 100000 in
set_option maxHeartbeats 1000000 in
theorem do_cell_empty {w:World} {B:Nat} {v:Value} {l:List Int} (op arg data:Int) (_hB:B≤w.heap.size) (hown:OwnE w B 3 eI 1 v l) (hop:¬ op=22) (hl:l=[]) :
  Calls Try.prog 72 #[v,.int .i64 op,.int .i64 arg,.int .i64 data] w (RetDo w B 90 3 eI 1 ([],3,0)):=by
 subst hl
 obtain ⟨ba,cap,rfl⟩:=hown.form
 have HOWN:=Lib.hid hown;clear hown
 have C:Hid (∀ k wx,Calls Try.prog 74 #[.int .i64 k] wx (RetA wx k 0)):=told_any
 go_enter Try.func72,Try.ntmps72
 go_wp2_with fail
 obtain ⟨hW,hS,hA⟩:=one_box w #[.int .i64 0,.int .i64 0] 42
 generalize w.alloc (.cells #[.int .i64 0,.int .i64 0] 42)=W1 at *
 (with_reducible refine (C.out _ _).mono ?_)
 rintro r w2 ⟨rfl,hb⟩
 have hA2:=(hb.block w.heap.size (by omega)).trans hA
 have hbw:Below w.heap.size w w2:=hW.trans (hb.mono (by omega))
 have HB:=Lib.hid hbw
 have OB:Hid (OwnE (w2.setRow w.heap.size #[.int .i64 3,.int .i64 0]) B 3 eI 1 (.slice ba ([]:List Int).length cap) []):=HOWN.out.ext (below_setRow' hbw (Nat.le_refl _) _)
 clear hA hb hbw hW
 have HA:=Lib.hid hA2
 obtain ⟨⟨x0,x1⟩,⟨f0,f1⟩⟩:=blk2 hA2
 clear hA2
 go_wp2
 rw [set2 HA.out]
 clear x0 x1 f0 f1
 obtain ⟨⟨z0,z1⟩,_⟩:=blk2 (setRow_heap w2 w.heap.size _ #[.int .i64 3,.int .i64 0] 42 (0,0) HA.out)
 refine bodyPost_ret (v:=.tuple #[.iface 90 (.slice ba 0 cap),.agg #[.int .i64 3,.int .i64 0]]) ?_ rfl ⟨_,rfl,OB.out,below_setRow' HB.out (Nat.le_refl _) _⟩
 simp [results,Try.results72,go_sem,z0,z1]
set_option maxRecDepth 100000 in
set_option maxHeartbeats 1000000 in
theorem do_stack_empty {w:World} {B:Nat} {v:Value} {l:List Int} (op arg data:Int) (_hB:B≤w.heap.size) (hown:OwnE w B 3 eI 1 v l) (hop:¬ op=30) (hl:l=[]) :
  Calls Try.prog 76 #[v,.int .i64 op,.int .i64 arg,.int .i64 data] w (RetDo w B 91 3 eI 1 ([],3,0)):=by
 subst hl
 obtain ⟨ba,cap,rfl⟩:=hown.form
 have HOWN:=Lib.hid hown;clear hown
 have C:Hid (∀ k wx,Calls Try.prog 74 #[.int .i64 k] wx (RetA wx k 0)):=told_any
 go_enter Try.func76,Try.ntmps76
 go_wp2_with fail
 obtain ⟨hW,hS,hA⟩:=one_box w #[.int .i64 0,.int .i64 0] 42
 generalize w.alloc (.cells #[.int .i64 0,.int .i64 0] 42)=W1 at *
 (with_reducible refine (C.out _ _).mono ?_)
 rintro r w2 ⟨rfl,hb⟩
 have hA2:=(hb.block w.heap.size (by omega)).trans hA
 have hbw:Below w.heap.size w w2:=hW.trans (hb.mono (by omega))
 have HB:=Lib.hid hbw
 have OB:Hid (OwnE (w2.setRow w.heap.size #[.int .i64 3,.int .i64 0]) B 3 eI 1 (.slice ba ([]:List Int).length cap) []):=HOWN.out.ext (below_setRow' hbw (Nat.le_refl _) _)
 clear hA hb hbw hW
 have HA:=Lib.hid hA2
 obtain ⟨⟨x0,x1⟩,⟨f0,f1⟩⟩:=blk2 hA2
 clear hA2
 go_wp2
 rw [set2 HA.out]
 clear x0 x1 f0 f1
 obtain ⟨⟨z0,z1⟩,_⟩:=blk2 (setRow_heap w2 w.heap.size _ #[.int .i64 3,.int .i64 0] 42 (0,0) HA.out)
 refine bodyPost_ret (v:=.tuple #[.iface 91 (.slice ba 0 cap),.agg #[.int .i64 3,.int .i64 0]]) ?_ rfl ⟨_,rfl,OB.out,below_setRow' HB.out (Nat.le_refl _) _⟩
 simp [results,Try.results76,go_sem,z0,z1]
set_option maxRecDepth 100000 in
set_option maxHeartbeats 1000000 in
theorem do_queue_empty {w:World} {B:Nat} {v:Value} {l:List Int} (op arg data:Int) (_hB:B≤w.heap.size) (hown:OwnE w B 3 eI 1 v l) (hop:¬ op=40) (hl:l=[]) :
  Calls Try.prog 79 #[v,.int .i64 op,.int .i64 arg,.int .i64 data] w (RetDo w B 92 3 eI 1 ([],3,0)):=by
 subst hl
 obtain ⟨ba,cap,rfl⟩:=hown.form
 have HOWN:=Lib.hid hown;clear hown
 have C:Hid (∀ k wx,Calls Try.prog 74 #[.int .i64 k] wx (RetA wx k 0)):=told_any
 go_enter Try.func79,Try.ntmps79
 go_wp2_with fail
 obtain ⟨hW,hS,hA⟩:=one_box w #[.int .i64 0,.int .i64 0] 42
 generalize w.alloc (.cells #[.int .i64 0,.int .i64 0] 42)=W1 at *
 (with_reducible refine (C.out _ _).mono ?_)
 rintro r w2 ⟨rfl,hb⟩
 have hA2:=(hb.block w.heap.size (by omega)).trans hA
 have hbw:Below w.heap.size w w2:=hW.trans (hb.mono (by omega))
 have HB:=Lib.hid hbw
 have OB:Hid (OwnE (w2.setRow w.heap.size #[.int .i64 3,.int .i64 0]) B 3 eI 1 (.slice ba ([]:List Int).length cap) []):=HOWN.out.ext (below_setRow' hbw (Nat.le_refl _) _)
 clear hA hb hbw hW
 have HA:=Lib.hid hA2
 obtain ⟨⟨x0,x1⟩,⟨f0,f1⟩⟩:=blk2 hA2
 clear hA2
 go_wp2
 rw [set2 HA.out]
 clear x0 x1 f0 f1
 obtain ⟨⟨z0,z1⟩,_⟩:=blk2 (setRow_heap w2 w.heap.size _ #[.int .i64 3,.int .i64 0] 42 (0,0) HA.out)
 refine bodyPost_ret (v:=.tuple #[.iface 92 (.slice ba 0 cap),.agg #[.int .i64 3,.int .i64 0]]) ?_ rfl ⟨_,rfl,OB.out,below_setRow' HB.out (Nat.le_refl _) _⟩
 simp [results,Try.results79,go_sem,z0,z1]
set_option maxRecDepth 100000 in
set_option maxHeartbeats 1000000 in
theorem do_cell_value {w:World} {B:Nat} {v:Value} {l:List Int} (op arg data:Int) (_hB:B≤w.heap.size) (hown:OwnE w B 3 eI 1 v l) (x:Int) (r:List Int) (hop:¬ op=22) (hl:l=x :: r) :
  Calls Try.prog 72 #[v,.int .i64 op,.int .i64 arg,.int .i64 data] w (RetDo w B 90 3 eI 1 (x :: r,2,x)):=by
 subst hl
 obtain ⟨ba,cap,rfl,hlc,hcm,g⟩:=(hown.arr eI_ok).at1
 obtain ⟨b,o,rfl,hb1,c1⟩:=g 0 x rfl
 have HOWN:=Lib.hid hown;clear hown
 rw [Nat.add_zero] at c1
 have hpos:¬ ((r.length:Int)+1=0):=by omega
 have c2:=keeps_below (below_box w (.cells #[.int .i64 0,.int .i64 0] 42)) _ _ c1
 clear g
 have C:Hid (∀ k wx,Calls Try.prog 75 #[.int .i64 k] wx (RetA wx 2 k)):=value_any
 go_enter Try.func72,Try.ntmps72
 go_wp2_with fail
 obtain ⟨hW,hS,hA⟩:=one_box w #[.int .i64 0,.int .i64 0] 42
 generalize w.alloc (.cells #[.int .i64 0,.int .i64 0] 42)=W1 at *
 (with_reducible refine (C.out _ _).mono ?_)
 rintro r w2 ⟨rfl,hb⟩
 have hA2:=(hb.block w.heap.size (by omega)).trans hA
 have hbw:Below w.heap.size w w2:=hW.trans (hb.mono (by omega))
 have HB:=Lib.hid hbw
 have OB:Hid (OwnE (w2.setRow w.heap.size #[.int .i64 2,.int .i64 x]) B 3 eI 1 (.slice (some ⟨b,o,none⟩) (x :: r).length cap) (x :: r)):=HOWN.out.ext (below_setRow' hbw (Nat.le_refl _) _)
 clear hA hb hbw hW
 have HA:=Lib.hid hA2
 obtain ⟨⟨x0,x1⟩,⟨f0,f1⟩⟩:=blk2 hA2
 clear hA2
 go_wp2
 rw [set2 HA.out]
 clear x0 x1 f0 f1
 obtain ⟨⟨z0,z1⟩,_⟩:=blk2 (setRow_heap w2 w.heap.size _ #[.int .i64 2,.int .i64 x] 42 (0,0) HA.out)
 refine bodyPost_ret (v:=.tuple #[.iface 90 (.slice (some ⟨b,o,none⟩) (r.length+1) cap),.agg #[.int .i64 2,.int .i64 x]]) ?_ rfl ⟨_,rfl,OB.out,below_setRow' HB.out (Nat.le_refl _) _⟩
 simp [results,Try.results72,go_sem,z0,z1]
set_option maxRecDepth 100000 in
set_option maxHeartbeats 1000000 in
theorem do_cell_post {w:World} {B:Nat} {v:Value} {l:List Int} (op arg data:Int) (_hB:B≤w.heap.size) (hown:OwnE w B 3 eI 1 v l) (hop:op=22) :
  Calls Try.prog 72 #[v,.int .i64 op,.int .i64 arg,.int .i64 data] w (RetDo w B 90 3 eI 1 ([arg],1,0)):=by
 subst hop
 obtain ⟨ba,cap,rfl⟩:=hown.form
 clear hown
 have C:Hid (∀ k wx,Calls Try.prog 74 #[.int .i64 k] wx (RetA wx k 0)):=told_any
 go_enter Try.func72,Try.ntmps72
 go_wp2_with fail
 obtain ⟨hW,hS,hA,hL⟩:=two_boxes w #[.int .i64 0,.int .i64 0] #[.int .i64 arg] 42 3
 generalize (w.alloc (.cells #[.int .i64 0,.int .i64 0] 42)).alloc (.cells #[.int .i64 arg] 3)=W1 at *
 (with_reducible refine (C.out _ _).mono ?_)
 rintro r w2 ⟨rfl,hb⟩
 have hA2:=(hb.block w.heap.size (by omega)).trans hA
 have hbw:Below w.heap.size w w2:=hW.trans (hb.mono (by omega))
 have HB:=Lib.hid hbw
 have hL2:=(hb.block (w.heap.size+1) (by omega)).trans hL
 have OB:Hid (OwnE (w2.setRow w.heap.size #[.int .i64 1,.int .i64 0]) B 3 eI 1 (.slice (some ⟨w.heap.size+1,0,none⟩) 1 1) [arg]):=own_one eI_ok ((setRow_other _ _ _ _ (by omega)).trans hL2) (by omega)
 clear hA hb hbw hW hL hL2
 have HA:=Lib.hid hA2
 obtain ⟨⟨x0,x1⟩,⟨f0,f1⟩⟩:=blk2 hA2
 clear hA2
 go_wp2
 rw [set2 HA.out]
 clear x0 x1 f0 f1
 obtain ⟨⟨z0,z1⟩,_⟩:=blk2 (setRow_heap w2 w.heap.size _ #[.int .i64 1,.int .i64 0] 42 (0,0) HA.out)
 refine bodyPost_ret (v:=.tuple #[.iface 90 (.slice (some ⟨w.heap.size+1,0,none⟩) 1 1),.agg #[.int .i64 1,.int .i64 0]]) ?_ rfl ⟨_,rfl,OB.out,below_setRow' HB.out (Nat.le_refl _) _⟩
 simp [results,Try.results72,go_sem,z0,z1]
set_option maxRecDepth 100000 in
set_option maxHeartbeats 1000000 in
theorem do_stack_push {w:World} {B:Nat} {v:Value} {l:List Int} (op arg data:Int) (_hB:B≤w.heap.size) (hown:OwnE w B 3 eI 1 v l) (hop:op=30) (hbig:(l.length+1) * 8≤281474976710648) :
  Calls Try.prog 76 #[v,.int .i64 op,.int .i64 arg,.int .i64 data] w (RetDo w B 91 3 eI 1 (arg :: l,1,0)):=by
 subst hop
 have hA0:=hown.arr eI_ok
 obtain ⟨ba,cap,rfl⟩:=hown.form
 clear hown
 have C:Hid (∀ k wx,Calls Try.prog 74 #[.int .i64 k] wx (RetA wx k 0)):=told_any
 obtain ⟨hW,hS,hA,hL⟩:=two_boxes w #[.int .i64 0,.int .i64 0] #[.int .i64 arg] 42 3
 have HA0:=Lib.hid (hA0.below hW)
 have HL:Hid (OwnE ((w.alloc (.cells #[.int .i64 0,.int .i64 0] 42)).alloc (.cells #[.int .i64 arg] 3)) (w.heap.size+1) 3 eI 1 (.slice (some ⟨w.heap.size+1,0,none⟩) 1 1) [arg]):=own_one eI_ok hL (Nat.le_refl _)
 have HBG:Hid ((2+l.length) * 8≤281474976710656):=by show _≤_;omega
 have H63:Hid (1+l.length≤maxLen):=by show _≤_;unfold maxLen;omega
 have HS1:Hid (w.heap.size+1≤((w.alloc (.cells #[.int .i64 0,.int .i64 0] 42)).alloc (.cells #[.int .i64 arg] 3)).heap.size):=by show _≤_;omega
 clear hA0 hbig hL
 go_enter Try.func76,Try.ntmps76
 go_wp2_with (at_builtin;refine wpList_append_one rfl (.tmp 13) (.tmp 14) rfl tE_stack (w.heap.size+1) eI_ok rfl HL.out rfl HA0.out HBG.out HS1.out ?_ H63.out;intro v' W1 ho hb;have HO:=Lib.hid ho;clear ho;have HBB:=Lib.hid hb;clear hb)
 have hW1:Below w.heap.size w W1:=hW.trans (HBB.out.mono (by omega))
 have hA1:=(HBB.out.block w.heap.size (by omega)).trans hA
 have hS1:w.heap.size<W1.heap.size:=by have:=HBB.out.size;omega
 clear hW hS hA HL HA0
 have hW:=hW1
 have hA:=hA1
 clear hW1 hA1
 (with_reducible refine (C.out _ _).mono ?_)
 rintro r w2 ⟨rfl,hb⟩
 have hA2:=(hb.block w.heap.size (by omega)).trans hA
 have hbw:Below w.heap.size w w2:=hW.trans (hb.mono (by omega))
 have HB:=Lib.hid hbw
 have OB:Hid (OwnE (w2.setRow w.heap.size #[.int .i64 1,.int .i64 0]) B 3 eI 1 v' (arg :: l)):=((HO.out.ext hb).keep (grownBy_setRow _ _ _) (by omega)).base (by omega)
 clear hA hb hbw hW
 have HA:=Lib.hid hA2
 obtain ⟨⟨x0,x1⟩,⟨f0,f1⟩⟩:=blk2 hA2
 clear hA2
 go_wp2
 rw [set2 HA.out]
 clear x0 x1 f0 f1
 obtain ⟨⟨z0,z1⟩,_⟩:=blk2 (setRow_heap w2 w.heap.size _ #[.int .i64 1,.int .i64 0] 42 (0,0) HA.out)
 refine bodyPost_ret (v:=.tuple #[.iface 91 (v'),.agg #[.int .i64 1,.int .i64 0]]) ?_ rfl ⟨_,rfl,OB.out,below_setRow' HB.out (Nat.le_refl _) _⟩
 simp [results,Try.results76,go_sem,z0,z1]
set_option maxRecDepth 100000 in
set_option maxHeartbeats 1000000 in
theorem do_queue_put {w:World} {B:Nat} {v:Value} {l:List Int} (op arg data:Int) (_hB:B≤w.heap.size) (hown:OwnE w B 3 eI 1 v l) (hop:op=40) (hbig:(l.length+1) * 8≤140737488355328) :
  Calls Try.prog 79 #[v,.int .i64 op,.int .i64 arg,.int .i64 data] w (RetDo w B 92 3 eI 1 (l++[arg],1,0)):=by
 subst hop
 have hA0:=hown.arr eI_ok
 obtain ⟨ba,cap,rfl⟩:=hown.form
 clear hown
 have K:Hid (∀ wx,Below w.heap.size w wx→Calls Try.prog 81 #[.slice ba l.length cap] wx (RetE wx 3 eI 1 l)):=fun wx hb=>clone_queue (hA0.below hb) (by omega)
 have HBG:Hid ((l.length+[arg].length) * 8≤140737488355328):=by show _≤_;simp only [List.length_singleton];omega
 have H63:Hid (l.length+[arg].length≤maxLen):=by show _≤_;simp only [List.length_singleton];unfold maxLen;omega
 clear hA0 hbig
 have C:Hid (∀ k wx,Calls Try.prog 74 #[.int .i64 k] wx (RetA wx k 0)):=told_any
 go_enter Try.func79,Try.ntmps79
 go_wp2_with fail
 obtain ⟨hW,hS,hA⟩:=one_box w #[.int .i64 0,.int .i64 0] 42
 generalize w.alloc (.cells #[.int .i64 0,.int .i64 0] 42)=W1 at *
 (with_reducible refine (K.out _ hW).mono ?_)
 rintro r w1 ⟨v1,rfl,ho1,hb1⟩
 have hW1:=hW.trans (hb1.mono (by omega))
 have hA1:=(hb1.block w.heap.size (by omega)).trans hA
 have hs1:=hb1.size
 have HO1:Hid (OwnE (w1.alloc (.cells #[.int .i64 arg] 3)) (w.heap.size+1) 3 eI 1 v1 l):=(ho1.ext (below_box _ _)).base (by omega)
 have HX1:Hid (Arr (w1.alloc (.cells #[.int .i64 arg] 3)) eI 1 (.slice (some ⟨w1.heap.size,0,none⟩) 1 1) [arg]):=(own_one (B0:=0) eI_ok (heap_alloc_new w1 _) (Nat.zero_le _)).arr eI_ok
 have HS1:Hid (w.heap.size+1≤(w1.alloc (.cells #[.int .i64 arg] 3)).heap.size):=by show _≤_;simp;omega
 have HW1:Hid (Below w.heap.size w (w1.alloc (.cells #[.int .i64 arg] 3))):=hW1.trans ((below_box _ _).mono (by omega))
 have HA1:Hid ((w1.alloc (.cells #[.int .i64 arg] 3)).heap[w.heap.size]? = _):=((below_box w1 (.cells #[.int .i64 arg] 3)).block w.heap.size (by omega)).trans hA1
 clear hW hA hW1 hA1 ho1 hb1
 go_wp2_with (at_builtin;refine wpList_append_ownE rfl (.tmp 13) (.tmp 15) rfl tE_queue (w.heap.size+1) eI_ok rfl HO1.out rfl HX1.out HBG.out HS1.out ?_ H63.out;intro v' W2 ho hb;have HO:=Lib.hid ho;clear ho;have HBB:=Lib.hid hb;clear hb)
 have hW:Below w.heap.size w W2:=HW1.out.trans (HBB.out.mono (by omega))
 have hA:=(HBB.out.block w.heap.size (by omega)).trans HA1.out
 have hS1:w.heap.size<W2.heap.size:=by have:=HBB.out.size;have:=HS1.out;omega
 clear HO1 HX1 HS1 HW1 HA1
 (with_reducible refine (C.out _ _).mono ?_)
 rintro r w2 ⟨rfl,hb⟩
 have hA2:=(hb.block w.heap.size (by omega)).trans hA
 have hbw:Below w.heap.size w w2:=hW.trans (hb.mono (by omega))
 have HB:=Lib.hid hbw
 have OB:Hid (OwnE (w2.setRow w.heap.size #[.int .i64 1,.int .i64 0]) B 3 eI 1 v' (l++[arg])):=((HO.out.ext hb).keep (grownBy_setRow _ _ _) (by omega)).base (by omega)
 clear hA hb hbw hW
 have HA:=Lib.hid hA2
 obtain ⟨⟨x0,x1⟩,⟨f0,f1⟩⟩:=blk2 hA2
 clear hA2
 go_wp2
 rw [set2 HA.out]
 clear x0 x1 f0 f1
 obtain ⟨⟨z0,z1⟩,_⟩:=blk2 (setRow_heap w2 w.heap.size _ #[.int .i64 1,.int .i64 0] 42 (0,0) HA.out)
 refine bodyPost_ret (v:=.tuple #[.iface 92 (v'),.agg #[.int .i64 1,.int .i64 0]]) ?_ rfl ⟨_,rfl,OB.out,below_setRow' HB.out (Nat.le_refl _) _⟩
 simp [results,Try.results79,go_sem,z0,z1]
set_option maxRecDepth 100000 in
set_option maxHeartbeats 1000000 in
theorem do_stack_take_1 {w:World} {B:Nat} {v:Value} {l:List Int} (op arg data:Int) (_hB:B≤w.heap.size) (hown:OwnE w B 3 eI 1 v l) (x:Int) (r:List Int) (hop:¬ op=30) (hl:l=x :: r) (hbig:l.length * 8≤281474976710656) (hcap:∀ ba n cap,v = .slice ba n cap→cap=1) :
  Calls Try.prog 76 #[v,.int .i64 op,.int .i64 arg,.int .i64 data] w (RetDo w B 91 3 eI 1 (r,2,x)):=by
 subst hl
 have hA0:=hown.arr eI_ok
 obtain ⟨ba,cap,rfl,hlc,hcm,g⟩:=(hown.arr eI_ok).at1
 obtain ⟨b,o,rfl,hb1,c1⟩:=g 0 x rfl
 rw [Nat.add_zero] at c1
 have hcp:=hcap _ _ _ rfl
 clear g hcap hown
 subst hcp
 obtain rfl:r=[]:=List.eq_nil_of_length_eq_zero (by simp only [List.length_cons] at hlc;omega)
 clear hA0 hbig hlc hcm
 have K:Hid (∀ wx,Below w.heap.size w wx→Calls Try.prog 78 #[.slice (some ⟨b,o,none⟩) 0 0] wx (RetE wx 3 eI 1 [])):=fun wx hb=>clone_stack (l:=[]) (arr_empty _ _ _ _) (by simp)
 have HX:=Lib.hid c1;clear c1
 have C:Hid (∀ k wx,Calls Try.prog 75 #[.int .i64 k] wx (RetA wx 2 k)):=value_any
 go_enter Try.func76,Try.ntmps76
 go_wp2_with fail
 obtain ⟨hW,hS,hA⟩:=one_box w #[.int .i64 0,.int .i64 0] 42
 generalize w.alloc (.cells #[.int .i64 0,.int .i64 0] 42)=W1 at *
 have HAX:=Lib.hid hA;clear hA
 have hbn:b≠w.heap.size:=by omega
 have hbd:Below W1.heap.size W1 W1.drew:=(Below.refl _ _).drew
 have hbw:Below w.heap.size w W1.drew:=hW.trans (hbd.mono (by omega))
 go_region_held3 (fun w'=>w'.cell? ⟨b,o,none⟩=some (.int .i64 x)) (first | (go_keep;done) | (with_reducible exact (hbw.cell hb1).trans HX.out) | (with_reducible exact cell_set2 HA2.out ((hbw.cell hb1).trans HX.out) hbn))
  (first
   | (go_at_call 78;(with_reducible refine (K.out _ hbw).mono ?_);rintro r w2 ⟨v6,rfl,ho,hb⟩;have HO:=Lib.hid (ho.base (show w.heap.size+1≤_ by have:=hbw.size;have:=hbd.size;omega));have hbd:=below_call hbd (Nat.le_refl _) hb;have hbw:=hW.trans (hbd.mono (by omega));have hA2:=(hbd.block w.heap.size (by omega)).trans HAX.out;obtain ⟨⟨x0,x1⟩,⟨f0,f1⟩⟩:=blk2 hA2;have HA2:=Lib.hid hA2;clear hA2 ho hb)
   | (go_at_call 75;(with_reducible refine (C.out _ _).mono ?_);rintro r w2 ⟨rfl,hb⟩;have hbd:=below_call hbd (Nat.le_refl _) hb;have hbw:=hW.trans (hbd.mono (by omega));(try have HO:=Lib.hid (HO.out.ext hb));have hA2:=(hbd.block w.heap.size (by omega)).trans HAX.out;obtain ⟨⟨x0,x1⟩,⟨f0,f1⟩⟩:=blk2 hA2;have HA2:=Lib.hid hA2;clear hA2 hb))
 have HA:=HA2
 have HB:=Lib.hid hbw
 have OB:Hid (OwnE (w2.setRow w.heap.size #[.int .i64 2,.int .i64 x]) B 3 eI 1 v6 []):=(HO.out.keep (grownBy_setRow _ _ _) (by omega)).base (by omega)
 clear HO HX HAX hW hbd hbw hbn x0 x1 f0 f1 C K
 rw [set2 HA.out]
 go_wp2
 obtain ⟨⟨z0,z1⟩,_⟩:=blk2 (setRow_heap w2 w.heap.size _ #[.int .i64 2,.int .i64 x] 42 (0,0) HA.out)
 refine bodyPost_ret (v:=.tuple #[.iface 91 v6,.agg #[.int .i64 2,.int .i64 x]]) ?_ rfl ⟨_,rfl,OB.out,below_setRow' HB.out (Nat.le_refl _) _⟩
 simp [results,Try.results76,go_sem,z0,z1]
set_option maxRecDepth 100000 in
set_option maxHeartbeats 1000000 in
theorem do_stack_take_2 {w:World} {B:Nat} {v:Value} {l:List Int} (op arg data:Int) (_hB:B≤w.heap.size) (hown:OwnE w B 3 eI 1 v l) (x:Int) (r:List Int) (hop:¬ op=30) (hl:l=x :: r) (hbig:l.length * 8≤281474976710656) (hcap:∀ ba n cap,v = .slice ba n cap→cap≠1) :
  Calls Try.prog 76 #[v,.int .i64 op,.int .i64 arg,.int .i64 data] w (RetDo w B 91 3 eI 1 (r,2,x)):=by
 subst hl
 have hA0:=hown.arr eI_ok
 obtain ⟨ba,cap,rfl,hlc,hcm,g⟩:=(hown.arr eI_ok).at1
 obtain ⟨b,o,rfl,hb1,c1⟩:=g 0 x rfl
 rw [Nat.add_zero] at c1
 have hcp:=hcap _ _ _ rfl
 clear g hcap hown
 have hbg:r.length * 8≤281474976710656:=by simp only [List.length_cons] at hbig;omega
 simp only [List.length_cons] at hlc hbig
 have K:Hid (∀ wx,Below w.heap.size w wx→Calls Try.prog 78 #[.slice (some ⟨b,o+1,none⟩) r.length (cap - 1)] wx (RetE wx 3 eI 1 r)):=fun wx hb=>clone_stack ((arr_tail hA0 (fun _=>rfl)).below hb) hbg
 have hpos:¬ ((r.length:Int)+1=0):=by omega
 have hp1:(1:Int)≤(r.length:Int)+1:=by omega
 have hp2:0<r.length+1:=by omega
 clear hA0
 have HX:=Lib.hid c1;clear c1
 have C:Hid (∀ k wx,Calls Try.prog 75 #[.int .i64 k] wx (RetA wx 2 k)):=value_any
 go_enter Try.func76,Try.ntmps76
 go_wp2_with fail
 obtain ⟨hW,hS,hA⟩:=one_box w #[.int .i64 0,.int .i64 0] 42
 generalize w.alloc (.cells #[.int .i64 0,.int .i64 0] 42)=W1 at *
 have HAX:=Lib.hid hA;clear hA
 have hbn:b≠w.heap.size:=by omega
 have hbd:Below W1.heap.size W1 W1.drew:=(Below.refl _ _).drew
 have hbw:Below w.heap.size w W1.drew:=hW.trans (hbd.mono (by omega))
 go_region_held3 (fun w'=>w'.cell? ⟨b,o,none⟩=some (.int .i64 x)) (first | (go_keep;done) | (with_reducible exact (hbw.cell hb1).trans HX.out) | (with_reducible exact cell_set2 HA2.out ((hbw.cell hb1).trans HX.out) hbn))
  (first
   | (go_at_call 78;(with_reducible refine (K.out _ hbw).mono ?_);rintro r w2 ⟨v6,rfl,ho,hb⟩;have HO:=Lib.hid (ho.base (show w.heap.size+1≤_ by have:=hbw.size;have:=hbd.size;omega));have hbd:=below_call hbd (Nat.le_refl _) hb;have hbw:=hW.trans (hbd.mono (by omega));have hA2:=(hbd.block w.heap.size (by omega)).trans HAX.out;obtain ⟨⟨x0,x1⟩,⟨f0,f1⟩⟩:=blk2 hA2;have HA2:=Lib.hid hA2;clear hA2 ho hb)
   | (go_at_call 75;(with_reducible refine (C.out _ _).mono ?_);rintro r w2 ⟨rfl,hb⟩;have hbd:=below_call hbd (Nat.le_refl _) hb;have hbw:=hW.trans (hbd.mono (by omega));(try have HO:=Lib.hid (HO.out.ext hb));have hA2:=(hbd.block w.heap.size (by omega)).trans HAX.out;obtain ⟨⟨x0,x1⟩,⟨f0,f1⟩⟩:=blk2 hA2;have HA2:=Lib.hid hA2;clear hA2 hb))
 have HA:=HA2
 have HB:=Lib.hid hbw
 have OB:Hid (OwnE (w2.setRow w.heap.size #[.int .i64 2,.int .i64 x]) B 3 eI 1 v6 r):=(HO.out.keep (grownBy_setRow _ _ _) (by omega)).base (by omega)
 clear HO HX HAX hW hbd hbw hbn x0 x1 f0 f1 C K
 rw [set2 HA.out]
 go_wp2
 obtain ⟨⟨z0,z1⟩,_⟩:=blk2 (setRow_heap w2 w.heap.size _ #[.int .i64 2,.int .i64 x] 42 (0,0) HA.out)
 refine bodyPost_ret (v:=.tuple #[.iface 91 v6,.agg #[.int .i64 2,.int .i64 x]]) ?_ rfl ⟨_,rfl,OB.out,below_setRow' HB.out (Nat.le_refl _) _⟩
 simp [results,Try.results76,go_sem,z0,z1]
set_option maxRecDepth 100000 in
set_option maxHeartbeats 1000000 in
theorem do_queue_take_1 {w:World} {B:Nat} {v:Value} {l:List Int} (op arg data:Int) (_hB:B≤w.heap.size) (hown:OwnE w B 3 eI 1 v l) (x:Int) (r:List Int) (hop:¬ op=40) (hl:l=x :: r) (hbig:l.length * 8≤140737488355328) (hcap:∀ ba n cap,v = .slice ba n cap→cap=1) :
  Calls Try.prog 79 #[v,.int .i64 op,.int .i64 arg,.int .i64 data] w (RetDo w B 92 3 eI 1 (r,2,x)):=by
 subst hl
 have hA0:=hown.arr eI_ok
 obtain ⟨ba,cap,rfl,hlc,hcm,g⟩:=(hown.arr eI_ok).at1
 obtain ⟨b,o,rfl,hb1,c1⟩:=g 0 x rfl
 rw [Nat.add_zero] at c1
 have hcp:=hcap _ _ _ rfl
 clear g hcap hown
 subst hcp
 obtain rfl:r=[]:=List.eq_nil_of_length_eq_zero (by simp only [List.length_cons] at hlc;omega)
 clear hA0 hbig hlc hcm
 have K:Hid (∀ wx,Below w.heap.size w wx→Calls Try.prog 81 #[.slice (some ⟨b,o,none⟩) 0 0] wx (RetE wx 3 eI 1 [])):=fun wx hb=>clone_queue (l:=[]) (arr_empty _ _ _ _) (by simp)
 have HX:=Lib.hid c1;clear c1
 have C:Hid (∀ k wx,Calls Try.prog 75 #[.int .i64 k] wx (RetA wx 2 k)):=value_any
 go_enter Try.func79,Try.ntmps79
 go_wp2_with fail
 obtain ⟨hW,hS,hA⟩:=one_box w #[.int .i64 0,.int .i64 0] 42
 generalize w.alloc (.cells #[.int .i64 0,.int .i64 0] 42)=W1 at *
 have HAX:=Lib.hid hA;clear hA
 have hbn:b≠w.heap.size:=by omega
 have hbd:Below W1.heap.size W1 W1.drew:=(Below.refl _ _).drew
 have hbw:Below w.heap.size w W1.drew:=hW.trans (hbd.mono (by omega))
 go_region_held3 (fun w'=>w'.cell? ⟨b,o,none⟩=some (.int .i64 x)) (first | (go_keep;done) | (with_reducible exact (hbw.cell hb1).trans HX.out) | (with_reducible exact cell_set2 HA2.out ((hbw.cell hb1).trans HX.out) hbn))
  (first
   | (go_at_call 81;(with_reducible refine (K.out _ hbw).mono ?_);rintro r w2 ⟨v6,rfl,ho,hb⟩;have HO:=Lib.hid (ho.base (show w.heap.size+1≤_ by have:=hbw.size;have:=hbd.size;omega));have hbd:=below_call hbd (Nat.le_refl _) hb;have hbw:=hW.trans (hbd.mono (by omega));have hA2:=(hbd.block w.heap.size (by omega)).trans HAX.out;obtain ⟨⟨x0,x1⟩,⟨f0,f1⟩⟩:=blk2 hA2;have HA2:=Lib.hid hA2;clear hA2 ho hb)
   | (go_at_call 75;(with_reducible refine (C.out _ _).mono ?_);rintro r w2 ⟨rfl,hb⟩;have hbd:=below_call hbd (Nat.le_refl _) hb;have hbw:=hW.trans (hbd.mono (by omega));(try have HO:=Lib.hid (HO.out.ext hb));have hA2:=(hbd.block w.heap.size (by omega)).trans HAX.out;obtain ⟨⟨x0,x1⟩,⟨f0,f1⟩⟩:=blk2 hA2;have HA2:=Lib.hid hA2;clear hA2 hb))
 have HA:=HA2
 have HB:=Lib.hid hbw
 have OB:Hid (OwnE (w2.setRow w.heap.size #[.int .i64 2,.int .i64 x]) B 3 eI 1 v6 []):=(HO.out.keep (grownBy_setRow _ _ _) (by omega)).base (by omega)
 clear HO HX HAX hW hbd hbw hbn x0 x1 f0 f1 C K
 rw [set2 HA.out]
 go_wp2
 obtain ⟨⟨z0,z1⟩,_⟩:=blk2 (setRow_heap w2 w.heap.size _ #[.int .i64 2,.int .i64 x] 42 (0,0) HA.out)
 refine bodyPost_ret (v:=.tuple #[.iface 92 v6,.agg #[.int .i64 2,.int .i64 x]]) ?_ rfl ⟨_,rfl,OB.out,below_setRow' HB.out (Nat.le_refl _) _⟩
 simp [results,Try.results79,go_sem,z0,z1]
set_option maxRecDepth 100000 in
set_option maxHeartbeats 1000000 in
theorem do_queue_take_2 {w:World} {B:Nat} {v:Value} {l:List Int} (op arg data:Int) (_hB:B≤w.heap.size) (hown:OwnE w B 3 eI 1 v l) (x:Int) (r:List Int) (hop:¬ op=40) (hl:l=x :: r) (hbig:l.length * 8≤140737488355328) (hcap:∀ ba n cap,v = .slice ba n cap→cap≠1) :
  Calls Try.prog 79 #[v,.int .i64 op,.int .i64 arg,.int .i64 data] w (RetDo w B 92 3 eI 1 (r,2,x)):=by
 subst hl
 have hA0:=hown.arr eI_ok
 obtain ⟨ba,cap,rfl,hlc,hcm,g⟩:=(hown.arr eI_ok).at1
 obtain ⟨b,o,rfl,hb1,c1⟩:=g 0 x rfl
 rw [Nat.add_zero] at c1
 have hcp:=hcap _ _ _ rfl
 clear g hcap hown
 have hbg:r.length * 8≤281474976710656:=by simp only [List.length_cons] at hbig;omega
 simp only [List.length_cons] at hlc hbig
 have K:Hid (∀ wx,Below w.heap.size w wx→Calls Try.prog 81 #[.slice (some ⟨b,o+1,none⟩) r.length (cap - 1)] wx (RetE wx 3 eI 1 r)):=fun wx hb=>clone_queue ((arr_tail hA0 (fun _=>rfl)).below hb) hbg
 have hpos:¬ ((r.length:Int)+1=0):=by omega
 have hp1:(1:Int)≤(r.length:Int)+1:=by omega
 have hp2:0<r.length+1:=by omega
 clear hA0
 have HX:=Lib.hid c1;clear c1
 have C:Hid (∀ k wx,Calls Try.prog 75 #[.int .i64 k] wx (RetA wx 2 k)):=value_any
 go_enter Try.func79,Try.ntmps79
 go_wp2_with fail
 obtain ⟨hW,hS,hA⟩:=one_box w #[.int .i64 0,.int .i64 0] 42
 generalize w.alloc (.cells #[.int .i64 0,.int .i64 0] 42)=W1 at *
 have HAX:=Lib.hid hA;clear hA
 have hbn:b≠w.heap.size:=by omega
 have hbd:Below W1.heap.size W1 W1.drew:=(Below.refl _ _).drew
 have hbw:Below w.heap.size w W1.drew:=hW.trans (hbd.mono (by omega))
 go_region_held3 (fun w'=>w'.cell? ⟨b,o,none⟩=some (.int .i64 x)) (first | (go_keep;done) | (with_reducible exact (hbw.cell hb1).trans HX.out) | (with_reducible exact cell_set2 HA2.out ((hbw.cell hb1).trans HX.out) hbn))
  (first
   | (go_at_call 81;(with_reducible refine (K.out _ hbw).mono ?_);rintro r w2 ⟨v6,rfl,ho,hb⟩;have HO:=Lib.hid (ho.base (show w.heap.size+1≤_ by have:=hbw.size;have:=hbd.size;omega));have hbd:=below_call hbd (Nat.le_refl _) hb;have hbw:=hW.trans (hbd.mono (by omega));have hA2:=(hbd.block w.heap.size (by omega)).trans HAX.out;obtain ⟨⟨x0,x1⟩,⟨f0,f1⟩⟩:=blk2 hA2;have HA2:=Lib.hid hA2;clear hA2 ho hb)
   | (go_at_call 75;(with_reducible refine (C.out _ _).mono ?_);rintro r w2 ⟨rfl,hb⟩;have hbd:=below_call hbd (Nat.le_refl _) hb;have hbw:=hW.trans (hbd.mono (by omega));(try have HO:=Lib.hid (HO.out.ext hb));have hA2:=(hbd.block w.heap.size (by omega)).trans HAX.out;obtain ⟨⟨x0,x1⟩,⟨f0,f1⟩⟩:=blk2 hA2;have HA2:=Lib.hid hA2;clear hA2 hb))
 have HA:=HA2
 have HB:=Lib.hid hbw
 have OB:Hid (OwnE (w2.setRow w.heap.size #[.int .i64 2,.int .i64 x]) B 3 eI 1 v6 r):=(HO.out.keep (grownBy_setRow _ _ _) (by omega)).base (by omega)
 clear HO HX HAX hW hbd hbw hbn x0 x1 f0 f1 C K
 rw [set2 HA.out]
 go_wp2
 obtain ⟨⟨z0,z1⟩,_⟩:=blk2 (setRow_heap w2 w.heap.size _ #[.int .i64 2,.int .i64 x] 42 (0,0) HA.out)
 refine bodyPost_ret (v:=.tuple #[.iface 92 v6,.agg #[.int .i64 2,.int .i64 x]]) ?_ rfl ⟨_,rfl,OB.out,below_setRow' HB.out (Nat.le_refl _) _⟩
 simp [results,Try.results79,go_sem,z0,z1]
set_option maxRecDepth 100000 in
set_option maxHeartbeats 1000000 in
theorem do_set_ins_no {w:World} {B:Nat} {v:Value} {l:List Int} (op arg data:Int) (_hB:B≤w.heap.size) (hown:OwnE w B 3 eI 1 v l) (hinc:incB l=true) (hsm:(l.length+1) * 8≤140737488355328) (hop:op=50) (hf:hasB l arg=true) :
  Calls Try.prog 82 #[v,.int .i64 op,.int .i64 arg,.int .i64 data] w (RetDo w B 93 3 eI 1 (l,6,0)):=by
 subst hop
 have hA0:=hown.arr eI_ok
 obtain ⟨ba,cap,rfl⟩:=hown.form
 have HOWN:=Lib.hid hown;clear hown
 have S:Hid (∀ wx,Below w.heap.size w wx→Calls Try.prog 85 #[.slice ba l.length cap,.int .i64 arg] wx (RetS wx (l) arg)):=fun wx hb=>search_set (hA0.below hb) hinc (by omega)
 clear hA0
 have C:Hid (∀ b wx,Calls Try.prog 88 #[.bool b] wx (RetA wx (if b then 5 else 6) 0)):=yes_any
 go_enter Try.func82,Try.ntmps82
 go_wp2_with fail
 obtain ⟨hW,hS,hA⟩:=one_box w #[.int .i64 0,.int .i64 0] 42
 generalize w.alloc (.cells #[.int .i64 0,.int .i64 0] 42)=W1 at *
 (with_reducible refine (S.out _ hW).mono ?_)
 rintro r w1 ⟨i,rfl,hp,hb⟩
 have hi:=hp.eq
 have hil:=hp.le
 subst hi
 clear hp
 have hW1:=hW.trans (hb.mono (by omega))
 have hA1:=(hb.block w.heap.size (by omega)).trans hA
 have hs1:w.heap.size<w1.heap.size:=by have:=hb.size;omega
 clear hW hA hb S
 have hd:decide (l[pos l arg]? = some arg)=true:=hf
 rw [hd]
 clear hd hf
 go_wp2_with fail
 have hW:=hW1
 have hA:=hA1
 (with_reducible refine (C.out _ _).mono ?_)
 rintro r w2 ⟨rfl,hb⟩
 have hA2:=(hb.block w.heap.size (by omega)).trans hA
 have hbw:Below w.heap.size w w2:=hW.trans (hb.mono (by omega))
 have HB:=Lib.hid hbw
 have OB:Hid (OwnE (w2.setRow w.heap.size #[.int .i64 6,.int .i64 0]) B 3 eI 1 (.slice ba l.length cap) l):=HOWN.out.ext (below_setRow' hbw (Nat.le_refl _) _)
 clear hA hb hbw hW hW1 hA1
 have HA:=Lib.hid hA2
 obtain ⟨⟨x0,x1⟩,⟨f0,f1⟩⟩:=blk2 hA2
 clear hA2
 go_wp2
 rw [set2 HA.out]
 clear x0 x1 f0 f1
 obtain ⟨⟨z0,z1⟩,_⟩:=blk2 (setRow_heap w2 w.heap.size _ #[.int .i64 6,.int .i64 0] 42 (0,0) HA.out)
 refine bodyPost_ret (v:=.tuple #[.iface 93 (.slice ba l.length cap),.agg #[.int .i64 6,.int .i64 0]]) ?_ rfl ⟨_,rfl,OB.out,below_setRow' HB.out (Nat.le_refl _) _⟩
 simp [results,Try.results82,go_sem,z0,z1]
set_option maxRecDepth 100000 in
set_option maxHeartbeats 1000000 in
theorem do_set_del_no {w:World} {B:Nat} {v:Value} {l:List Int} (op arg data:Int) (_hB:B≤w.heap.size) (hown:OwnE w B 3 eI 1 v l) (hinc:incB l=true) (hsm:(l.length+1) * 8≤140737488355328) (hop:op=51) (hf:hasB l arg=false) :
  Calls Try.prog 82 #[v,.int .i64 op,.int .i64 arg,.int .i64 data] w (RetDo w B 93 3 eI 1 (l,6,0)):=by
 subst hop
 have hA0:=hown.arr eI_ok
 obtain ⟨ba,cap,rfl⟩:=hown.form
 have HOWN:=Lib.hid hown;clear hown
 have S:Hid (∀ wx,Below w.heap.size w wx→Calls Try.prog 85 #[.slice ba l.length cap,.int .i64 arg] wx (RetS wx (l) arg)):=fun wx hb=>search_set (hA0.below hb) hinc (by omega)
 clear hA0
 have C:Hid (∀ b wx,Calls Try.prog 88 #[.bool b] wx (RetA wx (if b then 5 else 6) 0)):=yes_any
 go_enter Try.func82,Try.ntmps82
 go_wp2_with fail
 obtain ⟨hW,hS,hA⟩:=one_box w #[.int .i64 0,.int .i64 0] 42
 generalize w.alloc (.cells #[.int .i64 0,.int .i64 0] 42)=W1 at *
 (with_reducible refine (S.out _ hW).mono ?_)
 rintro r w1 ⟨i,rfl,hp,hb⟩
 have hi:=hp.eq
 have hil:=hp.le
 subst hi
 clear hp
 have hW1:=hW.trans (hb.mono (by omega))
 have hA1:=(hb.block w.heap.size (by omega)).trans hA
 have hs1:w.heap.size<w1.heap.size:=by have:=hb.size;omega
 clear hW hA hb S
 have hd:decide (l[pos l arg]? = some arg)=false:=hf
 rw [hd]
 clear hd hf
 go_wp2_with fail
 have hW:=hW1
 have hA:=hA1
 (with_reducible refine (C.out _ _).mono ?_)
 rintro r w2 ⟨rfl,hb⟩
 have hA2:=(hb.block w.heap.size (by omega)).trans hA
 have hbw:Below w.heap.size w w2:=hW.trans (hb.mono (by omega))
 have HB:=Lib.hid hbw
 have OB:Hid (OwnE (w2.setRow w.heap.size #[.int .i64 6,.int .i64 0]) B 3 eI 1 (.slice ba l.length cap) l):=HOWN.out.ext (below_setRow' hbw (Nat.le_refl _) _)
 clear hA hb hbw hW hW1 hA1
 have HA:=Lib.hid hA2
 obtain ⟨⟨x0,x1⟩,⟨f0,f1⟩⟩:=blk2 hA2
 clear hA2
 go_wp2
 rw [set2 HA.out]
 clear x0 x1 f0 f1
 obtain ⟨⟨z0,z1⟩,_⟩:=blk2 (setRow_heap w2 w.heap.size _ #[.int .i64 6,.int .i64 0] 42 (0,0) HA.out)
 refine bodyPost_ret (v:=.tuple #[.iface 93 (.slice ba l.length cap),.agg #[.int .i64 6,.int .i64 0]]) ?_ rfl ⟨_,rfl,OB.out,below_setRow' HB.out (Nat.le_refl _) _⟩
 simp [results,Try.results82,go_sem,z0,z1]
set_option maxRecDepth 100000 in
set_option maxHeartbeats 1000000 in
theorem do_set_has {w:World} {B:Nat} {v:Value} {l:List Int} (op arg data:Int) (_hB:B≤w.heap.size) (hown:OwnE w B 3 eI 1 v l) (hinc:incB l=true) (hsm:(l.length+1) * 8≤140737488355328) (hop:¬ op=50) (hop2:¬ op=51) (hf:hasB l arg=true) :
  Calls Try.prog 82 #[v,.int .i64 op,.int .i64 arg,.int .i64 data] w (RetDo w B 93 3 eI 1 (l,5,0)):=by
 have hA0:=hown.arr eI_ok
 obtain ⟨ba,cap,rfl⟩:=hown.form
 have HOWN:=Lib.hid hown;clear hown
 have S:Hid (∀ wx,Below w.heap.size w wx→Calls Try.prog 85 #[.slice ba l.length cap,.int .i64 arg] wx (RetS wx (l) arg)):=fun wx hb=>search_set (hA0.below hb) hinc (by omega)
 clear hA0
 have C:Hid (∀ b wx,Calls Try.prog 88 #[.bool b] wx (RetA wx (if b then 5 else 6) 0)):=yes_any
 go_enter Try.func82,Try.ntmps82
 go_wp2_with fail
 obtain ⟨hW,hS,hA⟩:=one_box w #[.int .i64 0,.int .i64 0] 42
 generalize w.alloc (.cells #[.int .i64 0,.int .i64 0] 42)=W1 at *
 (with_reducible refine (S.out _ hW).mono ?_)
 rintro r w1 ⟨i,rfl,hp,hb⟩
 have hi:=hp.eq
 have hil:=hp.le
 subst hi
 clear hp
 have hW1:=hW.trans (hb.mono (by omega))
 have hA1:=(hb.block w.heap.size (by omega)).trans hA
 have hs1:w.heap.size<w1.heap.size:=by have:=hb.size;omega
 clear hW hA hb S
 have hd:decide (l[pos l arg]? = some arg)=true:=hf
 rw [hd]
 clear hd hf
 go_wp2_with fail
 have hW:=hW1
 have hA:=hA1
 (with_reducible refine (C.out _ _).mono ?_)
 rintro r w2 ⟨rfl,hb⟩
 have hA2:=(hb.block w.heap.size (by omega)).trans hA
 have hbw:Below w.heap.size w w2:=hW.trans (hb.mono (by omega))
 have HB:=Lib.hid hbw
 have OB:Hid (OwnE (w2.setRow w.heap.size #[.int .i64 5,.int .i64 0]) B 3 eI 1 (.slice ba l.length cap) l):=HOWN.out.ext (below_setRow' hbw (Nat.le_refl _) _)
 clear hA hb hbw hW hW1 hA1
 have HA:=Lib.hid hA2
 obtain ⟨⟨x0,x1⟩,⟨f0,f1⟩⟩:=blk2 hA2
 clear hA2
 go_wp2
 rw [set2 HA.out]
 clear x0 x1 f0 f1
 obtain ⟨⟨z0,z1⟩,_⟩:=blk2 (setRow_heap w2 w.heap.size _ #[.int .i64 5,.int .i64 0] 42 (0,0) HA.out)
 refine bodyPost_ret (v:=.tuple #[.iface 93 (.slice ba l.length cap),.agg #[.int .i64 5,.int .i64 0]]) ?_ rfl ⟨_,rfl,OB.out,below_setRow' HB.out (Nat.le_refl _) _⟩
 simp [results,Try.results82,go_sem,z0,z1]
set_option maxRecDepth 100000 in
set_option maxHeartbeats 1000000 in
theorem do_set_hasno {w:World} {B:Nat} {v:Value} {l:List Int} (op arg data:Int) (_hB:B≤w.heap.size) (hown:OwnE w B 3 eI 1 v l) (hinc:incB l=true) (hsm:(l.length+1) * 8≤140737488355328) (hop:¬ op=50) (hop2:¬ op=51) (hf:hasB l arg=false) :
  Calls Try.prog 82 #[v,.int .i64 op,.int .i64 arg,.int .i64 data] w (RetDo w B 93 3 eI 1 (l,6,0)):=by
 have hA0:=hown.arr eI_ok
 obtain ⟨ba,cap,rfl⟩:=hown.form
 have HOWN:=Lib.hid hown;clear hown
 have S:Hid (∀ wx,Below w.heap.size w wx→Calls Try.prog 85 #[.slice ba l.length cap,.int .i64 arg] wx (RetS wx (l) arg)):=fun wx hb=>search_set (hA0.below hb) hinc (by omega)
 clear hA0
 have C:Hid (∀ b wx,Calls Try.prog 88 #[.bool b] wx (RetA wx (if b then 5 else 6) 0)):=yes_any
 go_enter Try.func82,Try.ntmps82
 go_wp2_with fail
 obtain ⟨hW,hS,hA⟩:=one_box w #[.int .i64 0,.int .i64 0] 42
 generalize w.alloc (.cells #[.int .i64 0,.int .i64 0] 42)=W1 at *
 (with_reducible refine (S.out _ hW).mono ?_)
 rintro r w1 ⟨i,rfl,hp,hb⟩
 have hi:=hp.eq
 have hil:=hp.le
 subst hi
 clear hp
 have hW1:=hW.trans (hb.mono (by omega))
 have hA1:=(hb.block w.heap.size (by omega)).trans hA
 have hs1:w.heap.size<w1.heap.size:=by have:=hb.size;omega
 clear hW hA hb S
 have hd:decide (l[pos l arg]? = some arg)=false:=hf
 rw [hd]
 clear hd hf
 go_wp2_with fail
 have hW:=hW1
 have hA:=hA1
 (with_reducible refine (C.out _ _).mono ?_)
 rintro r w2 ⟨rfl,hb⟩
 have hA2:=(hb.block w.heap.size (by omega)).trans hA
 have hbw:Below w.heap.size w w2:=hW.trans (hb.mono (by omega))
 have HB:=Lib.hid hbw
 have OB:Hid (OwnE (w2.setRow w.heap.size #[.int .i64 6,.int .i64 0]) B 3 eI 1 (.slice ba l.length cap) l):=HOWN.out.ext (below_setRow' hbw (Nat.le_refl _) _)
 clear hA hb hbw hW hW1 hA1
 have HA:=Lib.hid hA2
 obtain ⟨⟨x0,x1⟩,⟨f0,f1⟩⟩:=blk2 hA2
 clear hA2
 go_wp2
 rw [set2 HA.out]
 clear x0 x1 f0 f1
 obtain ⟨⟨z0,z1⟩,_⟩:=blk2 (setRow_heap w2 w.heap.size _ #[.int .i64 6,.int .i64 0] 42 (0,0) HA.out)
 refine bodyPost_ret (v:=.tuple #[.iface 93 (.slice ba l.length cap),.agg #[.int .i64 6,.int .i64 0]]) ?_ rfl ⟨_,rfl,OB.out,below_setRow' HB.out (Nat.le_refl _) _⟩
 simp [results,Try.results82,go_sem,z0,z1]
set_option maxRecDepth 100000 in
set_option maxHeartbeats 1000000 in
theorem do_set_insert {w:World} {B:Nat} {v:Value} {l:List Int} (op arg data:Int) (_hB:B≤w.heap.size) (hown:OwnE w B 3 eI 1 v l) (hinc:incB l=true) (hsm:(l.length+1) * 8≤140737488355328) (hop:op=50) (hf:hasB l arg=false) :
  Calls Try.prog 82 #[v,.int .i64 op,.int .i64 arg,.int .i64 data] w (RetDo w B 93 3 eI 1 (insAt l (pos l arg) arg,5,0)):=by
 subst hop
 have hA0:=hown.arr eI_ok
 obtain ⟨ba,cap,rfl⟩:=hown.form
 clear hown
 have S:Hid (∀ wx,Below w.heap.size w wx→Calls Try.prog 85 #[.slice ba l.length cap,.int .i64 arg] wx (RetS wx (l) arg)):=fun wx hb=>search_set (hA0.below hb) hinc (by omega)
 have K:Hid (∀ wx,Below w.heap.size w wx→Calls Try.prog 87 #[.slice ba l.length cap] wx (RetE wx 3 eI 1 l)):=fun wx hb=>clone_set (hA0.below hb) (by omega)
 clear hA0
 have C:Hid (∀ b wx,Calls Try.prog 88 #[.bool b] wx (RetA wx (if b then 5 else 6) 0)):=yes_any
 go_enter Try.func82,Try.ntmps82
 go_wp2_with fail
 obtain ⟨hW,hS,hA⟩:=one_box w #[.int .i64 0,.int .i64 0] 42
 generalize w.alloc (.cells #[.int .i64 0,.int .i64 0] 42)=W1 at *
 (with_reducible refine (S.out _ hW).mono ?_)
 rintro r w1 ⟨i,rfl,hp,hb⟩
 have hi:=hp.eq
 have hil:=hp.le
 subst hi
 clear hp
 have hW1:=hW.trans (hb.mono (by omega))
 have hA1:=(hb.block w.heap.size (by omega)).trans hA
 have hs1:w.heap.size<w1.heap.size:=by have:=hb.size;omega
 clear hW hA hb S
 have hd:decide (l[pos l arg]? = some arg)=false:=hf
 rw [hd]
 clear hd
 clear hf
 go_wp2_with fail
 (with_reducible refine (K.out _ hW1).mono ?_)
 rintro r w5 ⟨v2,rfl,ho2,hb2⟩
 have hW2:=hW1.trans (hb2.mono (by omega))
 have hA2:=(hb2.block w.heap.size hs1).trans hA1
 have hs2:w1.heap.size≤w5.heap.size:=hb2.size
 clear hW1 hA1 hb2 K
 go_wp2_with fail
 obtain ⟨hW3,hS3,hX3⟩:=one_box w5 (eI arg).toArray 3
 have ho3:=ho2.ext hW3
 have hne3:∀ k,v2.ownBlock=some k→l≠[]→w5.heap.size≠k:=fun k hk hl=>by have:=own_lt ho2 hl k hk;omega
 clear ho2
 simp only [eI] at hW3 hS3 hX3 ho3
 generalize w5.alloc (.cells #[.int .i64 arg] 3)=W3 at *
 have hW4:=hW2.trans (hW3.mono (by omega))
 have hA4:=(hW3.block w.heap.size (by omega)).trans hA2
 clear hW2 hA2 hW3
 (with_reducible refine (insert_set (B:=w1.heap.size) (x:=arg) hil (by omega) ho3 hX3 hne3 (by omega)).mono ?_)
 rintro r w6 ⟨v6,rfl,ho,hb⟩
 have HO:=Lib.hid (ho.base (show w.heap.size+1≤w1.heap.size by omega))
 have hW:=hW4.trans (hb.mono (by omega))
 have hA:=(hb.block w.heap.size (by omega)).trans hA4
 have hS6:w.heap.size<w6.heap.size:=by have:=hb.size;omega
 clear hW4 hA4 ho hb ho3 hX3 hne3
 go_wp2_with fail
 (with_reducible refine (C.out _ _).mono ?_)
 rintro r w2 ⟨rfl,hb⟩
 have hA2:=(hb.block w.heap.size (by omega)).trans hA
 have hbw:Below w.heap.size w w2:=hW.trans (hb.mono (by omega))
 have HB:=Lib.hid hbw
 have OB:Hid (OwnE (w2.setRow w.heap.size #[.int .i64 5,.int .i64 0]) B 3 eI 1 v6 (insAt l (pos l arg) arg)):=((HO.out.ext hb).keep (grownBy_setRow _ _ _) (by omega)).base (by omega)
 clear hA hb hbw hW HO
 have HA:=Lib.hid hA2
 obtain ⟨⟨x0,x1⟩,⟨f0,f1⟩⟩:=blk2 hA2
 clear hA2
 go_wp2
 rw [set2 HA.out]
 clear x0 x1 f0 f1
 obtain ⟨⟨z0,z1⟩,_⟩:=blk2 (setRow_heap w2 w.heap.size _ #[.int .i64 5,.int .i64 0] 42 (0,0) HA.out)
 refine bodyPost_ret (v:=.tuple #[.iface 93 (v6),.agg #[.int .i64 5,.int .i64 0]]) ?_ rfl ⟨_,rfl,OB.out,below_setRow' HB.out (Nat.le_refl _) _⟩
 simp [results,Try.results82,go_sem,z0,z1]
set_option maxRecDepth 100000 in
set_option maxHeartbeats 1000000 in
theorem do_set_delete {w:World} {B:Nat} {v:Value} {l:List Int} (op arg data:Int) (_hB:B≤w.heap.size) (hown:OwnE w B 3 eI 1 v l) (hinc:incB l=true) (hsm:(l.length+1) * 8≤140737488355328) (hop:op=51) (hf:hasB l arg=true) :
  Calls Try.prog 82 #[v,.int .i64 op,.int .i64 arg,.int .i64 data] w (RetDo w B 93 3 eI 1 (delAt l (pos l arg),5,0)):=by
 subst hop
 have hA0:=hown.arr eI_ok
 obtain ⟨ba,cap,rfl⟩:=hown.form
 clear hown
 have S:Hid (∀ wx,Below w.heap.size w wx→Calls Try.prog 85 #[.slice ba l.length cap,.int .i64 arg] wx (RetS wx (l) arg)):=fun wx hb=>search_set (hA0.below hb) hinc (by omega)
 have K:Hid (∀ wx,Below w.heap.size w wx→Calls Try.prog 87 #[.slice ba l.length cap] wx (RetE wx 3 eI 1 l)):=fun wx hb=>clone_set (hA0.below hb) (by omega)
 clear hA0
 have C:Hid (∀ b wx,Calls Try.prog 88 #[.bool b] wx (RetA wx (if b then 5 else 6) 0)):=yes_any
 go_enter Try.func82,Try.ntmps82
 go_wp2_with fail
 obtain ⟨hW,hS,hA⟩:=one_box w #[.int .i64 0,.int .i64 0] 42
 generalize w.alloc (.cells #[.int .i64 0,.int .i64 0] 42)=W1 at *
 (with_reducible refine (S.out _ hW).mono ?_)
 rintro r w1 ⟨i,rfl,hp,hb⟩
 have hi:=hp.eq
 have hil:=hp.le
 subst hi
 clear hp
 have hW1:=hW.trans (hb.mono (by omega))
 have hA1:=(hb.block w.heap.size (by omega)).trans hA
 have hs1:w.heap.size<w1.heap.size:=by have:=hb.size;omega
 clear hW hA hb S
 have hd:decide (l[pos l arg]? = some arg)=true:=hf
 rw [hd]
 clear hd
 have hlt:pos l arg<l.length:=(List.getElem?_eq_some_iff.1 (of_decide_eq_true hf)).1
 have hpb:((pos l arg:Nat):Int)+1≤9223372036854775807:=by omega
 clear hf
 go_wp2_with fail
 (with_reducible refine (K.out _ hW1).mono ?_)
 rintro r w5 ⟨v2,rfl,ho2,hb2⟩
 have hW2:=hW1.trans (hb2.mono (by omega))
 have hA2:=(hb2.block w.heap.size hs1).trans hA1
 have hs2:w1.heap.size≤w5.heap.size:=hb2.size
 clear hW1 hA1 hb2 K
 go_wp2_with fail
 (with_reducible refine (delete_set (B:=w1.heap.size) (by omega) ho2).mono ?_)
 rintro r w6 ⟨v6,rfl,ho,hb⟩
 have HO:=Lib.hid (ho.base (show w.heap.size+1≤w1.heap.size by omega))
 have hW:=hW2.trans (hb.mono (by omega))
 have hA:=(hb.block w.heap.size (by omega)).trans hA2
 have hS6:w.heap.size<w6.heap.size:=by have:=hb.size;omega
 clear hW2 hA2 ho hb ho2
 go_wp2_with fail
 (with_reducible refine (C.out _ _).mono ?_)
 rintro r w2 ⟨rfl,hb⟩
 have hA2:=(hb.block w.heap.size (by omega)).trans hA
 have hbw:Below w.heap.size w w2:=hW.trans (hb.mono (by omega))
 have HB:=Lib.hid hbw
 have OB:Hid (OwnE (w2.setRow w.heap.size #[.int .i64 5,.int .i64 0]) B 3 eI 1 v6 (delAt l (pos l arg))):=((HO.out.ext hb).keep (grownBy_setRow _ _ _) (by omega)).base (by omega)
 clear hA hb hbw hW HO
 have HA:=Lib.hid hA2
 obtain ⟨⟨x0,x1⟩,⟨f0,f1⟩⟩:=blk2 hA2
 clear hA2
 go_wp2
 rw [set2 HA.out]
 clear x0 x1 f0 f1
 obtain ⟨⟨z0,z1⟩,_⟩:=blk2 (setRow_heap w2 w.heap.size _ #[.int .i64 5,.int .i64 0] 42 (0,0) HA.out)
 refine bodyPost_ret (v:=.tuple #[.iface 93 (v6),.agg #[.int .i64 5,.int .i64 0]]) ?_ rfl ⟨_,rfl,OB.out,below_setRow' HB.out (Nat.le_refl _) _⟩
 simp [results,Try.results82,go_sem,z0,z1]
set_option maxRecDepth 100000 in
set_option maxHeartbeats 1000000 in
theorem do_table_add_no {w:World} {B:Nat} {v:Value} {l:List (Int×Int)} (op arg data:Int) (_hB:B≤w.heap.size) (hown:OwnE w B 76 eP 2 v l) (hinc:incB (keys l)=true) (hsm:(l.length+1) * 16≤140737488355328) (hop:op=60) (hf:hasB (keys l) arg=true) :
  Calls Try.prog 97 #[v,.int .i64 op,.int .i64 arg,.int .i64 data] w (RetDo w B 94 76 eP 2 (l,6,0)):=by
 subst hop
 have hA0:=hown.arr eP_ok
 obtain ⟨ba,cap,rfl⟩:=hown.form
 have HOWN:=Lib.hid hown;clear hown
 have S:Hid (∀ wx,Below w.heap.size w wx→Calls Try.prog 100 #[.slice ba l.length cap,.int .i64 arg] wx (RetS wx (keys l) arg)):=fun wx hb=>tableFind (hA0.below hb) hinc (by omega)
 clear hA0
 have C:Hid (∀ b wx,Calls Try.prog 88 #[.bool b] wx (RetA wx (if b then 5 else 6) 0)):=yes_any
 go_enter Try.func97,Try.ntmps97
 go_wp2_with fail
 obtain ⟨hW,hS,hA⟩:=one_box w #[.int .i64 0,.int .i64 0] 42
 generalize w.alloc (.cells #[.int .i64 0,.int .i64 0] 42)=W1 at *
 (with_reducible refine (S.out _ hW).mono ?_)
 rintro r w1 ⟨i,rfl,hp,hb⟩
 have hi:=hp.eq
 have hil:i≤l.length:=by have:=hp.le;simpa [keys] using this
 subst hi
 clear hp
 have hW1:=hW.trans (hb.mono (by omega))
 have hA1:=(hb.block w.heap.size (by omega)).trans hA
 have hs1:w.heap.size<w1.heap.size:=by have:=hb.size;omega
 clear hW hA hb S
 have hd:decide ((keys l)[pos (keys l) arg]? = some arg)=true:=hf
 rw [hd]
 clear hd
 clear hf
 go_wp2_with fail
 have hW:=hW1
 have hA:=hA1
 (with_reducible refine (C.out _ _).mono ?_)
 rintro r w2 ⟨rfl,hb⟩
 have hA2:=(hb.block w.heap.size (by omega)).trans hA
 have hbw:Below w.heap.size w w2:=hW.trans (hb.mono (by omega))
 have HB:=Lib.hid hbw
 have OB:Hid (OwnE (w2.setRow w.heap.size #[.int .i64 6,.int .i64 0]) B 76 eP 2 (.slice ba l.length cap) l):=HOWN.out.ext (below_setRow' hbw (Nat.le_refl _) _)
 clear hA hb hbw hW hW1 hA1
 have HA:=Lib.hid hA2
 obtain ⟨⟨x0,x1⟩,⟨f0,f1⟩⟩:=blk2 hA2
 clear hA2
 go_wp2
 rw [set2 HA.out]
 clear x0 x1 f0 f1
 obtain ⟨⟨z0,z1⟩,_⟩:=blk2 (setRow_heap w2 w.heap.size _ #[.int .i64 6,.int .i64 0] 42 (0,0) HA.out)
 refine bodyPost_ret (v:=.tuple #[.iface 94 (.slice ba l.length cap),.agg #[.int .i64 6,.int .i64 0]]) ?_ rfl ⟨_,rfl,OB.out,below_setRow' HB.out (Nat.le_refl _) _⟩
 simp [results,Try.results97,go_sem,z0,z1]
set_option maxRecDepth 100000 in
set_option maxHeartbeats 1000000 in
theorem do_table_none {w:World} {B:Nat} {v:Value} {l:List (Int×Int)} (op arg data:Int) (_hB:B≤w.heap.size) (hown:OwnE w B 76 eP 2 v l) (hinc:incB (keys l)=true) (hsm:(l.length+1) * 16≤140737488355328) (hop:¬ op=60) (hf:hasB (keys l) arg=false) :
  Calls Try.prog 97 #[v,.int .i64 op,.int .i64 arg,.int .i64 data] w (RetDo w B 94 76 eP 2 (l,6,0)):=by
 have hA0:=hown.arr eP_ok
 obtain ⟨ba,cap,rfl⟩:=hown.form
 have HOWN:=Lib.hid hown;clear hown
 have S:Hid (∀ wx,Below w.heap.size w wx→Calls Try.prog 100 #[.slice ba l.length cap,.int .i64 arg] wx (RetS wx (keys l) arg)):=fun wx hb=>tableFind (hA0.below hb) hinc (by omega)
 clear hA0
 have C:Hid (∀ b wx,Calls Try.prog 88 #[.bool b] wx (RetA wx (if b then 5 else 6) 0)):=yes_any
 go_enter Try.func97,Try.ntmps97
 go_wp2_with fail
 obtain ⟨hW,hS,hA⟩:=one_box w #[.int .i64 0,.int .i64 0] 42
 generalize w.alloc (.cells #[.int .i64 0,.int .i64 0] 42)=W1 at *
 (with_reducible refine (S.out _ hW).mono ?_)
 rintro r w1 ⟨i,rfl,hp,hb⟩
 have hi:=hp.eq
 have hil:i≤l.length:=by have:=hp.le;simpa [keys] using this
 subst hi
 clear hp
 have hW1:=hW.trans (hb.mono (by omega))
 have hA1:=(hb.block w.heap.size (by omega)).trans hA
 have hs1:w.heap.size<w1.heap.size:=by have:=hb.size;omega
 clear hW hA hb S
 have hd:decide ((keys l)[pos (keys l) arg]? = some arg)=false:=hf
 rw [hd]
 clear hd
 clear hf
 go_wp2_with fail
 have hW:=hW1
 have hA:=hA1
 (with_reducible refine (C.out _ _).mono ?_)
 rintro r w2 ⟨rfl,hb⟩
 have hA2:=(hb.block w.heap.size (by omega)).trans hA
 have hbw:Below w.heap.size w w2:=hW.trans (hb.mono (by omega))
 have HB:=Lib.hid hbw
 have OB:Hid (OwnE (w2.setRow w.heap.size #[.int .i64 6,.int .i64 0]) B 76 eP 2 (.slice ba l.length cap) l):=HOWN.out.ext (below_setRow' hbw (Nat.le_refl _) _)
 clear hA hb hbw hW hW1 hA1
 have HA:=Lib.hid hA2
 obtain ⟨⟨x0,x1⟩,⟨f0,f1⟩⟩:=blk2 hA2
 clear hA2
 go_wp2
 rw [set2 HA.out]
 clear x0 x1 f0 f1
 obtain ⟨⟨z0,z1⟩,_⟩:=blk2 (setRow_heap w2 w.heap.size _ #[.int .i64 6,.int .i64 0] 42 (0,0) HA.out)
 refine bodyPost_ret (v:=.tuple #[.iface 94 (.slice ba l.length cap),.agg #[.int .i64 6,.int .i64 0]]) ?_ rfl ⟨_,rfl,OB.out,below_setRow' HB.out (Nat.le_refl _) _⟩
 simp [results,Try.results97,go_sem,z0,z1]
set_option maxRecDepth 100000 in
set_option maxHeartbeats 1000000 in
theorem do_table_add {w:World} {B:Nat} {v:Value} {l:List (Int×Int)} (op arg data:Int) (_hB:B≤w.heap.size) (hown:OwnE w B 76 eP 2 v l) (hinc:incB (keys l)=true) (hsm:(l.length+1) * 16≤140737488355328) (hop:op=60) (hf:hasB (keys l) arg=false) :
  Calls Try.prog 97 #[v,.int .i64 op,.int .i64 arg,.int .i64 data] w (RetDo w B 94 76 eP 2 (insAt l (pos (keys l) arg) (arg,data),5,0)):=by
 subst hop
 have hA0:=hown.arr eP_ok
 obtain ⟨ba,cap,rfl⟩:=hown.form
 clear hown
 have S:Hid (∀ wx,Below w.heap.size w wx→Calls Try.prog 100 #[.slice ba l.length cap,.int .i64 arg] wx (RetS wx (keys l) arg)):=fun wx hb=>tableFind (hA0.below hb) hinc (by omega)
 have K:Hid (∀ wx,Below w.heap.size w wx→Calls Try.prog 102 #[.slice ba l.length cap] wx (RetE wx 76 eP 2 l)):=fun wx hb=>clone_table (hA0.below hb) (by omega)
 clear hA0
 have C:Hid (∀ b wx,Calls Try.prog 88 #[.bool b] wx (RetA wx (if b then 5 else 6) 0)):=yes_any
 go_enter Try.func97,Try.ntmps97
 go_wp2_with fail
 obtain ⟨hW,hS,hA⟩:=one_box w #[.int .i64 0,.int .i64 0] 42
 generalize w.alloc (.cells #[.int .i64 0,.int .i64 0] 42)=W1 at *
 (with_reducible refine (S.out _ hW).mono ?_)
 rintro r w1 ⟨i,rfl,hp,hb⟩
 have hi:=hp.eq
 have hil:i≤l.length:=by have:=hp.le;simpa [keys] using this
 subst hi
 clear hp
 have hW1:=hW.trans (hb.mono (by omega))
 have hA1:=(hb.block w.heap.size (by omega)).trans hA
 have hs1:w.heap.size<w1.heap.size:=by have:=hb.size;omega
 clear hW hA hb S
 have hd:decide ((keys l)[pos (keys l) arg]? = some arg)=false:=hf
 rw [hd]
 clear hd
 clear hf
 go_wp2_with fail
 (with_reducible refine (K.out _ hW1).mono ?_)
 rintro r w5 ⟨v2,rfl,ho2,hb2⟩
 have hW2:=hW1.trans (hb2.mono (by omega))
 have hA2:=(hb2.block w.heap.size hs1).trans hA1
 have hs2:w1.heap.size≤w5.heap.size:=hb2.size
 clear hW1 hA1 hb2 K
 go_wp2_with fail
 obtain ⟨hW3,hS3,hX3⟩:=one_box w5 (eP (arg,data)).toArray 76
 have ho3:=ho2.ext hW3
 have hne3:∀ k,v2.ownBlock=some k→l≠[]→w5.heap.size≠k:=fun k hk hl=>by have:=own_lt ho2 hl k hk;omega
 clear ho2
 simp only [eP] at hW3 hS3 hX3 ho3
 generalize w5.alloc (.cells #[.int .i64 arg,.int .i64 data] 76)=W3 at *
 have hW4:=hW2.trans (hW3.mono (by omega))
 have hA4:=(hW3.block w.heap.size (by omega)).trans hA2
 clear hW2 hA2 hW3
 (with_reducible refine (insert_table (B:=w1.heap.size) (x:=(arg,data)) hil (by omega) ho3 hX3 hne3 (by omega)).mono ?_)
 rintro r w6 ⟨v6,rfl,ho,hb⟩
 have HO:=Lib.hid (ho.base (show w.heap.size+1≤w1.heap.size by omega))
 have hW:=hW4.trans (hb.mono (by omega))
 have hA:=(hb.block w.heap.size (by omega)).trans hA4
 have hS6:w.heap.size<w6.heap.size:=by have:=hb.size;omega
 clear hW4 hA4 ho hb ho3 hX3 hne3
 go_wp2_with fail
 (with_reducible refine (C.out _ _).mono ?_)
 rintro r w2 ⟨rfl,hb⟩
 have hA2:=(hb.block w.heap.size (by omega)).trans hA
 have hbw:Below w.heap.size w w2:=hW.trans (hb.mono (by omega))
 have HB:=Lib.hid hbw
 have OB:Hid (OwnE (w2.setRow w.heap.size #[.int .i64 5,.int .i64 0]) B 76 eP 2 v6 (insAt l (pos (keys l) arg) (arg,data))):=((HO.out.ext hb).keep (grownBy_setRow _ _ _) (by omega)).base (by omega)
 clear hA hb hbw hW HO
 have HA:=Lib.hid hA2
 obtain ⟨⟨x0,x1⟩,⟨f0,f1⟩⟩:=blk2 hA2
 clear hA2
 go_wp2
 rw [set2 HA.out]
 clear x0 x1 f0 f1
 obtain ⟨⟨z0,z1⟩,_⟩:=blk2 (setRow_heap w2 w.heap.size _ #[.int .i64 5,.int .i64 0] 42 (0,0) HA.out)
 refine bodyPost_ret (v:=.tuple #[.iface 94 (v6),.agg #[.int .i64 5,.int .i64 0]]) ?_ rfl ⟨_,rfl,OB.out,below_setRow' HB.out (Nat.le_refl _) _⟩
 simp [results,Try.results97,go_sem,z0,z1]
set_option maxRecDepth 100000 in
set_option maxHeartbeats 1000000 in
theorem do_table_rem {w:World} {B:Nat} {v:Value} {l:List (Int×Int)} (op arg data:Int) (_hB:B≤w.heap.size) (hown:OwnE w B 76 eP 2 v l) (hinc:incB (keys l)=true) (hsm:(l.length+1) * 16≤140737488355328) (hop:op=61) (p:Int×Int) (hp:l[pos (keys l) arg]? = some p) (hpk:p.1=arg) :
  Calls Try.prog 97 #[v,.int .i64 op,.int .i64 arg,.int .i64 data] w (RetDo w B 94 76 eP 2 (delAt l (pos (keys l) arg),2,p.2)):=by
 subst hop
 have hf:hasB (keys l) arg=true:=decide_eq_true (by rw [keys_at hp,hpk])
 have hlt:pos (keys l) arg<l.length:=(List.getElem?_eq_some_iff.1 hp).1
 have hpb:((pos (keys l) arg:Nat):Int)+1≤9223372036854775807:=by omega
 have hlt2:((pos (keys l) arg:Nat):Int)<(l.length:Int):=by omega
 have hA0:=hown.arr eP_ok
 obtain ⟨ba,cap,rfl,hlc,hcm,g⟩:=(hown.arr eP_ok).at2
 obtain ⟨b,o,rfl,hb1,c1,c2⟩:=g _ p hp
 clear hown
 have S:Hid (∀ wx,Below w.heap.size w wx→Calls Try.prog 100 #[.slice (some ⟨b,o,none⟩) l.length cap,.int .i64 arg] wx (RetS wx (keys l) arg)):=fun wx hb=>tableFind (hA0.below hb) hinc (by omega)
 have K:Hid (∀ wx,Below w.heap.size w wx→Calls Try.prog 102 #[.slice (some ⟨b,o,none⟩) l.length cap] wx (RetE wx 76 eP 2 l)):=fun wx hb=>clone_table (hA0.below hb) (by omega)
 have HC2:=Lib.hid c2
 clear hA0 g c1 c2 hp hpk
 have C:Hid (∀ k wx,Calls Try.prog 75 #[.int .i64 k] wx (RetA wx 2 k)):=value_any
 go_enter Try.func97,Try.ntmps97
 go_wp2_with fail
 obtain ⟨hW,hS,hA⟩:=one_box w #[.int .i64 0,.int .i64 0] 42
 generalize w.alloc (.cells #[.int .i64 0,.int .i64 0] 42)=W1 at *
 (with_reducible refine (S.out _ hW).mono ?_)
 rintro r w1 ⟨i,rfl,hp,hb⟩
 have hi:=hp.eq
 have hil:i≤l.length:=by have:=hp.le;simpa [keys] using this
 subst hi
 clear hp
 have hW1:=hW.trans (hb.mono (by omega))
 have hA1:=(hb.block w.heap.size (by omega)).trans hA
 have hs1:w.heap.size<w1.heap.size:=by have:=hb.size;omega
 clear hW hA hb S
 have hd:decide ((keys l)[pos (keys l) arg]? = some arg)=true:=hf
 rw [hd]
 clear hd
 clear hf
 have d2:=(hW1.cell (by exact hb1)).trans HC2.out
 go_wp2_with fail
 (with_reducible refine (C.out _ _).mono ?_)
 rintro r w5 ⟨rfl,hb⟩
 have hW5:=hW1.trans (hb.mono (by omega))
 have hA5:=(hb.block w.heap.size hs1).trans hA1
 have hs5:=hb.size
 clear hW1 hA1 hb d2
 go_wp2_with fail
 obtain ⟨hW6,hS6,hT6⟩:=one_box w5 #[.int .i64 2,.int .i64 p.2] 42
 generalize w5.alloc (.cells #[.int .i64 2,.int .i64 p.2] 42)=W6 at *
 have hW:=hW5.trans (hW6.mono (by omega))
 have HAX:=Lib.hid ((hW6.block w.heap.size (by omega)).trans hA5)
 have HTX:=Lib.hid hT6
 clear hA5 hW5 hT6 hW6
 have hbd:Below W6.heap.size W6 W6.drew:=(Below.refl _ _).drew
 have hbw:Below w.heap.size w W6.drew:=hW.trans (hbd.mono (by omega))
 have hnt:w5.heap.size≠w.heap.size:=by omega
 have hlt6:w5.heap.size<W6.heap.size:=by omega
 have hle1:w.heap.size+1≤W6.heap.size:=by omega
 have hle2:w.heap.size≤W6.heap.size:=by omega
 have hlt0:w.heap.size<W6.heap.size:=by omega
 have hwr:IntKind.i64.wrap ((pos (keys l) arg:Int)+1)=(pos (keys l) arg:Int)+1:=by rw [IntKind.wrap_i64];omega
 go_region_held3 (fun w'=>w'.cell? ⟨w5.heap.size,0,none⟩=some (.int .i64 2)∧w'.cell? ⟨w5.heap.size,1,none⟩=some (.int .i64 p.2)) (first | (go_keep;done) | (with_reducible exact (blk2 ((hbd.block _ hlt6).trans HTX.out)).1) | (with_reducible exact ⟨cell_set2 HA2.out (blk2 ((hbd.block _ hlt6).trans HTX.out)).1.1 hnt,cell_set2 HA2.out (blk2 ((hbd.block _ hlt6).trans HTX.out)).1.2 hnt⟩) | (exact ⟨cell_set2 HAX.out (blk2 HTX.out).1.1 hnt,cell_set2 HAX.out (blk2 HTX.out).1.2 hnt⟩))
  (first
   | (go_at_call 102;(with_reducible refine (K.out _ hbw).mono ?_);rintro r w7 ⟨v2,rfl,ho2,hb⟩;have ho2:=Lib.hid (ho2.base (show W6.heap.size≤_ from hbd.size));have hbd:=below_call hbd (Nat.le_refl _) hb;have hbw:=hW.trans (hbd.mono hle2);clear hb)
   | (go_at_call 103;(with_reducible refine (delete_table (B:=W6.heap.size) hlt ho2.out).mono ?_);rintro r w2 ⟨v6,rfl,ho,hb⟩;have HO:=Lib.hid (ho.base hle1);have hbd:=hbd.trans hb;have hbw:=hW.trans (hbd.mono hle2);have hA2:=(hbd.block w.heap.size hlt0).trans HAX.out;obtain ⟨⟨x0,x1⟩,⟨f0,f1⟩⟩:=blk2 hA2;have HA2:=Lib.hid hA2;clear hA2 ho hb))
 clear hwr
 have HA:=HA2
 have HB:=Lib.hid hbw
 have OB:Hid (OwnE (w2.setRow w.heap.size #[.int .i64 2,.int .i64 p.2]) B 76 eP 2 v6 (delAt l (pos (keys l) arg))):=(HO.out.keep (grownBy_setRow _ _ _) (by omega)).base (by omega)
 rw [set2 HA.out]
 clear x0 x1 f0 f1
 go_wp2
 obtain ⟨⟨z0,z1⟩,_⟩:=blk2 (setRow_heap (w2) w.heap.size _ #[.int .i64 2,.int .i64 p.2] 42 (0,0) HA.out)
 refine bodyPost_ret (v:=.tuple #[.iface 94 (v6),.agg #[.int .i64 2,.int .i64 p.2]]) ?_ rfl ⟨_,rfl,OB.out,below_setRow' HB.out (Nat.le_refl _) _⟩
 simp [results,Try.results97,go_sem,z0,z1]
set_option maxRecDepth 100000 in
set_option maxHeartbeats 1000000 in
theorem do_table_get {w:World} {B:Nat} {v:Value} {l:List (Int×Int)} (op arg data:Int) (_hB:B≤w.heap.size) (hown:OwnE w B 76 eP 2 v l) (hinc:incB (keys l)=true) (hsm:(l.length+1) * 16≤140737488355328) (hop:¬ op=60) (hop2:¬ op=61) (p:Int×Int) (hp:l[pos (keys l) arg]? = some p) (hpk:p.1=arg) :
  Calls Try.prog 97 #[v,.int .i64 op,.int .i64 arg,.int .i64 data] w (RetDo w B 94 76 eP 2 (l,2,p.2)):=by
 have hf:hasB (keys l) arg=true:=decide_eq_true (by rw [keys_at hp,hpk])
 have hlt:pos (keys l) arg<l.length:=(List.getElem?_eq_some_iff.1 hp).1
 have hpb:((pos (keys l) arg:Nat):Int)+1≤9223372036854775807:=by omega
 have hlt2:((pos (keys l) arg:Nat):Int)<(l.length:Int):=by omega
 have hA0:=hown.arr eP_ok
 obtain ⟨ba,cap,rfl,hlc,hcm,g⟩:=(hown.arr eP_ok).at2
 obtain ⟨b,o,rfl,hb1,c1,c2⟩:=g _ p hp
 have HOWN:=Lib.hid hown;clear hown
 have S:Hid (∀ wx,Below w.heap.size w wx→Calls Try.prog 100 #[.slice (some ⟨b,o,none⟩) l.length cap,.int .i64 arg] wx (RetS wx (keys l) arg)):=fun wx hb=>tableFind (hA0.below hb) hinc (by omega)
 have HC2:=Lib.hid c2
 clear hA0 g c1 c2 hp hpk
 have C:Hid (∀ k wx,Calls Try.prog 75 #[.int .i64 k] wx (RetA wx 2 k)):=value_any
 go_enter Try.func97,Try.ntmps97
 go_wp2_with fail
 obtain ⟨hW,hS,hA⟩:=one_box w #[.int .i64 0,.int .i64 0] 42
 generalize w.alloc (.cells #[.int .i64 0,.int .i64 0] 42)=W1 at *
 (with_reducible refine (S.out _ hW).mono ?_)
 rintro r w1 ⟨i,rfl,hp,hb⟩
 have hi:=hp.eq
 have hil:i≤l.length:=by have:=hp.le;simpa [keys] using this
 subst hi
 clear hp
 have hW1:=hW.trans (hb.mono (by omega))
 have hA1:=(hb.block w.heap.size (by omega)).trans hA
 have hs1:w.heap.size<w1.heap.size:=by have:=hb.size;omega
 clear hW hA hb S
 have hd:decide ((keys l)[pos (keys l) arg]? = some arg)=true:=hf
 rw [hd]
 clear hd
 clear hf
 have d2:=(hW1.cell (by exact hb1)).trans HC2.out
 clear hpb hcm hlc hlt
 go_wp2_with fail
 (with_reducible refine (C.out _ _).mono ?_)
 rintro r w5 ⟨rfl,hb⟩
 have hW5:=hW1.trans (hb.mono (by omega))
 have hA5:=(hb.block w.heap.size hs1).trans hA1
 have hs5:=hb.size
 clear hW1 hA1 hb d2
 go_wp2_with fail
 obtain ⟨hW6,hS6,hT6⟩:=one_box w5 #[.int .i64 2,.int .i64 p.2] 42
 generalize w5.alloc (.cells #[.int .i64 2,.int .i64 p.2] 42)=W6 at *
 have hW:=hW5.trans (hW6.mono (by omega))
 have HAX:=Lib.hid ((hW6.block w.heap.size (by omega)).trans hA5)
 have HTX:=Lib.hid hT6
 clear hA5 hW5 hT6 hW6
 have hbd:Below W6.heap.size W6 W6.drew:=(Below.refl _ _).drew
 have hbw:Below w.heap.size w W6.drew:=hW.trans (hbd.mono (by omega))
 have hnt:w5.heap.size≠w.heap.size:=by omega
 have hlt6:w5.heap.size<W6.heap.size:=by omega
 have hA2:=(hbd.block w.heap.size (by omega)).trans HAX.out
 obtain ⟨⟨x0,x1⟩,⟨f0,f1⟩⟩:=blk2 HAX.out
 have HA2:=Lib.hid hA2;clear hA2
 go_region_held3 (fun w'=>w'.cell? ⟨w5.heap.size,0,none⟩=some (.int .i64 2)∧w'.cell? ⟨w5.heap.size,1,none⟩=some (.int .i64 p.2)) (first | (go_keep;done) | (with_reducible exact (blk2 ((hbd.block _ hlt6).trans HTX.out)).1) | (with_reducible exact ⟨cell_set2 HA2.out (blk2 ((hbd.block _ hlt6).trans HTX.out)).1.1 hnt,cell_set2 HA2.out (blk2 ((hbd.block _ hlt6).trans HTX.out)).1.2 hnt⟩) | (exact ⟨cell_set2 HAX.out (blk2 HTX.out).1.1 hnt,cell_set2 HAX.out (blk2 HTX.out).1.2 hnt⟩))
  (fail)
 have HB:Hid (Below w.heap.size w (W6.setRow w.heap.size #[.int .i64 2,.int .i64 p.2]).drew):=(below_setRow' hW (Nat.le_refl _) _).drew
 have OB:Hid (OwnE (W6.setRow w.heap.size #[.int .i64 2,.int .i64 p.2]).drew B 76 eP 2 (.slice (some ⟨b,o,none⟩) l.length cap) l):=HOWN.out.ext HB.out
 rw [set2 HAX.out]
 clear x0 x1 f0 f1
 obtain ⟨⟨z0,z1⟩,_⟩:=blk2 (setRow_heap W6 w.heap.size _ #[.int .i64 2,.int .i64 p.2] 42 (0,0) HAX.out)
 go_wp2
 refine bodyPost_ret (v:=.tuple #[.iface 94 (.slice (some ⟨b,o,none⟩) l.length cap),.agg #[.int .i64 2,.int .i64 p.2]]) ?_ rfl ⟨_,rfl,OB.out,HB.out⟩
 simp [results,Try.results97,go_sem,z0,z1]
theorem do_cell {w:World} {B:Nat} {v:Value} {l:List Int} (op arg data:Int) (hB:B≤w.heap.size) (hown:OwnE w B 3 eI 1 v l) :
    Calls Try.prog 72 #[v,.int .i64 op,.int .i64 arg,.int .i64 data] w (RetDo w B 90 3 eI 1 (doCell l op arg)):=by
  by_cases h:op=22
  · have e:doCell l op arg=([arg],1,0):=by simp [doCell,h]
    rw [e];exact do_cell_post op arg data hB hown h
  · match l, hown with
    | [], hown => have e:doCell [] op arg=([],3,0):=by simp [doCell,h]
                  rw [e];exact do_cell_empty op arg data hB hown h rfl
    | x :: r, hown => have e:doCell (x :: r) op arg=(x :: r,2,x):=by simp [doCell,h]
                      rw [e];exact do_cell_value op arg data hB hown x r h rfl
theorem do_stack {w:World} {B:Nat} {v:Value} {l:List Int} (op arg data:Int) (hB:B≤w.heap.size) (hown:OwnE w B 3 eI 1 v l) (hbig:(l.length+1) * 8≤281474976710648) :
    Calls Try.prog 76 #[v,.int .i64 op,.int .i64 arg,.int .i64 data] w (RetDo w B 91 3 eI 1 (doStack l op arg)):=by
  by_cases h:op=30
  · have e:doStack l op arg=(arg :: l,1,0):=by simp [doStack,h]
    rw [e];exact do_stack_push op arg data hB hown h hbig
  · match l,hown,hbig with
    | [], hown, _ => have e:doStack [] op arg=([],3,0):=by simp [doStack,h]
                     rw [e];exact do_stack_empty op arg data hB hown h rfl
    | x :: r,hown,hbig =>
      have e:doStack (x :: r) op arg=(r,2,x):=by simp [doStack,h]
      rw [e]
      obtain ⟨ba,cap,hv⟩:=hown.form
      by_cases hc:cap=1
      · exact do_stack_take_1 op arg data hB hown x r h rfl (by omega) (fun ba' n' cap' e=>by rw [hv] at e;cases e;exact hc)
      · exact do_stack_take_2 op arg data hB hown x r h rfl (by omega) (fun ba' n' cap' e=>by rw [hv] at e;cases e;exact hc)
theorem do_queue {w:World} {B:Nat} {v:Value} {l:List Int} (op arg data:Int) (hB:B≤w.heap.size) (hown:OwnE w B 3 eI 1 v l) (hbig:(l.length+1) * 8≤140737488355328) :
    Calls Try.prog 79 #[v,.int .i64 op,.int .i64 arg,.int .i64 data] w (RetDo w B 92 3 eI 1 (doQueue l op arg)):=by
  by_cases h:op=40
  · have e:doQueue l op arg=(l++[arg],1,0):=by simp [doQueue,h]
    rw [e];exact do_queue_put op arg data hB hown h hbig
  · match l,hown,hbig with
    | [], hown, _ => have e:doQueue [] op arg=([],3,0):=by simp [doQueue,h]
                     rw [e];exact do_queue_empty op arg data hB hown h rfl
    | x :: r,hown,hbig =>
      have e:doQueue (x :: r) op arg=(r,2,x):=by simp [doQueue,h]
      rw [e]
      obtain ⟨ba,cap,hv⟩:=hown.form
      by_cases hc:cap=1
      · exact do_queue_take_1 op arg data hB hown x r h rfl (by omega) (fun ba' n' cap' e=>by rw [hv] at e;cases e;exact hc)
      · exact do_queue_take_2 op arg data hB hown x r h rfl (by omega) (fun ba' n' cap' e=>by rw [hv] at e;cases e;exact hc)
theorem do_set {w:World} {B:Nat} {v:Value} {l:List Int} (op arg data:Int) (hB:B≤w.heap.size) (hown:OwnE w B 3 eI 1 v l) (hinc:incB l=true) (hbig:(l.length+1) * 8≤140737488355328) :
  Calls Try.prog 82 #[v,.int .i64 op,.int .i64 arg,.int .i64 data] w (RetDo w B 93 3 eI 1 (doSet l op arg)):=by
 unfold doSet
 cases hf:hasB l arg with
 | true =>
  by_cases h:op=50
  ·simp only [if_pos h,if_true];exact do_set_ins_no op arg data hB hown hinc hbig h hf
  ·by_cases h2:op=51
   ·simp only [if_neg h,if_pos h2,if_true];exact do_set_delete op arg data hB hown hinc hbig h2 hf
   ·simp only [if_neg h,if_neg h2,if_true];exact do_set_has op arg data hB hown hinc hbig h h2 hf
 | false =>
  by_cases h:op=50
  ·simp only [if_pos h,Bool.false_eq_true,if_false];exact do_set_insert op arg data hB hown hinc hbig h hf
  ·by_cases h2:op=51
   ·simp only [if_neg h,if_pos h2,Bool.false_eq_true,if_false];exact do_set_del_no op arg data hB hown hinc hbig h2 hf
   ·simp only [if_neg h,if_neg h2,Bool.false_eq_true,if_false];exact do_set_hasno op arg data hB hown hinc hbig h h2 hf
theorem do_table {w:World} {B:Nat} {v:Value} {l:List (Int×Int)} (op arg data:Int) (hB:B≤w.heap.size) (hown:OwnE w B 76 eP 2 v l) (hinc:incB (keys l)=true) (hbig:(l.length+1) * 16≤140737488355328) :
  Calls Try.prog 97 #[v,.int .i64 op,.int .i64 arg,.int .i64 data] w (RetDo w B 94 76 eP 2 (doTable l op arg data)):=by
 unfold doTable
 by_cases h:op=60
 ·cases hf:hasB (keys l) arg with
  | true=>simp only [if_pos h,if_true];exact do_table_add_no op arg data hB hown hinc hbig h hf
  | false=>simp only [if_pos h,Bool.false_eq_true,if_false];exact do_table_add op arg data hB hown hinc hbig h hf
 ·simp only [if_neg h]
  cases hp:l[pos (keys l) arg]? with
  | none =>
   have hk0:(keys l)[pos (keys l) arg]? = none:=by rw [keys,List.getElem?_map,← keys,hp];rfl
   have hf:hasB (keys l) arg=false:=decide_eq_false (by rw [hk0];simp)
   exact do_table_none op arg data hB hown hinc hbig h hf
  | some p =>
   by_cases hk:p.1=arg
   ·simp only [if_pos hk]
    by_cases h2:op=61
    ·simp only [if_pos h2];exact do_table_rem op arg data hB hown hinc hbig h2 p hp hk
    ·simp only [if_neg h2];exact do_table_get op arg data hB hown hinc hbig h h2 p hp hk
   ·have hf:hasB (keys l) arg=false:=decide_eq_false (by rw [keys_at hp];simpa using hk)
    simp only [if_neg hk]
    exact do_table_none op arg data hB hown hinc hbig h hf
end Go.Proofs.Ytgljbdcamagdbaa
namespace Go.Proofs.Ytgljbdcamagdbaa
open Go.RowKit
def NZ (v:Value):Prop:=∃ g n cap,v = .slice (some ⟨g,0,none⟩) n cap∧0<cap
def RetBp {α:Type} (W:World) (B:Nat) (e:TypeId) (enc:α→List Value) (s:Nat) (l:List α) (r:Ending) (w' : World):Prop:=∃ v',r = .returned v'∧OwnE w' B e enc s v' l∧Below B W w'∧NZ v'
theorem OwnE.nz {α:Type} {w:World} {base:Nat} {e:TypeId} {enc:α→List Value} {size:Nat} {v:Value} {xs:List α} (h:OwnE w base e enc size v xs) (hx:xs≠[]):NZ v:=by
 rcases h with ⟨h,_⟩ | h
 ·exact absurd h hx
 ·obtain ⟨_,⟨rfl,h0⟩ | ⟨g,cap,cur,rfl,_,_,hnc,_⟩⟩:=h
  ·exact absurd (List.eq_nil_of_length_eq_zero h0) hx
  ·have:=List.length_pos_iff.2 hx
   exact ⟨g,_,cap,rfl,by omega⟩
set_option maxRecDepth 100000 in
set_option maxHeartbeats 1000000 in
theorem deleteN_set {w:World} {B i:Nat} {v:Value} {l:List Int} (hi:i<l.length) (hown:OwnE w B 3 eI 1 v l) :
  Calls Try.prog 89 #[v,.int .i64 i,.int .i64 ((i:Int)+1)] w (RetBp w B 3 eI 1 (delAt l i)):=by
 rcases hown with ⟨rfl,_⟩ | hown
 ·simp at hi
 obtain ⟨hlen0,⟨rfl,h0⟩ | ⟨g,cap,cur,rfl,hBg,hg,hnc,hcm,hcs,htk⟩⟩:=hown
 ·omega
 obtain ⟨n,hn⟩:∃ n,n=l.length:=⟨_,rfl⟩
 rw [← hn] at hi hnc htk hlen0 ⊢
 have hl:l=l.take i++l[i] :: l.drop (i+1):=by rw [← List.drop_eq_getElem_cons (by omega),List.take_append_drop]
 have hX1:((l.take i).flatMap eI).length=i:=by rw [flat_len eI_ok.len,List.length_take,← hn];omega
 have hX2:((l.drop (i+1)).flatMap eI).length=(n - (i+1)) * 1:=by rw [flat_len eI_ok.len,List.length_drop,← hn]
 have hE:(eI l[i]).length=1:=eI_ok.len _
 have hsplit:l.flatMap eI=(l.take i).flatMap eI++(eI l[i]++(l.drop (i+1)).flatMap eI):=by
  conv=>lhs;rw [hl]
  simp only [List.flatMap_append,List.flatMap_cons]
 obtain ⟨X,eX⟩:∃ X,(l.take i).flatMap eI=X:=⟨_,rfl⟩
 obtain ⟨Y,eY⟩:∃ Y,(l.drop (i+1)).flatMap eI=Y:=⟨_,rfl⟩
 obtain ⟨E,eE⟩:∃ E,eI l[i]=E:=⟨_,rfl⟩
 obtain ⟨S,eS⟩:∃ S,cur.toList.drop (n * 1)=S:=⟨_,rfl⟩
 rw [eX] at hX1
 rw [eY] at hX2
 rw [eE] at hE
 rw [eX,eY,eE] at hsplit
 have hS:S.length=(cap - n) * 1:=by rw [← eS,List.length_drop,Array.length_toList,hcs];omega
 have hcur:cur=(X++(E++(Y++S))).toArray:=by
  have h1:cur.toList=X++(E++(Y++S)):=by rw [← List.append_assoc E,← List.append_assoc X,← hsplit,← htk,← eS,List.take_append_drop]
  rw [← h1]
 subst hcur
 clear hlen0 hcs htk eS hsplit hl
 have hl0:(X++(E++(Y++S))).length=cap * 1:=by simp only [List.length_append,hX1,hX2,hE,hS];omega
 have h1Y:∀ v∈Y,v.oneCell' = true:=fun v hv=>by rw [← eY] at hv;obtain ⟨y,_,h⟩:=List.mem_flatMap.1 hv;exact eI_ok.one y v h
 have hg0:w.drew.heap[g]? = some (.cells (X++(E++(Y++S))).toArray 3 (0,0)):=hg
 have hsrcY:∀ j v,Y[j]? = some v→w.drew.cell? ((⟨g,i+1,none⟩:Addr).add j)=some v:=fun j v hv=>by
  have ea:(⟨g,i+1,none⟩:Addr).add j=⟨g,i+1+j,none⟩:=by unfold Addr.add;split <;> simp_all
  rw [ea,cell_of_row w.drew g (i+1+j) _ _ (0,0) hg0]
  rw [List.getElem?_toArray,List.getElem?_append_right (by rw [hX1];omega),hX1,show i+1+j - i=1+j by omega,List.getElem?_append_right (by rw [hE];omega),hE,show 1+j - 1=j by omega,List.getElem?_append_left (List.getElem?_eq_some_iff.1 hv).1]
  exact hv
 have hnY:Y.length=(n - (i+1)) * 1:=hX2
 have hroom:i+(n - (i+1))≤cap:=by omega
 have hfY:0+i * 1+Y.length≤(X++(E++(Y++S))).length:=by rw [hl0,hX2];omega
 have hl1:(splice (X++(E++(Y++S))) (i) Y).length=(X++(E++(Y++S))).length:=length_splice _ _ _ (by rw [hl0,hX2];omega)
 have hg1:=setRow_heap w.drew g _ (splice (X++(E++(Y++S))) (i) Y).toArray 3 (0,0) hg0
 have hfz:n - 1+1 * 1≤(splice (X++(E++(Y++S))) (i) Y).length:=by rw [hl1,hl0];omega
 have htake:(splice (X++(E++(Y++S))) (i) Y).take ((n - 1) * 1)=(delAt l i).flatMap eI:=by
  have:=splice_mid X (E++(Y++S)) Y (i) hX1
  rw [show (n - 1) * 1=i+Y.length by rw [hX2];omega,this]
  simp only [delAt,List.flatMap_append,eX,eY]
 have hdl:(delAt l i).length=n - 1:=by rw [delAt_len l i (by omega),hn]
 have hret:∀ cs:List Value,cs.length=1 * 1→OwnE ((w.drew.setRow g (splice (X++(E++(Y++S))) (i) Y).toArray).setRow g (splice (splice (X++(E++(Y++S))) (i) Y) (n - 1) cs).toArray) B 3 eI 1 (.slice (some ⟨g,0,none⟩) (n - 1) cap) (delAt l i):=by
  intro cs hc
  refine Or.inr ⟨flat_len eI_ok.len _,Or.inr ⟨g,cap,_,by rw [hdl],hBg,setRow_heap _ g _ _ 3 (0,0) hg1,by rw [hdl];omega,hcm,?_,?_⟩⟩
  ·rw [List.size_toArray,length_splice _ _ _ (by rw [hc];exact hfz),hl1,hl0]
  ·rw [hdl,← htake,List.toList_toArray]
   rw [show (n - 1) * 1=n - 1 by omega]
   exact splice_take _ _ _ (by rw [hl1,hl0];omega)
 have hbel:∀ cs:List Value,Below B w ((w.drew.setRow g (splice (X++(E++(Y++S))) (i) Y).toArray).setRow g (splice (splice (X++(E++(Y++S))) (i) Y) (n - 1) cs).toArray) :=
  fun cs=>below_setRow' (below_setRow' (Below.refl _ _).drew hBg _) hBg _
 have hne:((i:Int) == (i:Int)+1)=false:=by rw [beq_eq_false_iff_ne];omega
 have hi1:(i:Int)+1≤(n:Int):=by omega
 have hi0:(i:Int)≤(i:Int)+1:=by omega
 have hi2:(0:Int)≤(i:Int)+1:=by omega
 have hi3:((i:Int)+1).toNat=i+1:=by omega
 have hi4:(i:Int)≤(cap:Int):=by omega
 have hi5:(n:Int)≤(cap:Int):=by omega
 have hnb:cap≤9223372036854775807:=by unfold maxLen at hcm;omega
 have ei:i+(n - (i+1))=n - 1:=by omega
 have hk0:¬ n=i:=by omega
 have hk1:¬ cap=0:=by omega
 have hk2:¬ cap=n - 1:=by omega
 have hk3:n - (n - 1)=1:=by omega
 have hk4:((n - 1:Nat):Int)≤(n:Int):=by omega
 have HRM:=Lib.hid hroom
 have HG0:=Lib.hid hg0
 have HG1:=Lib.hid hg1
 have HNY:=Lib.hid hnY
 have HSY:=Lib.hid hsrcY
 have HFY:=Lib.hid hfY
 have H1Y:=Lib.hid h1Y
 have HFZ:=Lib.hid hfz
 have HRET:=Lib.hid hret
 have HBEL:=Lib.hid hbel
 have EI:=Lib.hid ei
 clear hg hg0 hg1 hnY hsrcY hfY h1Y hfz hret hbel hl0 hl1 htake hdl hX1 hX2 hE hS eX eY eE hn hBg hroom ei
 by_cases hcp:cap=i+1
 ·have HSY0:Hid (∀ j v,Y[j]? = some v→w.drew.cell? ((⟨g,0,none⟩:Addr).add j)=some v):=fun j v hv=>by
   have h:=(List.getElem?_eq_some_iff.1 hv).1
   have:=HNY.out
   omega
  clear HSY;have HSY:=HSY0;clear HSY0
  subst hcp
  have hn1:n=i+1:=by omega
  subst hn1
  have HNY0:Hid (Y.length=0 * 1):=HNY.out.trans (by omega)
  have HRM0:Hid (i+0≤i+1):=by show _≤_;omega
  go_enter Try.func89,Try.ntmps89
  go_upto_region 5 with (fail)
  go_region_law (refine step_append_rowS (off:=0) (n:=i) (cap:=i+1) (ad:=⟨g,0,none⟩) (m:=0) (c:=0) rfl (.tmp 22) (.tmp 25) 93 rfl zI Try.underlying93 (by simp [Act.eval,Act.put]) (by simp [Act.eval,Act.put]) HG0.out Y HNY0.out HRM0.out HSY.out HFY.out H1Y.out ?_;intro W3 e3;subst e3)
  rw [EI.out] at *
  generalize w.drew.setRow g (splice (X++(E++(Y++S))) (i) Y).toArray=W2 at *
  go_wp2_with (refine wpList_clear_rowS rfl (.tmp 31) 93 rfl zI Try.underlying93 rfl HG1.out (by simp) HFZ.out ?_;intro W3 cs hcs e3;subst e3;have HCS:=Lib.hid hcs;clear hcs)
  go_ret
  exact ⟨_,rfl,HRET.out cs HCS.out,HBEL.out cs,_,_,_,rfl,by omega⟩
 ·skip
  go_enter Try.func89,Try.ntmps89
  go_upto_region 5 with (fail)
  go_region_law (refine step_append_rowS (off:=0) (n:=i) (cap:=cap) (ad:=⟨g,i+1,none⟩) (m:=n - (i+1)) (c:=cap - (i+1)) rfl (.tmp 22) (.tmp 25) 93 rfl zI Try.underlying93 (by simp [Act.eval,Act.put]) (by simp [Act.eval,Act.put]) HG0.out Y HNY.out HRM.out HSY.out HFY.out H1Y.out ?_;intro W3 e3;subst e3)
  rw [EI.out] at *
  generalize w.drew.setRow g (splice (X++(E++(Y++S))) (i) Y).toArray=W2 at *
  go_wp2_with (refine wpList_clear_rowS rfl (.tmp 31) 93 rfl zI Try.underlying93 rfl HG1.out (by simp) HFZ.out ?_;intro W3 cs hcs e3;subst e3;have HCS:=Lib.hid hcs;clear hcs)
  go_ret
  exact ⟨_,rfl,HRET.out cs HCS.out,HBEL.out cs,_,_,_,rfl,by omega⟩
set_option maxRecDepth 100000 in
set_option maxHeartbeats 1000000 in
theorem deleteN_table {w:World} {B i:Nat} {v:Value} {l:List (Int×Int)} (hi:i<l.length) (hown:OwnE w B 76 eP 2 v l) :
  Calls Try.prog 103 #[v,.int .i64 i,.int .i64 ((i:Int)+1)] w (RetBp w B 76 eP 2 (delAt l i)):=by
 rcases hown with ⟨rfl,_⟩ | hown
 ·simp at hi
 obtain ⟨hlen0,⟨rfl,h0⟩ | ⟨g,cap,cur,rfl,hBg,hg,hnc,hcm,hcs,htk⟩⟩:=hown
 ·omega
 obtain ⟨n,hn⟩:∃ n,n=l.length:=⟨_,rfl⟩
 rw [← hn] at hi hnc htk hlen0 ⊢
 have hl:l=l.take i++l[i] :: l.drop (i+1):=by rw [← List.drop_eq_getElem_cons (by omega),List.take_append_drop]
 have hX1:((l.take i).flatMap eP).length=i * 2:=by rw [flat_len eP_ok.len,List.length_take,← hn];omega
 have hX2:((l.drop (i+1)).flatMap eP).length=(n - (i+1)) * 2:=by rw [flat_len eP_ok.len,List.length_drop,← hn]
 have hE:(eP l[i]).length=2:=eP_ok.len _
 have hsplit:l.flatMap eP=(l.take i).flatMap eP++(eP l[i]++(l.drop (i+1)).flatMap eP):=by
  conv=>lhs;rw [hl]
  simp only [List.flatMap_append,List.flatMap_cons]
 obtain ⟨X,eX⟩:∃ X,(l.take i).flatMap eP=X:=⟨_,rfl⟩
 obtain ⟨Y,eY⟩:∃ Y,(l.drop (i+1)).flatMap eP=Y:=⟨_,rfl⟩
 obtain ⟨E,eE⟩:∃ E,eP l[i]=E:=⟨_,rfl⟩
 obtain ⟨S,eS⟩:∃ S,cur.toList.drop (n * 2)=S:=⟨_,rfl⟩
 rw [eX] at hX1
 rw [eY] at hX2
 rw [eE] at hE
 rw [eX,eY,eE] at hsplit
 have hS:S.length=(cap - n) * 2:=by rw [← eS,List.length_drop,Array.length_toList,hcs];omega
 have hcur:cur=(X++(E++(Y++S))).toArray:=by
  have h1:cur.toList=X++(E++(Y++S)):=by rw [← List.append_assoc E,← List.append_assoc X,← hsplit,← htk,← eS,List.take_append_drop]
  rw [← h1]
 subst hcur
 clear hlen0 hcs htk eS hsplit hl
 have hl0:(X++(E++(Y++S))).length=cap * 2:=by simp only [List.length_append,hX1,hX2,hE,hS];omega
 have h1Y:∀ v∈Y,v.oneCell' = true:=fun v hv=>by rw [← eY] at hv;obtain ⟨y,_,h⟩:=List.mem_flatMap.1 hv;exact eP_ok.one y v h
 have hg0:w.drew.heap[g]? = some (.cells (X++(E++(Y++S))).toArray 76 (0,0)):=hg
 have hsrcY:∀ j v,Y[j]? = some v→w.drew.cell? ((⟨g,(i+1) * 2,none⟩:Addr).add j)=some v:=fun j v hv=>by
  have ea:(⟨g,(i+1) * 2,none⟩:Addr).add j=⟨g,(i+1) * 2+j,none⟩:=by unfold Addr.add;split <;> simp_all
  rw [ea,cell_of_row w.drew g ((i+1) * 2+j) _ _ (0,0) hg0]
  rw [List.getElem?_toArray,List.getElem?_append_right (by rw [hX1];omega),hX1,show (i+1) * 2+j - i * 2=2+j by omega,List.getElem?_append_right (by rw [hE];omega),hE,show 2+j - 2=j by omega,List.getElem?_append_left (List.getElem?_eq_some_iff.1 hv).1]
  exact hv
 have hnY:Y.length=(n - (i+1)) * 2:=hX2
 have hroom:i+(n - (i+1))≤cap:=by omega
 have hfY:0+i * 2+Y.length≤(X++(E++(Y++S))).length:=by rw [hl0,hX2];omega
 have hl1:(splice (X++(E++(Y++S))) (i * 2) Y).length=(X++(E++(Y++S))).length:=length_splice _ _ _ (by rw [hl0,hX2];omega)
 have hg1:=setRow_heap w.drew g _ (splice (X++(E++(Y++S))) (i * 2) Y).toArray 76 (0,0) hg0
 have hfz:(n - 1) * 2+1 * 2≤(splice (X++(E++(Y++S))) (i * 2) Y).length:=by rw [hl1,hl0];omega
 have htake:(splice (X++(E++(Y++S))) (i * 2) Y).take ((n - 1) * 2)=(delAt l i).flatMap eP:=by
  have:=splice_mid X (E++(Y++S)) Y (i * 2) hX1
  rw [show (n - 1) * 2=i * 2+Y.length by rw [hX2];omega,this]
  simp only [delAt,List.flatMap_append,eX,eY]
 have hdl:(delAt l i).length=n - 1:=by rw [delAt_len l i (by omega),hn]
 have hret:∀ cs:List Value,cs.length=1 * 2→OwnE ((w.drew.setRow g (splice (X++(E++(Y++S))) (i * 2) Y).toArray).setRow g (splice (splice (X++(E++(Y++S))) (i * 2) Y) ((n - 1) * 2) cs).toArray) B 76 eP 2 (.slice (some ⟨g,0,none⟩) (n - 1) cap) (delAt l i):=by
  intro cs hc
  refine Or.inr ⟨flat_len eP_ok.len _,Or.inr ⟨g,cap,_,by rw [hdl],hBg,setRow_heap _ g _ _ 76 (0,0) hg1,by rw [hdl];omega,hcm,?_,?_⟩⟩
  ·rw [List.size_toArray,length_splice _ _ _ (by rw [hc];exact hfz),hl1,hl0]
  ·rw [hdl,← htake,List.toList_toArray]
   rw [show (n - 1) * 2=(n - 1) * 2 by omega]
   exact splice_take _ _ _ (by rw [hl1,hl0];omega)
 have hbel:∀ cs:List Value,Below B w ((w.drew.setRow g (splice (X++(E++(Y++S))) (i * 2) Y).toArray).setRow g (splice (splice (X++(E++(Y++S))) (i * 2) Y) ((n - 1) * 2) cs).toArray) :=
  fun cs=>below_setRow' (below_setRow' (Below.refl _ _).drew hBg _) hBg _
 have hne:((i:Int) == (i:Int)+1)=false:=by rw [beq_eq_false_iff_ne];omega
 have hi1:(i:Int)+1≤(n:Int):=by omega
 have hi0:(i:Int)≤(i:Int)+1:=by omega
 have hi2:(0:Int)≤(i:Int)+1:=by omega
 have hi3:((i:Int)+1).toNat=i+1:=by omega
 have hi4:(i:Int)≤(cap:Int):=by omega
 have hi5:(n:Int)≤(cap:Int):=by omega
 have hnb:cap≤9223372036854775807:=by unfold maxLen at hcm;omega
 have ei:i+(n - (i+1))=n - 1:=by omega
 have hk0:¬ n=i:=by omega
 have hk1:¬ cap=0:=by omega
 have hk2:¬ cap=n - 1:=by omega
 have hk3:n - (n - 1)=1:=by omega
 have hk4:((n - 1:Nat):Int)≤(n:Int):=by omega
 have HRM:=Lib.hid hroom
 have HG0:=Lib.hid hg0
 have HG1:=Lib.hid hg1
 have HNY:=Lib.hid hnY
 have HSY:=Lib.hid hsrcY
 have HFY:=Lib.hid hfY
 have H1Y:=Lib.hid h1Y
 have HFZ:=Lib.hid hfz
 have HRET:=Lib.hid hret
 have HBEL:=Lib.hid hbel
 have EI:=Lib.hid ei
 clear hg hg0 hg1 hnY hsrcY hfY h1Y hfz hret hbel hl0 hl1 htake hdl hX1 hX2 hE hS eX eY eE hn hBg hroom ei
 by_cases hcp:cap=i+1
 ·have HSY0:Hid (∀ j v,Y[j]? = some v→w.drew.cell? ((⟨g,0,none⟩:Addr).add j)=some v):=fun j v hv=>by
   have h:=(List.getElem?_eq_some_iff.1 hv).1
   have:=HNY.out
   omega
  clear HSY;have HSY:=HSY0;clear HSY0
  subst hcp
  have hn1:n=i+1:=by omega
  subst hn1
  have HNY0:Hid (Y.length=0 * 2):=HNY.out.trans (by omega)
  have HRM0:Hid (i+0≤i+1):=by show _≤_;omega
  go_enter Try.func103,Try.ntmps103
  go_upto_region 5 with (fail)
  go_region_law (refine step_append_rowS (off:=0) (n:=i) (cap:=i+1) (ad:=⟨g,0,none⟩) (m:=0) (c:=0) rfl (.tmp 22) (.tmp 25) 94 rfl zP Try.underlying94 (by simp [Act.eval,Act.put]) (by simp [Act.eval,Act.put]) HG0.out Y HNY0.out HRM0.out HSY.out HFY.out H1Y.out ?_;intro W3 e3;subst e3)
  rw [EI.out] at *
  generalize w.drew.setRow g (splice (X++(E++(Y++S))) (i * 2) Y).toArray=W2 at *
  go_wp2_with (refine wpList_clear_rowS rfl (.tmp 31) 94 rfl zP Try.underlying94 rfl HG1.out (by simp) HFZ.out ?_;intro W3 cs hcs e3;subst e3;have HCS:=Lib.hid hcs;clear hcs)
  go_ret
  exact ⟨_,rfl,HRET.out cs HCS.out,HBEL.out cs,_,_,_,rfl,by omega⟩
 ·skip
  go_enter Try.func103,Try.ntmps103
  go_upto_region 5 with (fail)
  go_region_law (refine step_append_rowS (off:=0) (n:=i) (cap:=cap) (ad:=⟨g,(i+1) * 2,none⟩) (m:=n - (i+1)) (c:=cap - (i+1)) rfl (.tmp 22) (.tmp 25) 94 rfl zP Try.underlying94 (by simp [Act.eval,Act.put]) (by simp [Act.eval,Act.put]) HG0.out Y HNY.out HRM.out HSY.out HFY.out H1Y.out ?_;intro W3 e3;subst e3)
  rw [EI.out] at *
  generalize w.drew.setRow g (splice (X++(E++(Y++S))) (i * 2) Y).toArray=W2 at *
  go_wp2_with (refine wpList_clear_rowS rfl (.tmp 31) 94 rfl zP Try.underlying94 rfl HG1.out (by simp) HFZ.out ?_;intro W3 cs hcs e3;subst e3;have HCS:=Lib.hid hcs;clear hcs)
  go_ret
  exact ⟨_,rfl,HRET.out cs HCS.out,HBEL.out cs,_,_,_,rfl,by omega⟩
end Go.Proofs.Ytgljbdcamagdbaa
