/- ModelOwnSaid: what its proof is made of. No condition. -/
import Derived.Test.YtgljbdcamagdbaaPkModelOwnAD
set_option linter.unusedSimpArgs false
set_option linter.unusedVariables false
namespace Go.Proofs.Ytgljbdcamagdbaa
open Go.RowKit
theorem wpList_append_emptyO {P:Program} {w:World} {ops:Array Oper} {rest:List Oper} {o:Oper} {a:Act} {Q:Exit→Act→World→Prop} (hgd:o.guard=none) (s x:Operand) {t e:TypeId} {size bytes:Nat}
  (ho:o.op = .call { callee:=.builtin .append,args:=#[s,x],argTypes:=#[t,t] }) (T:ElemT P t e size bytes)
  {α:Type} {enc:α→List Value} (E:EncT enc size) {ba:Addr} (hs:a.eval s = .slice (some ba) 0 0)
  {v2:Value} (hx:a.eval x=v2) (hxs:Arr w enc size v2 [])
  (h:∀ v' w',Below w.heap.size w w'→(∃ ba,v' = .slice (some ba) 0 0)→wpList P ops Q rest (a.put o.dst v') w'):wpList P ops Q (o :: rest) a w :=
 wpList_plain hgd fun _ hK=>wp_append_zero s x ho T E hs (arr_empty _ _ _ _) hx hxs (by simp) (by simp) fun v' w' hb h2=>hK _ _ (h v' w' hb (by
  rcases h2 with ⟨h1,h2,_⟩ | ⟨h1,h2⟩
  ·exact ⟨ba,h2⟩
  ·exact absurd rfl h1))
def RetO (W:World) (r:Ending) (w' : World):Prop:=∃ v',r = .returned v'∧(∃ ba,v' = .slice (some ba) 0 0)∧Below W.heap.size W w'
set_option maxRecDepth 100000 in
set_option maxHeartbeats 400000 in
theorem cloneO_stack {ba:Addr} {cap:Nat} {w:World} (h:Arr w eI 1 (.slice (some ba) 0 cap) ([]:List Int)) :
  Calls Try.prog 78 #[.slice (some ba) 0 cap] w (RetO w):=by
 have h0:=h
 clear h
 have H:=Lib.hid h0;clear h0
 have hq:=fun wx=>Lib.run_eql_slice_nil (P:=Try.prog) wx 91 _ (some ba) 0 cap 0 0 Try.underlying91
 ·go_enter Try.func78,Try.ntmps78
  go_wp2_with (at_builtin;refine wpList_append_emptyO rfl (.tmp 5) (.tmp 6) rfl tE_stack eI_ok rfl rfl (H.out.below (below_box _ _)) ?_;intro v' w' hb ho)
  have HO:=Lib.hid ho;clear ho
  go_wp2
  go_ret
  exact ⟨v',rfl,HO.out,below_from (hb.mono (by simp))⟩
set_option maxRecDepth 100000 in
set_option maxHeartbeats 400000 in
theorem cloneO_queue {ba:Addr} {cap:Nat} {w:World} (h:Arr w eI 1 (.slice (some ba) 0 cap) ([]:List Int)) :
  Calls Try.prog 81 #[.slice (some ba) 0 cap] w (RetO w):=by
 have h0:=h
 clear h
 have H:=Lib.hid h0;clear h0
 have hq:=fun wx=>Lib.run_eql_slice_nil (P:=Try.prog) wx 92 _ (some ba) 0 cap 0 0 Try.underlying92
 ·go_enter Try.func81,Try.ntmps81
  go_wp2_with (at_builtin;refine wpList_append_emptyO rfl (.tmp 5) (.tmp 6) rfl tE_queue eI_ok rfl rfl (H.out.below (below_box _ _)) ?_;intro v' w' hb ho)
  have HO:=Lib.hid ho;clear ho
  go_wp2
  go_ret
  exact ⟨v',rfl,HO.out,below_from (hb.mono (by simp))⟩
def RetDoS {α:Type} (W:World) (ti:TypeId) (v:Value) (d:List α×Int×Int) (r:Ending) (w' : World):Prop:=r = .returned (.tuple #[.iface ti v,.agg #[.int .i64 d.2.1,.int .i64 d.2.2]])∧Below W.heap.size W w'
def RetDoN {α:Type} (W:World) (ti e:TypeId) (enc:α→List Value) (s:Nat) (d:List α×Int×Int) (r:Ending) (w' : World):Prop :=
 ∃ v',r = .returned (.tuple #[.iface ti v',.agg #[.int .i64 d.2.1,.int .i64 d.2.2]])∧OwnE w' W.heap.size e enc s v' d.1∧Below W.heap.size W w'∧NZ v'
def RetDoO {α:Type} (W:World) (ti:TypeId) (d:List α×Int×Int) (r:Ending) (w' : World):Prop :=
 ∃ v',r = .returned (.tuple #[.iface ti v',.agg #[.int .i64 d.2.1,.int .i64 d.2.2]])∧(∃ ba,v' = .slice (some ba) 0 0)∧Below W.heap.size W w'
set_option maxRecDepth 100000 in
set_option maxHeartbeats 1000000 in
theorem doS_cell_empty {w:World} {B:Nat} {v:Value} {l:List Int} (op arg data:Int) (_hB:B≤w.heap.size) (hown:OwnE w B 3 eI 1 v l) (hop:¬ op=22) (hl:l=[]) :
  Calls Try.prog 72 #[v,.int .i64 op,.int .i64 arg,.int .i64 data] w (RetDoS w 90 v (([]:List Int),3,0)):=by
 subst hl
 obtain ⟨ba,cap,rfl⟩:=hown.form
 have HOWN:=Lib.hid hown;clear hown
 have C:Hid (∀ k wx,Calls Try.prog 74 #[.int .i64 k] wx (RetA wx k 0)):=told_any
 go_enter Try.func72,Try.ntmps72
 go_wp2_with fail
 obtain ⟨hW,hS,hA⟩:=one_box w #[.int .i64 0,.int .i64 0] 42
 generalize w.alloc (.cells #[.int .i64 0,.int .i64 0] 42)=W1 at *
 (with_reducible refine (C.out _ _).mono ?_)
 rintro r w2 ⟨rfl,hb⟩
 have hA2:=(hb.block w.heap.size (by omega)).trans hA
 have hbw:Below w.heap.size w w2:=hW.trans (hb.mono (by omega))
 have HB:=Lib.hid hbw
 have OB:Hid (OwnE (w2.setRow w.heap.size #[.int .i64 3,.int .i64 0]) B 3 eI 1 (.slice ba ([]:List Int).length cap) []):=HOWN.out.ext (below_setRow' hbw (Nat.le_refl _) _)
 clear hA hb hbw hW
 have HA:=Lib.hid hA2
 obtain ⟨⟨x0,x1⟩,⟨f0,f1⟩⟩:=blk2 hA2
 clear hA2
 go_wp2
 rw [set2 HA.out]
 clear x0 x1 f0 f1
 obtain ⟨⟨z0,z1⟩,_⟩:=blk2 (setRow_heap w2 w.heap.size _ #[.int .i64 3,.int .i64 0] 42 (0,0) HA.out)
 refine bodyPost_ret (v:=.tuple #[.iface 90 (.slice ba 0 cap),.agg #[.int .i64 3,.int .i64 0]]) ?_ rfl ⟨rfl,below_setRow' HB.out (Nat.le_refl _) _⟩
 simp [results,Try.results72,go_sem,z0,z1]
set_option maxRecDepth 100000 in
set_option maxHeartbeats 1000000 in
theorem doS_stack_empty {w:World} {B:Nat} {v:Value} {l:List Int} (op arg data:Int) (_hB:B≤w.heap.size) (hown:OwnE w B 3 eI 1 v l) (hop:¬ op=30) (hl:l=[]) :
  Calls Try.prog 76 #[v,.int .i64 op,.int .i64 arg,.int .i64 data] w (RetDoS w 91 v (([]:List Int),3,0)):=by
 subst hl
 obtain ⟨ba,cap,rfl⟩:=hown.form
 have HOWN:=Lib.hid hown;clear hown
 have C:Hid (∀ k wx,Calls Try.prog 74 #[.int .i64 k] wx (RetA wx k 0)):=told_any
 go_enter Try.func76,Try.ntmps76
 go_wp2_with fail
 obtain ⟨hW,hS,hA⟩:=one_box w #[.int .i64 0,.int .i64 0] 42
 generalize w.alloc (.cells #[.int .i64 0,.int .i64 0] 42)=W1 at *
 (with_reducible refine (C.out _ _).mono ?_)
 rintro r w2 ⟨rfl,hb⟩
 have hA2:=(hb.block w.heap.size (by omega)).trans hA
 have hbw:Below w.heap.size w w2:=hW.trans (hb.mono (by omega))
 have HB:=Lib.hid hbw
 have OB:Hid (OwnE (w2.setRow w.heap.size #[.int .i64 3,.int .i64 0]) B 3 eI 1 (.slice ba ([]:List Int).length cap) []):=HOWN.out.ext (below_setRow' hbw (Nat.le_refl _) _)
 clear hA hb hbw hW
 have HA:=Lib.hid hA2
 obtain ⟨⟨x0,x1⟩,⟨f0,f1⟩⟩:=blk2 hA2
 clear hA2
 go_wp2
 rw [set2 HA.out]
 clear x0 x1 f0 f1
 obtain ⟨⟨z0,z1⟩,_⟩:=blk2 (setRow_heap w2 w.heap.size _ #[.int .i64 3,.int .i64 0] 42 (0,0) HA.out)
 refine bodyPost_ret (v:=.tuple #[.iface 91 (.slice ba 0 cap),.agg #[.int .i64 3,.int .i64 0]]) ?_ rfl ⟨rfl,below_setRow' HB.out (Nat.le_refl _) _⟩
 simp [results,Try.results76,go_sem,z0,z1]
set_option maxRecDepth 100000 in
set_option maxHeartbeats 1000000 in
theorem doS_queue_empty {w:World} {B:Nat} {v:Value} {l:List Int} (op arg data:Int) (_hB:B≤w.heap.size) (hown:OwnE w B 3 eI 1 v l) (hop:¬ op=40) (hl:l=[]) :
  Calls Try.prog 79 #[v,.int .i64 op,.int .i64 arg,.int .i64 data] w (RetDoS w 92 v (([]:List Int),3,0)):=by
 subst hl
 obtain ⟨ba,cap,rfl⟩:=hown.form
 have HOWN:=Lib.hid hown;clear hown
 have C:Hid (∀ k wx,Calls Try.prog 74 #[.int .i64 k] wx (RetA wx k 0)):=told_any
 go_enter Try.func79,Try.ntmps79
 go_wp2_with fail
 obtain ⟨hW,hS,hA⟩:=one_box w #[.int .i64 0,.int .i64 0] 42
 generalize w.alloc (.cells #[.int .i64 0,.int .i64 0] 42)=W1 at *
 (with_reducible refine (C.out _ _).mono ?_)
 rintro r w2 ⟨rfl,hb⟩
 have hA2:=(hb.block w.heap.size (by omega)).trans hA
 have hbw:Below w.heap.size w w2:=hW.trans (hb.mono (by omega))
 have HB:=Lib.hid hbw
 have OB:Hid (OwnE (w2.setRow w.heap.size #[.int .i64 3,.int .i64 0]) B 3 eI 1 (.slice ba ([]:List Int).length cap) []):=HOWN.out.ext (below_setRow' hbw (Nat.le_refl _) _)
 clear hA hb hbw hW
 have HA:=Lib.hid hA2
 obtain ⟨⟨x0,x1⟩,⟨f0,f1⟩⟩:=blk2 hA2
 clear hA2
 go_wp2
 rw [set2 HA.out]
 clear x0 x1 f0 f1
 obtain ⟨⟨z0,z1⟩,_⟩:=blk2 (setRow_heap w2 w.heap.size _ #[.int .i64 3,.int .i64 0] 42 (0,0) HA.out)
 refine bodyPost_ret (v:=.tuple #[.iface 92 (.slice ba 0 cap),.agg #[.int .i64 3,.int .i64 0]]) ?_ rfl ⟨rfl,below_setRow' HB.out (Nat.le_refl _) _⟩
 simp [results,Try.results79,go_sem,z0,z1]
set_option maxRecDepth 100000 in
set_option maxHeartbeats 1000000 in
theorem doS_cell_value {w:World} {B:Nat} {v:Value} {l:List Int} (op arg data:Int) (_hB:B≤w.heap.size) (hown:OwnE w B 3 eI 1 v l) (x:Int) (r:List Int) (hop:¬ op=22) (hl:l=x :: r) :
  Calls Try.prog 72 #[v,.int .i64 op,.int .i64 arg,.int .i64 data] w (RetDoS w 90 v (x :: r,2,x)):=by
 subst hl
 obtain ⟨ba,cap,rfl,hlc,hcm,g⟩:=(hown.arr eI_ok).at1
 obtain ⟨b,o,rfl,hb1,c1⟩:=g 0 x rfl
 have HOWN:=Lib.hid hown;clear hown
 rw [Nat.add_zero] at c1
 have hpos:¬ ((r.length:Int)+1=0):=by omega
 have c2:=keeps_below (below_box w (.cells #[.int .i64 0,.int .i64 0] 42)) _ _ c1
 clear g
 have C:Hid (∀ k wx,Calls Try.prog 75 #[.int .i64 k] wx (RetA wx 2 k)):=value_any
 go_enter Try.func72,Try.ntmps72
 go_wp2_with fail
 obtain ⟨hW,hS,hA⟩:=one_box w #[.int .i64 0,.int .i64 0] 42
 generalize w.alloc (.cells #[.int .i64 0,.int .i64 0] 42)=W1 at *
 (with_reducible refine (C.out _ _).mono ?_)
 rintro r w2 ⟨rfl,hb⟩
 have hA2:=(hb.block w.heap.size (by omega)).trans hA
 have hbw:Below w.heap.size w w2:=hW.trans (hb.mono (by omega))
 have HB:=Lib.hid hbw
 have OB:Hid (OwnE (w2.setRow w.heap.size #[.int .i64 2,.int .i64 x]) B 3 eI 1 (.slice (some ⟨b,o,none⟩) (x :: r).length cap) (x :: r)):=HOWN.out.ext (below_setRow' hbw (Nat.le_refl _) _)
 clear hA hb hbw hW
 have HA:=Lib.hid hA2
 obtain ⟨⟨x0,x1⟩,⟨f0,f1⟩⟩:=blk2 hA2
 clear hA2
 go_wp2
 rw [set2 HA.out]
 clear x0 x1 f0 f1
 obtain ⟨⟨z0,z1⟩,_⟩:=blk2 (setRow_heap w2 w.heap.size _ #[.int .i64 2,.int .i64 x] 42 (0,0) HA.out)
 refine bodyPost_ret (v:=.tuple #[.iface 90 (.slice (some ⟨b,o,none⟩) (r.length+1) cap),.agg #[.int .i64 2,.int .i64 x]]) ?_ rfl ⟨rfl,below_setRow' HB.out (Nat.le_refl _) _⟩
 simp [results,Try.results72,go_sem,z0,z1]
set_option maxRecDepth 100000 in
set_option maxHeartbeats 1000000 in
theorem doS_set_ins_no {w:World} {B:Nat} {v:Value} {l:List Int} (op arg data:Int) (_hB:B≤w.heap.size) (hown:OwnE w B 3 eI 1 v l) (hinc:incB l=true) (hsm:(l.length+1) * 8≤140737488355328) (hop:op=50) (hf:hasB l arg=true) :
  Calls Try.prog 82 #[v,.int .i64 op,.int .i64 arg,.int .i64 data] w (RetDoS w 93 v (l,6,0)):=by
 subst hop
 have hA0:=hown.arr eI_ok
 obtain ⟨ba,cap,rfl⟩:=hown.form
 have HOWN:=Lib.hid hown;clear hown
 have S:Hid (∀ wx,Below w.heap.size w wx→Calls Try.prog 85 #[.slice ba l.length cap,.int .i64 arg] wx (RetS wx (l) arg)):=fun wx hb=>search_set (hA0.below hb) hinc (by omega)
 clear hA0
 have C:Hid (∀ b wx,Calls Try.prog 88 #[.bool b] wx (RetA wx (if b then 5 else 6) 0)):=yes_any
 go_enter Try.func82,Try.ntmps82
 go_wp2_with fail
 obtain ⟨hW,hS,hA⟩:=one_box w #[.int .i64 0,.int .i64 0] 42
 generalize w.alloc (.cells #[.int .i64 0,.int .i64 0] 42)=W1 at *
 (with_reducible refine (S.out _ hW).mono ?_)
 rintro r w1 ⟨i,rfl,hp,hb⟩
 have hi:=hp.eq
 have hil:=hp.le
 subst hi
 clear hp
 have hW1:=hW.trans (hb.mono (by omega))
 have hA1:=(hb.block w.heap.size (by omega)).trans hA
 have hs1:w.heap.size<w1.heap.size:=by have:=hb.size;omega
 clear hW hA hb S
 have hd:decide (l[pos l arg]? = some arg)=true:=hf
 rw [hd]
 clear hd hf
 go_wp2_with fail
 have hW:=hW1
 have hA:=hA1
 (with_reducible refine (C.out _ _).mono ?_)
 rintro r w2 ⟨rfl,hb⟩
 have hA2:=(hb.block w.heap.size (by omega)).trans hA
 have hbw:Below w.heap.size w w2:=hW.trans (hb.mono (by omega))
 have HB:=Lib.hid hbw
 have OB:Hid (OwnE (w2.setRow w.heap.size #[.int .i64 6,.int .i64 0]) B 3 eI 1 (.slice ba l.length cap) l):=HOWN.out.ext (below_setRow' hbw (Nat.le_refl _) _)
 clear hA hb hbw hW hW1 hA1
 have HA:=Lib.hid hA2
 obtain ⟨⟨x0,x1⟩,⟨f0,f1⟩⟩:=blk2 hA2
 clear hA2
 go_wp2
 rw [set2 HA.out]
 clear x0 x1 f0 f1
 obtain ⟨⟨z0,z1⟩,_⟩:=blk2 (setRow_heap w2 w.heap.size _ #[.int .i64 6,.int .i64 0] 42 (0,0) HA.out)
 refine bodyPost_ret (v:=.tuple #[.iface 93 (.slice ba l.length cap),.agg #[.int .i64 6,.int .i64 0]]) ?_ rfl ⟨rfl,below_setRow' HB.out (Nat.le_refl _) _⟩
 simp [results,Try.results82,go_sem,z0,z1]
set_option maxRecDepth 100000 in
set_option maxHeartbeats 1000000 in
theorem doS_set_del_no {w:World} {B:Nat} {v:Value} {l:List Int} (op arg data:Int) (_hB:B≤w.heap.size) (hown:OwnE w B 3 eI 1 v l) (hinc:incB l=true) (hsm:(l.length+1) * 8≤140737488355328) (hop:op=51) (hf:hasB l arg=false) :
  Calls Try.prog 82 #[v,.int .i64 op,.int .i64 arg,.int .i64 data] w (RetDoS w 93 v (l,6,0)):=by
 subst hop
 have hA0:=hown.arr eI_ok
 obtain ⟨ba,cap,rfl⟩:=hown.form
 have HOWN:=Lib.hid hown;clear hown
 have S:Hid (∀ wx,Below w.heap.size w wx→Calls Try.prog 85 #[.slice ba l.length cap,.int .i64 arg] wx (RetS wx (l) arg)):=fun wx hb=>search_set (hA0.below hb) hinc (by omega)
 clear hA0
 have C:Hid (∀ b wx,Calls Try.prog 88 #[.bool b] wx (RetA wx (if b then 5 else 6) 0)):=yes_any
 go_enter Try.func82,Try.ntmps82
 go_wp2_with fail
 obtain ⟨hW,hS,hA⟩:=one_box w #[.int .i64 0,.int .i64 0] 42
 generalize w.alloc (.cells #[.int .i64 0,.int .i64 0] 42)=W1 at *
 (with_reducible refine (S.out _ hW).mono ?_)
 rintro r w1 ⟨i,rfl,hp,hb⟩
 have hi:=hp.eq
 have hil:=hp.le
 subst hi
 clear hp
 have hW1:=hW.trans (hb.mono (by omega))
 have hA1:=(hb.block w.heap.size (by omega)).trans hA
 have hs1:w.heap.size<w1.heap.size:=by have:=hb.size;omega
 clear hW hA hb S
 have hd:decide (l[pos l arg]? = some arg)=false:=hf
 rw [hd]
 clear hd hf
 go_wp2_with fail
 have hW:=hW1
 have hA:=hA1
 (with_reducible refine (C.out _ _).mono ?_)
 rintro r w2 ⟨rfl,hb⟩
 have hA2:=(hb.block w.heap.size (by omega)).trans hA
 have hbw:Below w.heap.size w w2:=hW.trans (hb.mono (by omega))
 have HB:=Lib.hid hbw
 have OB:Hid (OwnE (w2.setRow w.heap.size #[.int .i64 6,.int .i64 0]) B 3 eI 1 (.slice ba l.length cap) l):=HOWN.out.ext (below_setRow' hbw (Nat.le_refl _) _)
 clear hA hb hbw hW hW1 hA1
 have HA:=Lib.hid hA2
 obtain ⟨⟨x0,x1⟩,⟨f0,f1⟩⟩:=blk2 hA2
 clear hA2
 go_wp2
 rw [set2 HA.out]
 clear x0 x1 f0 f1
 obtain ⟨⟨z0,z1⟩,_⟩:=blk2 (setRow_heap w2 w.heap.size _ #[.int .i64 6,.int .i64 0] 42 (0,0) HA.out)
 refine bodyPost_ret (v:=.tuple #[.iface 93 (.slice ba l.length cap),.agg #[.int .i64 6,.int .i64 0]]) ?_ rfl ⟨rfl,below_setRow' HB.out (Nat.le_refl _) _⟩
 simp [results,Try.results82,go_sem,z0,z1]
set_option maxRecDepth 100000 in
set_option maxHeartbeats 1000000 in
theorem doS_set_has {w:World} {B:Nat} {v:Value} {l:List Int} (op arg data:Int) (_hB:B≤w.heap.size) (hown:OwnE w B 3 eI 1 v l) (hinc:incB l=true) (hsm:(l.length+1) * 8≤140737488355328) (hop:¬ op=50) (hop2:¬ op=51) (hf:hasB l arg=true) :
  Calls Try.prog 82 #[v,.int .i64 op,.int .i64 arg,.int .i64 data] w (RetDoS w 93 v (l,5,0)):=by
 have hA0:=hown.arr eI_ok
 obtain ⟨ba,cap,rfl⟩:=hown.form
 have HOWN:=Lib.hid hown;clear hown
 have S:Hid (∀ wx,Below w.heap.size w wx→Calls Try.prog 85 #[.slice ba l.length cap,.int .i64 arg] wx (RetS wx (l) arg)):=fun wx hb=>search_set (hA0.below hb) hinc (by omega)
 clear hA0
 have C:Hid (∀ b wx,Calls Try.prog 88 #[.bool b] wx (RetA wx (if b then 5 else 6) 0)):=yes_any
 go_enter Try.func82,Try.ntmps82
 go_wp2_with fail
 obtain ⟨hW,hS,hA⟩:=one_box w #[.int .i64 0,.int .i64 0] 42
 generalize w.alloc (.cells #[.int .i64 0,.int .i64 0] 42)=W1 at *
 (with_reducible refine (S.out _ hW).mono ?_)
 rintro r w1 ⟨i,rfl,hp,hb⟩
 have hi:=hp.eq
 have hil:=hp.le
 subst hi
 clear hp
 have hW1:=hW.trans (hb.mono (by omega))
 have hA1:=(hb.block w.heap.size (by omega)).trans hA
 have hs1:w.heap.size<w1.heap.size:=by have:=hb.size;omega
 clear hW hA hb S
 have hd:decide (l[pos l arg]? = some arg)=true:=hf
 rw [hd]
 clear hd hf
 go_wp2_with fail
 have hW:=hW1
 have hA:=hA1
 (with_reducible refine (C.out _ _).mono ?_)
 rintro r w2 ⟨rfl,hb⟩
 have hA2:=(hb.block w.heap.size (by omega)).trans hA
 have hbw:Below w.heap.size w w2:=hW.trans (hb.mono (by omega))
 have HB:=Lib.hid hbw
 have OB:Hid (OwnE (w2.setRow w.heap.size #[.int .i64 5,.int .i64 0]) B 3 eI 1 (.slice ba l.length cap) l):=HOWN.out.ext (below_setRow' hbw (Nat.le_refl _) _)
 clear hA hb hbw hW hW1 hA1
 have HA:=Lib.hid hA2
 obtain ⟨⟨x0,x1⟩,⟨f0,f1⟩⟩:=blk2 hA2
 clear hA2
 go_wp2
 rw [set2 HA.out]
 clear x0 x1 f0 f1
 obtain ⟨⟨z0,z1⟩,_⟩:=blk2 (setRow_heap w2 w.heap.size _ #[.int .i64 5,.int .i64 0] 42 (0,0) HA.out)
 refine bodyPost_ret (v:=.tuple #[.iface 93 (.slice ba l.length cap),.agg #[.int .i64 5,.int .i64 0]]) ?_ rfl ⟨rfl,below_setRow' HB.out (Nat.le_refl _) _⟩
 simp [results,Try.results82,go_sem,z0,z1]
set_option maxRecDepth 100000 in
set_option maxHeartbeats 1000000 in
theorem doS_set_hasno {w:World} {B:Nat} {v:Value} {l:List Int} (op arg data:Int) (_hB:B≤w.heap.size) (hown:OwnE w B 3 eI 1 v l) (hinc:incB l=true) (hsm:(l.length+1) * 8≤140737488355328) (hop:¬ op=50) (hop2:¬ op=51) (hf:hasB l arg=false) :
  Calls Try.prog 82 #[v,.int .i64 op,.int .i64 arg,.int .i64 data] w (RetDoS w 93 v (l,6,0)):=by
 have hA0:=hown.arr eI_ok
 obtain ⟨ba,cap,rfl⟩:=hown.form
 have HOWN:=Lib.hid hown;clear hown
 have S:Hid (∀ wx,Below w.heap.size w wx→Calls Try.prog 85 #[.slice ba l.length cap,.int .i64 arg] wx (RetS wx (l) arg)):=fun wx hb=>search_set (hA0.below hb) hinc (by omega)
 clear hA0
 have C:Hid (∀ b wx,Calls Try.prog 88 #[.bool b] wx (RetA wx (if b then 5 else 6) 0)):=yes_any
 go_enter Try.func82,Try.ntmps82
 go_wp2_with fail
 obtain ⟨hW,hS,hA⟩:=one_box w #[.int .i64 0,.int .i64 0] 42
 generalize w.alloc (.cells #[.int .i64 0,.int .i64 0] 42)=W1 at *
 (with_reducible refine (S.out _ hW).mono ?_)
 rintro r w1 ⟨i,rfl,hp,hb⟩
 have hi:=hp.eq
 have hil:=hp.le
 subst hi
 clear hp
 have hW1:=hW.trans (hb.mono (by omega))
 have hA1:=(hb.block w.heap.size (by omega)).trans hA
 have hs1:w.heap.size<w1.heap.size:=by have:=hb.size;omega
 clear hW hA hb S
 have hd:decide (l[pos l arg]? = some arg)=false:=hf
 rw [hd]
 clear hd hf
 go_wp2_with fail
 have hW:=hW1
 have hA:=hA1
 (with_reducible refine (C.out _ _).mono ?_)
 rintro r w2 ⟨rfl,hb⟩
 have hA2:=(hb.block w.heap.size (by omega)).trans hA
 have hbw:Below w.heap.size w w2:=hW.trans (hb.mono (by omega))
 have HB:=Lib.hid hbw
 have OB:Hid (OwnE (w2.setRow w.heap.size #[.int .i64 6,.int .i64 0]) B 3 eI 1 (.slice ba l.length cap) l):=HOWN.out.ext (below_setRow' hbw (Nat.le_refl _) _)
 clear hA hb hbw hW hW1 hA1
 have HA:=Lib.hid hA2
 obtain ⟨⟨x0,x1⟩,⟨f0,f1⟩⟩:=blk2 hA2
 clear hA2
 go_wp2
 rw [set2 HA.out]
 clear x0 x1 f0 f1
 obtain ⟨⟨z0,z1⟩,_⟩:=blk2 (setRow_heap w2 w.heap.size _ #[.int .i64 6,.int .i64 0] 42 (0,0) HA.out)
 refine bodyPost_ret (v:=.tuple #[.iface 93 (.slice ba l.length cap),.agg #[.int .i64 6,.int .i64 0]]) ?_ rfl ⟨rfl,below_setRow' HB.out (Nat.le_refl _) _⟩
 simp [results,Try.results82,go_sem,z0,z1]
set_option maxRecDepth 100000 in
set_option maxHeartbeats 1000000 in
theorem doS_table_add_no {w:World} {B:Nat} {v:Value} {l:List (Int×Int)} (op arg data:Int) (_hB:B≤w.heap.size) (hown:OwnE w B 76 eP 2 v l) (hinc:incB (keys l)=true) (hsm:(l.length+1) * 16≤140737488355328) (hop:op=60) (hf:hasB (keys l) arg=true) :
  Calls Try.prog 97 #[v,.int .i64 op,.int .i64 arg,.int .i64 data] w (RetDoS w 94 v (l,6,0)):=by
 subst hop
 have hA0:=hown.arr eP_ok
 obtain ⟨ba,cap,rfl⟩:=hown.form
 have HOWN:=Lib.hid hown;clear hown
 have S:Hid (∀ wx,Below w.heap.size w wx→Calls Try.prog 100 #[.slice ba l.length cap,.int .i64 arg] wx (RetS wx (keys l) arg)):=fun wx hb=>tableFind (hA0.below hb) hinc (by omega)
 clear hA0
 have C:Hid (∀ b wx,Calls Try.prog 88 #[.bool b] wx (RetA wx (if b then 5 else 6) 0)):=yes_any
 go_enter Try.func97,Try.ntmps97
 go_wp2_with fail
 obtain ⟨hW,hS,hA⟩:=one_box w #[.int .i64 0,.int .i64 0] 42
 generalize w.alloc (.cells #[.int .i64 0,.int .i64 0] 42)=W1 at *
 (with_reducible refine (S.out _ hW).mono ?_)
 rintro r w1 ⟨i,rfl,hp,hb⟩
 have hi:=hp.eq
 have hil:i≤l.length:=by have:=hp.le;simpa [keys] using this
 subst hi
 clear hp
 have hW1:=hW.trans (hb.mono (by omega))
 have hA1:=(hb.block w.heap.size (by omega)).trans hA
 have hs1:w.heap.size<w1.heap.size:=by have:=hb.size;omega
 clear hW hA hb S
 have hd:decide ((keys l)[pos (keys l) arg]? = some arg)=true:=hf
 rw [hd]
 clear hd
 clear hf
 go_wp2_with fail
 have hW:=hW1
 have hA:=hA1
 (with_reducible refine (C.out _ _).mono ?_)
 rintro r w2 ⟨rfl,hb⟩
 have hA2:=(hb.block w.heap.size (by omega)).trans hA
 have hbw:Below w.heap.size w w2:=hW.trans (hb.mono (by omega))
 have HB:=Lib.hid hbw
 have OB:Hid (OwnE (w2.setRow w.heap.size #[.int .i64 6,.int .i64 0]) B 76 eP 2 (.slice ba l.length cap) l):=HOWN.out.ext (below_setRow' hbw (Nat.le_refl _) _)
 clear hA hb hbw hW hW1 hA1
 have HA:=Lib.hid hA2
 obtain ⟨⟨x0,x1⟩,⟨f0,f1⟩⟩:=blk2 hA2
 clear hA2
 go_wp2
 rw [set2 HA.out]
 clear x0 x1 f0 f1
 obtain ⟨⟨z0,z1⟩,_⟩:=blk2 (setRow_heap w2 w.heap.size _ #[.int .i64 6,.int .i64 0] 42 (0,0) HA.out)
 refine bodyPost_ret (v:=.tuple #[.iface 94 (.slice ba l.length cap),.agg #[.int .i64 6,.int .i64 0]]) ?_ rfl ⟨rfl,below_setRow' HB.out (Nat.le_refl _) _⟩
 simp [results,Try.results97,go_sem,z0,z1]
set_option maxRecDepth 100000 in
set_option maxHeartbeats 1000000 in
theorem doS_table_none {w:World} {B:Nat} {v:Value} {l:List (Int×Int)} (op arg data:Int) (_hB:B≤w.heap.size) (hown:OwnE w B 76 eP 2 v l) (hinc:incB (keys l)=true) (hsm:(l.length+1) * 16≤140737488355328) (hop:¬ op=60) (hf:hasB (keys l) arg=false) :
  Calls Try.prog 97 #[v,.int .i64 op,.int .i64 arg,.int .i64 data] w (RetDoS w 94 v (l,6,0)):=by
 have hA0:=hown.arr eP_ok
 obtain ⟨ba,cap,rfl⟩:=hown.form
 have HOWN:=Lib.hid hown;clear hown
 have S:Hid (∀ wx,Below w.heap.size w wx→Calls Try.prog 100 #[.slice ba l.length cap,.int .i64 arg] wx (RetS wx (keys l) arg)):=fun wx hb=>tableFind (hA0.below hb) hinc (by omega)
 clear hA0
 have C:Hid (∀ b wx,Calls Try.prog 88 #[.bool b] wx (RetA wx (if b then 5 else 6) 0)):=yes_any
 go_enter Try.func97,Try.ntmps97
 go_wp2_with fail
 obtain ⟨hW,hS,hA⟩:=one_box w #[.int .i64 0,.int .i64 0] 42
 generalize w.alloc (.cells #[.int .i64 0,.int .i64 0] 42)=W1 at *
 (with_reducible refine (S.out _ hW).mono ?_)
 rintro r w1 ⟨i,rfl,hp,hb⟩
 have hi:=hp.eq
 have hil:i≤l.length:=by have:=hp.le;simpa [keys] using this
 subst hi
 clear hp
 have hW1:=hW.trans (hb.mono (by omega))
 have hA1:=(hb.block w.heap.size (by omega)).trans hA
 have hs1:w.heap.size<w1.heap.size:=by have:=hb.size;omega
 clear hW hA hb S
 have hd:decide ((keys l)[pos (keys l) arg]? = some arg)=false:=hf
 rw [hd]
 clear hd
 clear hf
 go_wp2_with fail
 have hW:=hW1
 have hA:=hA1
 (with_reducible refine (C.out _ _).mono ?_)
 rintro r w2 ⟨rfl,hb⟩
 have hA2:=(hb.block w.heap.size (by omega)).trans hA
 have hbw:Below w.heap.size w w2:=hW.trans (hb.mono (by omega))
 have HB:=Lib.hid hbw
 have OB:Hid (OwnE (w2.setRow w.heap.size #[.int .i64 6,.int .i64 0]) B 76 eP 2 (.slice ba l.length cap) l):=HOWN.out.ext (below_setRow' hbw (Nat.le_refl _) _)
 clear hA hb hbw hW hW1 hA1
 have HA:=Lib.hid hA2
 obtain ⟨⟨x0,x1⟩,⟨f0,f1⟩⟩:=blk2 hA2
 clear hA2
 go_wp2
 rw [set2 HA.out]
 clear x0 x1 f0 f1
 obtain ⟨⟨z0,z1⟩,_⟩:=blk2 (setRow_heap w2 w.heap.size _ #[.int .i64 6,.int .i64 0] 42 (0,0) HA.out)
 refine bodyPost_ret (v:=.tuple #[.iface 94 (.slice ba l.length cap),.agg #[.int .i64 6,.int .i64 0]]) ?_ rfl ⟨rfl,below_setRow' HB.out (Nat.le_refl _) _⟩
 simp [results,Try.results97,go_sem,z0,z1]
set_option maxRecDepth 100000 in
set_option maxHeartbeats 1000000 in
theorem doS_table_get {w:World} {B:Nat} {v:Value} {l:List (Int×Int)} (op arg data:Int) (_hB:B≤w.heap.size) (hown:OwnE w B 76 eP 2 v l) (hinc:incB (keys l)=true) (hsm:(l.length+1) * 16≤140737488355328) (hop:¬ op=60) (hop2:¬ op=61) (p:Int×Int) (hp:l[pos (keys l) arg]? = some p) (hpk:p.1=arg) :
  Calls Try.prog 97 #[v,.int .i64 op,.int .i64 arg,.int .i64 data] w (RetDoS w 94 v (l,2,p.2)):=by
 have hf:hasB (keys l) arg=true:=decide_eq_true (by rw [keys_at hp,hpk])
 have hlt:pos (keys l) arg<l.length:=(List.getElem?_eq_some_iff.1 hp).1
 have hpb:((pos (keys l) arg:Nat):Int)+1≤9223372036854775807:=by omega
 have hlt2:((pos (keys l) arg:Nat):Int)<(l.length:Int):=by omega
 have hA0:=hown.arr eP_ok
 obtain ⟨ba,cap,rfl,hlc,hcm,g⟩:=(hown.arr eP_ok).at2
 obtain ⟨b,o,rfl,hb1,c1,c2⟩:=g _ p hp
 have HOWN:=Lib.hid hown;clear hown
 have S:Hid (∀ wx,Below w.heap.size w wx→Calls Try.prog 100 #[.slice (some ⟨b,o,none⟩) l.length cap,.int .i64 arg] wx (RetS wx (keys l) arg)):=fun wx hb=>tableFind (hA0.below hb) hinc (by omega)
 have HC2:=Lib.hid c2
 clear hA0 g c1 c2 hp hpk
 have C:Hid (∀ k wx,Calls Try.prog 75 #[.int .i64 k] wx (RetA wx 2 k)):=value_any
 go_enter Try.func97,Try.ntmps97
 go_wp2_with fail
 obtain ⟨hW,hS,hA⟩:=one_box w #[.int .i64 0,.int .i64 0] 42
 generalize w.alloc (.cells #[.int .i64 0,.int .i64 0] 42)=W1 at *
 (with_reducible refine (S.out _ hW).mono ?_)
 rintro r w1 ⟨i,rfl,hp,hb⟩
 have hi:=hp.eq
 have hil:i≤l.length:=by have:=hp.le;simpa [keys] using this
 subst hi
 clear hp
 have hW1:=hW.trans (hb.mono (by omega))
 have hA1:=(hb.block w.heap.size (by omega)).trans hA
 have hs1:w.heap.size<w1.heap.size:=by have:=hb.size;omega
 clear hW hA hb S
 have hd:decide ((keys l)[pos (keys l) arg]? = some arg)=true:=hf
 rw [hd]
 clear hd
 clear hf
 have d2:=(hW1.cell (by exact hb1)).trans HC2.out
 clear hpb hcm hlc hlt
 go_wp2_with fail
 (with_reducible refine (C.out _ _).mono ?_)
 rintro r w5 ⟨rfl,hb⟩
 have hW5:=hW1.trans (hb.mono (by omega))
 have hA5:=(hb.block w.heap.size hs1).trans hA1
 have hs5:=hb.size
 clear hW1 hA1 hb d2
 go_wp2_with fail
 obtain ⟨hW6,hS6,hT6⟩:=one_box w5 #[.int .i64 2,.int .i64 p.2] 42
 generalize w5.alloc (.cells #[.int .i64 2,.int .i64 p.2] 42)=W6 at *
 have hW:=hW5.trans (hW6.mono (by omega))
 have HAX:=Lib.hid ((hW6.block w.heap.size (by omega)).trans hA5)
 have HTX:=Lib.hid hT6
 clear hA5 hW5 hT6 hW6
 have hbd:Below W6.heap.size W6 W6.drew:=(Below.refl _ _).drew
 have hbw:Below w.heap.size w W6.drew:=hW.trans (hbd.mono (by omega))
 have hnt:w5.heap.size≠w.heap.size:=by omega
 have hlt6:w5.heap.size<W6.heap.size:=by omega
 have hA2:=(hbd.block w.heap.size (by omega)).trans HAX.out
 obtain ⟨⟨x0,x1⟩,⟨f0,f1⟩⟩:=blk2 HAX.out
 have HA2:=Lib.hid hA2;clear hA2
 go_region_held3 (fun w'=>w'.cell? ⟨w5.heap.size,0,none⟩=some (.int .i64 2)∧w'.cell? ⟨w5.heap.size,1,none⟩=some (.int .i64 p.2)) (first | (go_keep;done) | (with_reducible exact (blk2 ((hbd.block _ hlt6).trans HTX.out)).1) | (with_reducible exact ⟨cell_set2 HA2.out (blk2 ((hbd.block _ hlt6).trans HTX.out)).1.1 hnt,cell_set2 HA2.out (blk2 ((hbd.block _ hlt6).trans HTX.out)).1.2 hnt⟩) | (exact ⟨cell_set2 HAX.out (blk2 HTX.out).1.1 hnt,cell_set2 HAX.out (blk2 HTX.out).1.2 hnt⟩))
  (fail)
 have HB:Hid (Below w.heap.size w (W6.setRow w.heap.size #[.int .i64 2,.int .i64 p.2]).drew):=(below_setRow' hW (Nat.le_refl _) _).drew
 have OB:Hid (OwnE (W6.setRow w.heap.size #[.int .i64 2,.int .i64 p.2]).drew B 76 eP 2 (.slice (some ⟨b,o,none⟩) l.length cap) l):=HOWN.out.ext HB.out
 rw [set2 HAX.out]
 clear x0 x1 f0 f1
 obtain ⟨⟨z0,z1⟩,_⟩:=blk2 (setRow_heap W6 w.heap.size _ #[.int .i64 2,.int .i64 p.2] 42 (0,0) HAX.out)
 go_wp2
 refine bodyPost_ret (v:=.tuple #[.iface 94 (.slice (some ⟨b,o,none⟩) l.length cap),.agg #[.int .i64 2,.int .i64 p.2]]) ?_ rfl ⟨rfl,HB.out⟩
 simp [results,Try.results97,go_sem,z0,z1]
set_option maxRecDepth 100000 in
set_option maxHeartbeats 1000000 in
theorem doN_cell_post {w:World} {B:Nat} {v:Value} {l:List Int} (op arg data:Int) (_hB:B≤w.heap.size) (hown:OwnE w B 3 eI 1 v l) (hop:op=22) :
  Calls Try.prog 72 #[v,.int .i64 op,.int .i64 arg,.int .i64 data] w (RetDoN w 90 3 eI 1 ([arg],1,0)):=by
 subst hop
 obtain ⟨ba,cap,rfl⟩:=hown.form
 clear hown
 have C:Hid (∀ k wx,Calls Try.prog 74 #[.int .i64 k] wx (RetA wx k 0)):=told_any
 go_enter Try.func72,Try.ntmps72
 go_wp2_with fail
 obtain ⟨hW,hS,hA,hL⟩:=two_boxes w #[.int .i64 0,.int .i64 0] #[.int .i64 arg] 42 3
 generalize (w.alloc (.cells #[.int .i64 0,.int .i64 0] 42)).alloc (.cells #[.int .i64 arg] 3)=W1 at *
 (with_reducible refine (C.out _ _).mono ?_)
 rintro r w2 ⟨rfl,hb⟩
 have hA2:=(hb.block w.heap.size (by omega)).trans hA
 have hbw:Below w.heap.size w w2:=hW.trans (hb.mono (by omega))
 have HB:=Lib.hid hbw
 have hL2:=(hb.block (w.heap.size+1) (by omega)).trans hL
 have OB:Hid (OwnE (w2.setRow w.heap.size #[.int .i64 1,.int .i64 0]) w.heap.size 3 eI 1 (.slice (some ⟨w.heap.size+1,0,none⟩) 1 1) [arg]):=own_one eI_ok ((setRow_other _ _ _ _ (by omega)).trans hL2) (by omega)
 clear hA hb hbw hW hL hL2
 have HA:=Lib.hid hA2
 obtain ⟨⟨x0,x1⟩,⟨f0,f1⟩⟩:=blk2 hA2
 clear hA2
 go_wp2
 rw [set2 HA.out]
 clear x0 x1 f0 f1
 obtain ⟨⟨z0,z1⟩,_⟩:=blk2 (setRow_heap w2 w.heap.size _ #[.int .i64 1,.int .i64 0] 42 (0,0) HA.out)
 refine bodyPost_ret (v:=.tuple #[.iface 90 (.slice (some ⟨w.heap.size+1,0,none⟩) 1 1),.agg #[.int .i64 1,.int .i64 0]]) ?_ rfl ⟨_,rfl,OB.out,below_setRow' HB.out (Nat.le_refl _) _,OB.out.nz (by simp [insAt])⟩
 simp [results,Try.results72,go_sem,z0,z1]
set_option maxRecDepth 100000 in
set_option maxHeartbeats 1000000 in
theorem doN_stack_push {w:World} {B:Nat} {v:Value} {l:List Int} (op arg data:Int) (_hB:B≤w.heap.size) (hown:OwnE w B 3 eI 1 v l) (hop:op=30) (hbig:(l.length+1) * 8≤281474976710648) :
  Calls Try.prog 76 #[v,.int .i64 op,.int .i64 arg,.int .i64 data] w (RetDoN w 91 3 eI 1 (arg :: l,1,0)):=by
 subst hop
 have hA0:=hown.arr eI_ok
 obtain ⟨ba,cap,rfl⟩:=hown.form
 clear hown
 have C:Hid (∀ k wx,Calls Try.prog 74 #[.int .i64 k] wx (RetA wx k 0)):=told_any
 obtain ⟨hW,hS,hA,hL⟩:=two_boxes w #[.int .i64 0,.int .i64 0] #[.int .i64 arg] 42 3
 have HA0:=Lib.hid (hA0.below hW)
 have HL:Hid (OwnE ((w.alloc (.cells #[.int .i64 0,.int .i64 0] 42)).alloc (.cells #[.int .i64 arg] 3)) (w.heap.size+1) 3 eI 1 (.slice (some ⟨w.heap.size+1,0,none⟩) 1 1) [arg]):=own_one eI_ok hL (Nat.le_refl _)
 have HBG:Hid ((2+l.length) * 8≤281474976710656):=by show _≤_;omega
 have H63:Hid (1+l.length≤maxLen):=by show _≤_;unfold maxLen;omega
 have HS1:Hid (w.heap.size+1≤((w.alloc (.cells #[.int .i64 0,.int .i64 0] 42)).alloc (.cells #[.int .i64 arg] 3)).heap.size):=by show _≤_;omega
 clear hA0 hbig hL
 go_enter Try.func76,Try.ntmps76
 go_wp2_with (at_builtin;refine wpList_append_one rfl (.tmp 13) (.tmp 14) rfl tE_stack (w.heap.size+1) eI_ok rfl HL.out rfl HA0.out HBG.out HS1.out ?_ H63.out;intro v' W1 ho hb;have HO:=Lib.hid ho;clear ho;have HBB:=Lib.hid hb;clear hb)
 have hW1:Below w.heap.size w W1:=hW.trans (HBB.out.mono (by omega))
 have hA1:=(HBB.out.block w.heap.size (by omega)).trans hA
 have hS1:w.heap.size<W1.heap.size:=by have:=HBB.out.size;omega
 clear hW hS hA HL HA0
 have hW:=hW1
 have hA:=hA1
 clear hW1 hA1
 (with_reducible refine (C.out _ _).mono ?_)
 rintro r w2 ⟨rfl,hb⟩
 have hA2:=(hb.block w.heap.size (by omega)).trans hA
 have hbw:Below w.heap.size w w2:=hW.trans (hb.mono (by omega))
 have HB:=Lib.hid hbw
 have OB:Hid (OwnE (w2.setRow w.heap.size #[.int .i64 1,.int .i64 0]) w.heap.size 3 eI 1 v' (arg :: l)):=((HO.out.ext hb).keep (grownBy_setRow _ _ _) (by omega)).base (by omega)
 clear hA hb hbw hW
 have HA:=Lib.hid hA2
 obtain ⟨⟨x0,x1⟩,⟨f0,f1⟩⟩:=blk2 hA2
 clear hA2
 go_wp2
 rw [set2 HA.out]
 clear x0 x1 f0 f1
 obtain ⟨⟨z0,z1⟩,_⟩:=blk2 (setRow_heap w2 w.heap.size _ #[.int .i64 1,.int .i64 0] 42 (0,0) HA.out)
 refine bodyPost_ret (v:=.tuple #[.iface 91 (v'),.agg #[.int .i64 1,.int .i64 0]]) ?_ rfl ⟨_,rfl,OB.out,below_setRow' HB.out (Nat.le_refl _) _,OB.out.nz (by simp [insAt])⟩
 simp [results,Try.results76,go_sem,z0,z1]
set_option maxRecDepth 100000 in
set_option maxHeartbeats 1000000 in
theorem doN_queue_put {w:World} {B:Nat} {v:Value} {l:List Int} (op arg data:Int) (_hB:B≤w.heap.size) (hown:OwnE w B 3 eI 1 v l) (hop:op=40) (hbig:(l.length+1) * 8≤140737488355328) :
  Calls Try.prog 79 #[v,.int .i64 op,.int .i64 arg,.int .i64 data] w (RetDoN w 92 3 eI 1 (l++[arg],1,0)):=by
 subst hop
 have hA0:=hown.arr eI_ok
 obtain ⟨ba,cap,rfl⟩:=hown.form
 clear hown
 have K:Hid (∀ wx,Below w.heap.size w wx→Calls Try.prog 81 #[.slice ba l.length cap] wx (RetE wx 3 eI 1 l)):=fun wx hb=>clone_queue (hA0.below hb) (by omega)
 have HBG:Hid ((l.length+[arg].length) * 8≤140737488355328):=by show _≤_;simp only [List.length_singleton];omega
 have H63:Hid (l.length+[arg].length≤maxLen):=by show _≤_;simp only [List.length_singleton];unfold maxLen;omega
 clear hA0 hbig
 have C:Hid (∀ k wx,Calls Try.prog 74 #[.int .i64 k] wx (RetA wx k 0)):=told_any
 go_enter Try.func79,Try.ntmps79
 go_wp2_with fail
 obtain ⟨hW,hS,hA⟩:=one_box w #[.int .i64 0,.int .i64 0] 42
 generalize w.alloc (.cells #[.int .i64 0,.int .i64 0] 42)=W1 at *
 (with_reducible refine (K.out _ hW).mono ?_)
 rintro r w1 ⟨v1,rfl,ho1,hb1⟩
 have hW1:=hW.trans (hb1.mono (by omega))
 have hA1:=(hb1.block w.heap.size (by omega)).trans hA
 have hs1:=hb1.size
 have HO1:Hid (OwnE (w1.alloc (.cells #[.int .i64 arg] 3)) (w.heap.size+1) 3 eI 1 v1 l):=(ho1.ext (below_box _ _)).base (by omega)
 have HX1:Hid (Arr (w1.alloc (.cells #[.int .i64 arg] 3)) eI 1 (.slice (some ⟨w1.heap.size,0,none⟩) 1 1) [arg]):=(own_one (B0:=0) eI_ok (heap_alloc_new w1 _) (Nat.zero_le _)).arr eI_ok
 have HS1:Hid (w.heap.size+1≤(w1.alloc (.cells #[.int .i64 arg] 3)).heap.size):=by show _≤_;simp;omega
 have HW1:Hid (Below w.heap.size w (w1.alloc (.cells #[.int .i64 arg] 3))):=hW1.trans ((below_box _ _).mono (by omega))
 have HA1:Hid ((w1.alloc (.cells #[.int .i64 arg] 3)).heap[w.heap.size]? = _):=((below_box w1 (.cells #[.int .i64 arg] 3)).block w.heap.size (by omega)).trans hA1
 clear hW hA hW1 hA1 ho1 hb1
 go_wp2_with (at_builtin;refine wpList_append_ownE rfl (.tmp 13) (.tmp 15) rfl tE_queue (w.heap.size+1) eI_ok rfl HO1.out rfl HX1.out HBG.out HS1.out ?_ H63.out;intro v' W2 ho hb;have HO:=Lib.hid ho;clear ho;have HBB:=Lib.hid hb;clear hb)
 have hW:Below w.heap.size w W2:=HW1.out.trans (HBB.out.mono (by omega))
 have hA:=(HBB.out.block w.heap.size (by omega)).trans HA1.out
 have hS1:w.heap.size<W2.heap.size:=by have:=HBB.out.size;have:=HS1.out;omega
 clear HO1 HX1 HS1 HW1 HA1
 (with_reducible refine (C.out _ _).mono ?_)
 rintro r w2 ⟨rfl,hb⟩
 have hA2:=(hb.block w.heap.size (by omega)).trans hA
 have hbw:Below w.heap.size w w2:=hW.trans (hb.mono (by omega))
 have HB:=Lib.hid hbw
 have OB:Hid (OwnE (w2.setRow w.heap.size #[.int .i64 1,.int .i64 0]) w.heap.size 3 eI 1 v' (l++[arg])):=((HO.out.ext hb).keep (grownBy_setRow _ _ _) (by omega)).base (by omega)
 clear hA hb hbw hW
 have HA:=Lib.hid hA2
 obtain ⟨⟨x0,x1⟩,⟨f0,f1⟩⟩:=blk2 hA2
 clear hA2
 go_wp2
 rw [set2 HA.out]
 clear x0 x1 f0 f1
 obtain ⟨⟨z0,z1⟩,_⟩:=blk2 (setRow_heap w2 w.heap.size _ #[.int .i64 1,.int .i64 0] 42 (0,0) HA.out)
 refine bodyPost_ret (v:=.tuple #[.iface 92 (v'),.agg #[.int .i64 1,.int .i64 0]]) ?_ rfl ⟨_,rfl,OB.out,below_setRow' HB.out (Nat.le_refl _) _,OB.out.nz (by simp [insAt])⟩
 simp [results,Try.results79,go_sem,z0,z1]
set_option maxRecDepth 100000 in
set_option maxHeartbeats 1000000 in
theorem doN_stack_take_2 {w:World} {B:Nat} {v:Value} {l:List Int} (op arg data:Int) (_hB:B≤w.heap.size) (hown:OwnE w B 3 eI 1 v l) (x:Int) (r:List Int) (hop:¬ op=30) (hr:r≠[]) (hl:l=x :: r) (hbig:l.length * 8≤281474976710656) (hcap:∀ ba n cap,v = .slice ba n cap→cap≠1) :
  Calls Try.prog 76 #[v,.int .i64 op,.int .i64 arg,.int .i64 data] w (RetDoN w 91 3 eI 1 (r,2,x)):=by
 subst hl
 have hA0:=hown.arr eI_ok
 obtain ⟨ba,cap,rfl,hlc,hcm,g⟩:=(hown.arr eI_ok).at1
 obtain ⟨b,o,rfl,hb1,c1⟩:=g 0 x rfl
 rw [Nat.add_zero] at c1
 have hcp:=hcap _ _ _ rfl
 clear g hcap hown
 have hbg:r.length * 8≤281474976710656:=by simp only [List.length_cons] at hbig;omega
 simp only [List.length_cons] at hlc hbig
 have K:Hid (∀ wx,Below w.heap.size w wx→Calls Try.prog 78 #[.slice (some ⟨b,o+1,none⟩) r.length (cap - 1)] wx (RetE wx 3 eI 1 r)):=fun wx hb=>clone_stack ((arr_tail hA0 (fun _=>rfl)).below hb) hbg
 have hpos:¬ ((r.length:Int)+1=0):=by omega
 have hp1:(1:Int)≤(r.length:Int)+1:=by omega
 have hp2:0<r.length+1:=by omega
 clear hA0
 have HX:=Lib.hid c1;clear c1
 have C:Hid (∀ k wx,Calls Try.prog 75 #[.int .i64 k] wx (RetA wx 2 k)):=value_any
 go_enter Try.func76,Try.ntmps76
 go_wp2_with fail
 obtain ⟨hW,hS,hA⟩:=one_box w #[.int .i64 0,.int .i64 0] 42
 generalize w.alloc (.cells #[.int .i64 0,.int .i64 0] 42)=W1 at *
 have HAX:=Lib.hid hA;clear hA
 have hbn:b≠w.heap.size:=by omega
 have hbd:Below W1.heap.size W1 W1.drew:=(Below.refl _ _).drew
 have hbw:Below w.heap.size w W1.drew:=hW.trans (hbd.mono (by omega))
 go_region_held3 (fun w'=>w'.cell? ⟨b,o,none⟩=some (.int .i64 x)) (first | (go_keep;done) | (with_reducible exact (hbw.cell hb1).trans HX.out) | (with_reducible exact cell_set2 HA2.out ((hbw.cell hb1).trans HX.out) hbn))
  (first
   | (go_at_call 78;(with_reducible refine (K.out _ hbw).mono ?_);rintro r w2 ⟨v6,rfl,ho,hb⟩;have HO:=Lib.hid (ho.base (show w.heap.size+1≤_ by have:=hbw.size;have:=hbd.size;omega));have hbd:=below_call hbd (Nat.le_refl _) hb;have hbw:=hW.trans (hbd.mono (by omega));have hA2:=(hbd.block w.heap.size (by omega)).trans HAX.out;obtain ⟨⟨x0,x1⟩,⟨f0,f1⟩⟩:=blk2 hA2;have HA2:=Lib.hid hA2;clear hA2 ho hb)
   | (go_at_call 75;(with_reducible refine (C.out _ _).mono ?_);rintro r w2 ⟨rfl,hb⟩;have hbd:=below_call hbd (Nat.le_refl _) hb;have hbw:=hW.trans (hbd.mono (by omega));(try have HO:=Lib.hid (HO.out.ext hb));have hA2:=(hbd.block w.heap.size (by omega)).trans HAX.out;obtain ⟨⟨x0,x1⟩,⟨f0,f1⟩⟩:=blk2 hA2;have HA2:=Lib.hid hA2;clear hA2 hb))
 have HA:=HA2
 have HB:=Lib.hid hbw
 have OB:Hid (OwnE (w2.setRow w.heap.size #[.int .i64 2,.int .i64 x]) w.heap.size 3 eI 1 v6 r):=(HO.out.keep (grownBy_setRow _ _ _) (by omega)).base (by omega)
 clear HO HX HAX hW hbd hbw hbn x0 x1 f0 f1 C K
 rw [set2 HA.out]
 go_wp2
 obtain ⟨⟨z0,z1⟩,_⟩:=blk2 (setRow_heap w2 w.heap.size _ #[.int .i64 2,.int .i64 x] 42 (0,0) HA.out)
 refine bodyPost_ret (v:=.tuple #[.iface 91 v6,.agg #[.int .i64 2,.int .i64 x]]) ?_ rfl ⟨_,rfl,OB.out,below_setRow' HB.out (Nat.le_refl _) _,OB.out.nz hr⟩
 simp [results,Try.results76,go_sem,z0,z1]
set_option maxRecDepth 100000 in
set_option maxHeartbeats 1000000 in
theorem doN_queue_take_2 {w:World} {B:Nat} {v:Value} {l:List Int} (op arg data:Int) (_hB:B≤w.heap.size) (hown:OwnE w B 3 eI 1 v l) (x:Int) (r:List Int) (hop:¬ op=40) (hr:r≠[]) (hl:l=x :: r) (hbig:l.length * 8≤140737488355328) (hcap:∀ ba n cap,v = .slice ba n cap→cap≠1) :
  Calls Try.prog 79 #[v,.int .i64 op,.int .i64 arg,.int .i64 data] w (RetDoN w 92 3 eI 1 (r,2,x)):=by
 subst hl
 have hA0:=hown.arr eI_ok
 obtain ⟨ba,cap,rfl,hlc,hcm,g⟩:=(hown.arr eI_ok).at1
 obtain ⟨b,o,rfl,hb1,c1⟩:=g 0 x rfl
 rw [Nat.add_zero] at c1
 have hcp:=hcap _ _ _ rfl
 clear g hcap hown
 have hbg:r.length * 8≤281474976710656:=by simp only [List.length_cons] at hbig;omega
 simp only [List.length_cons] at hlc hbig
 have K:Hid (∀ wx,Below w.heap.size w wx→Calls Try.prog 81 #[.slice (some ⟨b,o+1,none⟩) r.length (cap - 1)] wx (RetE wx 3 eI 1 r)):=fun wx hb=>clone_queue ((arr_tail hA0 (fun _=>rfl)).below hb) hbg
 have hpos:¬ ((r.length:Int)+1=0):=by omega
 have hp1:(1:Int)≤(r.length:Int)+1:=by omega
 have hp2:0<r.length+1:=by omega
 clear hA0
 have HX:=Lib.hid c1;clear c1
 have C:Hid (∀ k wx,Calls Try.prog 75 #[.int .i64 k] wx (RetA wx 2 k)):=value_any
 go_enter Try.func79,Try.ntmps79
 go_wp2_with fail
 obtain ⟨hW,hS,hA⟩:=one_box w #[.int .i64 0,.int .i64 0] 42
 generalize w.alloc (.cells #[.int .i64 0,.int .i64 0] 42)=W1 at *
 have HAX:=Lib.hid hA;clear hA
 have hbn:b≠w.heap.size:=by omega
 have hbd:Below W1.heap.size W1 W1.drew:=(Below.refl _ _).drew
 have hbw:Below w.heap.size w W1.drew:=hW.trans (hbd.mono (by omega))
 go_region_held3 (fun w'=>w'.cell? ⟨b,o,none⟩=some (.int .i64 x)) (first | (go_keep;done) | (with_reducible exact (hbw.cell hb1).trans HX.out) | (with_reducible exact cell_set2 HA2.out ((hbw.cell hb1).trans HX.out) hbn))
  (first
   | (go_at_call 81;(with_reducible refine (K.out _ hbw).mono ?_);rintro r w2 ⟨v6,rfl,ho,hb⟩;have HO:=Lib.hid (ho.base (show w.heap.size+1≤_ by have:=hbw.size;have:=hbd.size;omega));have hbd:=below_call hbd (Nat.le_refl _) hb;have hbw:=hW.trans (hbd.mono (by omega));have hA2:=(hbd.block w.heap.size (by omega)).trans HAX.out;obtain ⟨⟨x0,x1⟩,⟨f0,f1⟩⟩:=blk2 hA2;have HA2:=Lib.hid hA2;clear hA2 ho hb)
   | (go_at_call 75;(with_reducible refine (C.out _ _).mono ?_);rintro r w2 ⟨rfl,hb⟩;have hbd:=below_call hbd (Nat.le_refl _) hb;have hbw:=hW.trans (hbd.mono (by omega));(try have HO:=Lib.hid (HO.out.ext hb));have hA2:=(hbd.block w.heap.size (by omega)).trans HAX.out;obtain ⟨⟨x0,x1⟩,⟨f0,f1⟩⟩:=blk2 hA2;have HA2:=Lib.hid hA2;clear hA2 hb))
 have HA:=HA2
 have HB:=Lib.hid hbw
 have OB:Hid (OwnE (w2.setRow w.heap.size #[.int .i64 2,.int .i64 x]) w.heap.size 3 eI 1 v6 r):=(HO.out.keep (grownBy_setRow _ _ _) (by omega)).base (by omega)
 clear HO HX HAX hW hbd hbw hbn x0 x1 f0 f1 C K
 rw [set2 HA.out]
 go_wp2
 obtain ⟨⟨z0,z1⟩,_⟩:=blk2 (setRow_heap w2 w.heap.size _ #[.int .i64 2,.int .i64 x] 42 (0,0) HA.out)
 refine bodyPost_ret (v:=.tuple #[.iface 92 v6,.agg #[.int .i64 2,.int .i64 x]]) ?_ rfl ⟨_,rfl,OB.out,below_setRow' HB.out (Nat.le_refl _) _,OB.out.nz hr⟩
 simp [results,Try.results79,go_sem,z0,z1]
set_option maxRecDepth 100000 in
set_option maxHeartbeats 1000000 in
theorem doN_set_insert {w:World} {B:Nat} {v:Value} {l:List Int} (op arg data:Int) (_hB:B≤w.heap.size) (hown:OwnE w B 3 eI 1 v l) (hinc:incB l=true) (hsm:(l.length+1) * 8≤140737488355328) (hop:op=50) (hf:hasB l arg=false) :
  Calls Try.prog 82 #[v,.int .i64 op,.int .i64 arg,.int .i64 data] w (RetDoN w 93 3 eI 1 (insAt l (pos l arg) arg,5,0)):=by
 subst hop
 have hA0:=hown.arr eI_ok
 obtain ⟨ba,cap,rfl⟩:=hown.form
 clear hown
 have S:Hid (∀ wx,Below w.heap.size w wx→Calls Try.prog 85 #[.slice ba l.length cap,.int .i64 arg] wx (RetS wx (l) arg)):=fun wx hb=>search_set (hA0.below hb) hinc (by omega)
 have K:Hid (∀ wx,Below w.heap.size w wx→Calls Try.prog 87 #[.slice ba l.length cap] wx (RetE wx 3 eI 1 l)):=fun wx hb=>clone_set (hA0.below hb) (by omega)
 clear hA0
 have C:Hid (∀ b wx,Calls Try.prog 88 #[.bool b] wx (RetA wx (if b then 5 else 6) 0)):=yes_any
 go_enter Try.func82,Try.ntmps82
 go_wp2_with fail
 obtain ⟨hW,hS,hA⟩:=one_box w #[.int .i64 0,.int .i64 0] 42
 generalize w.alloc (.cells #[.int .i64 0,.int .i64 0] 42)=W1 at *
 (with_reducible refine (S.out _ hW).mono ?_)
 rintro r w1 ⟨i,rfl,hp,hb⟩
 have hi:=hp.eq
 have hil:=hp.le
 subst hi
 clear hp
 have hW1:=hW.trans (hb.mono (by omega))
 have hA1:=(hb.block w.heap.size (by omega)).trans hA
 have hs1:w.heap.size<w1.heap.size:=by have:=hb.size;omega
 clear hW hA hb S
 have hd:decide (l[pos l arg]? = some arg)=false:=hf
 rw [hd]
 clear hd
 clear hf
 go_wp2_with fail
 (with_reducible refine (K.out _ hW1).mono ?_)
 rintro r w5 ⟨v2,rfl,ho2,hb2⟩
 have hW2:=hW1.trans (hb2.mono (by omega))
 have hA2:=(hb2.block w.heap.size hs1).trans hA1
 have hs2:w1.heap.size≤w5.heap.size:=hb2.size
 clear hW1 hA1 hb2 K
 go_wp2_with fail
 obtain ⟨hW3,hS3,hX3⟩:=one_box w5 (eI arg).toArray 3
 have ho3:=ho2.ext hW3
 have hne3:∀ k,v2.ownBlock=some k→l≠[]→w5.heap.size≠k:=fun k hk hl=>by have:=own_lt ho2 hl k hk;omega
 clear ho2
 simp only [eI] at hW3 hS3 hX3 ho3
 generalize w5.alloc (.cells #[.int .i64 arg] 3)=W3 at *
 have hW4:=hW2.trans (hW3.mono (by omega))
 have hA4:=(hW3.block w.heap.size (by omega)).trans hA2
 clear hW2 hA2 hW3
 (with_reducible refine (insert_set (B:=w1.heap.size) (x:=arg) hil (by omega) ho3 hX3 hne3 (by omega)).mono ?_)
 rintro r w6 ⟨v6,rfl,ho,hb⟩
 have HO:=Lib.hid (ho.base (show w.heap.size+1≤w1.heap.size by omega))
 have hW:=hW4.trans (hb.mono (by omega))
 have hA:=(hb.block w.heap.size (by omega)).trans hA4
 have hS6:w.heap.size<w6.heap.size:=by have:=hb.size;omega
 clear hW4 hA4 ho hb ho3 hX3 hne3
 go_wp2_with fail
 (with_reducible refine (C.out _ _).mono ?_)
 rintro r w2 ⟨rfl,hb⟩
 have hA2:=(hb.block w.heap.size (by omega)).trans hA
 have hbw:Below w.heap.size w w2:=hW.trans (hb.mono (by omega))
 have HB:=Lib.hid hbw
 have OB:Hid (OwnE (w2.setRow w.heap.size #[.int .i64 5,.int .i64 0]) w.heap.size 3 eI 1 v6 (insAt l (pos l arg) arg)):=((HO.out.ext hb).keep (grownBy_setRow _ _ _) (by omega)).base (by omega)
 clear hA hb hbw hW HO
 have HA:=Lib.hid hA2
 obtain ⟨⟨x0,x1⟩,⟨f0,f1⟩⟩:=blk2 hA2
 clear hA2
 go_wp2
 rw [set2 HA.out]
 clear x0 x1 f0 f1
 obtain ⟨⟨z0,z1⟩,_⟩:=blk2 (setRow_heap w2 w.heap.size _ #[.int .i64 5,.int .i64 0] 42 (0,0) HA.out)
 refine bodyPost_ret (v:=.tuple #[.iface 93 (v6),.agg #[.int .i64 5,.int .i64 0]]) ?_ rfl ⟨_,rfl,OB.out,below_setRow' HB.out (Nat.le_refl _) _,OB.out.nz (by simp [insAt])⟩
 simp [results,Try.results82,go_sem,z0,z1]
set_option maxRecDepth 100000 in
set_option maxHeartbeats 1000000 in
theorem doN_set_delete {w:World} {B:Nat} {v:Value} {l:List Int} (op arg data:Int) (_hB:B≤w.heap.size) (hown:OwnE w B 3 eI 1 v l) (hinc:incB l=true) (hsm:(l.length+1) * 8≤140737488355328) (hop:op=51) (hf:hasB l arg=true) :
  Calls Try.prog 82 #[v,.int .i64 op,.int .i64 arg,.int .i64 data] w (RetDoN w 93 3 eI 1 (delAt l (pos l arg),5,0)):=by
 subst hop
 have hA0:=hown.arr eI_ok
 obtain ⟨ba,cap,rfl⟩:=hown.form
 clear hown
 have S:Hid (∀ wx,Below w.heap.size w wx→Calls Try.prog 85 #[.slice ba l.length cap,.int .i64 arg] wx (RetS wx (l) arg)):=fun wx hb=>search_set (hA0.below hb) hinc (by omega)
 have K:Hid (∀ wx,Below w.heap.size w wx→Calls Try.prog 87 #[.slice ba l.length cap] wx (RetE wx 3 eI 1 l)):=fun wx hb=>clone_set (hA0.below hb) (by omega)
 clear hA0
 have C:Hid (∀ b wx,Calls Try.prog 88 #[.bool b] wx (RetA wx (if b then 5 else 6) 0)):=yes_any
 go_enter Try.func82,Try.ntmps82
 go_wp2_with fail
 obtain ⟨hW,hS,hA⟩:=one_box w #[.int .i64 0,.int .i64 0] 42
 generalize w.alloc (.cells #[.int .i64 0,.int .i64 0] 42)=W1 at *
 (with_reducible refine (S.out _ hW).mono ?_)
 rintro r w1 ⟨i,rfl,hp,hb⟩
 have hi:=hp.eq
 have hil:=hp.le
 subst hi
 clear hp
 have hW1:=hW.trans (hb.mono (by omega))
 have hA1:=(hb.block w.heap.size (by omega)).trans hA
 have hs1:w.heap.size<w1.heap.size:=by have:=hb.size;omega
 clear hW hA hb S
 have hd:decide (l[pos l arg]? = some arg)=true:=hf
 rw [hd]
 clear hd
 have hlt:pos l arg<l.length:=(List.getElem?_eq_some_iff.1 (of_decide_eq_true hf)).1
 have hpb:((pos l arg:Nat):Int)+1≤9223372036854775807:=by omega
 clear hf
 go_wp2_with fail
 (with_reducible refine (K.out _ hW1).mono ?_)
 rintro r w5 ⟨v2,rfl,ho2,hb2⟩
 have hW2:=hW1.trans (hb2.mono (by omega))
 have hA2:=(hb2.block w.heap.size hs1).trans hA1
 have hs2:w1.heap.size≤w5.heap.size:=hb2.size
 clear hW1 hA1 hb2 K
 go_wp2_with fail
 (with_reducible refine (deleteN_set (B:=w1.heap.size) (by omega) ho2).mono ?_)
 rintro r w6 ⟨v6,rfl,ho,hb,hnz⟩
 have NZ6:=Lib.hid hnz;clear hnz
 have HO:=Lib.hid (ho.base (show w.heap.size+1≤w1.heap.size by omega))
 have hW:=hW2.trans (hb.mono (by omega))
 have hA:=(hb.block w.heap.size (by omega)).trans hA2
 have hS6:w.heap.size<w6.heap.size:=by have:=hb.size;omega
 clear hW2 hA2 ho hb ho2
 go_wp2_with fail
 (with_reducible refine (C.out _ _).mono ?_)
 rintro r w2 ⟨rfl,hb⟩
 have hA2:=(hb.block w.heap.size (by omega)).trans hA
 have hbw:Below w.heap.size w w2:=hW.trans (hb.mono (by omega))
 have HB:=Lib.hid hbw
 have OB:Hid (OwnE (w2.setRow w.heap.size #[.int .i64 5,.int .i64 0]) w.heap.size 3 eI 1 v6 (delAt l (pos l arg))):=((HO.out.ext hb).keep (grownBy_setRow _ _ _) (by omega)).base (by omega)
 clear hA hb hbw hW HO
 have HA:=Lib.hid hA2
 obtain ⟨⟨x0,x1⟩,⟨f0,f1⟩⟩:=blk2 hA2
 clear hA2
 go_wp2
 rw [set2 HA.out]
 clear x0 x1 f0 f1
 obtain ⟨⟨z0,z1⟩,_⟩:=blk2 (setRow_heap w2 w.heap.size _ #[.int .i64 5,.int .i64 0] 42 (0,0) HA.out)
 refine bodyPost_ret (v:=.tuple #[.iface 93 (v6),.agg #[.int .i64 5,.int .i64 0]]) ?_ rfl ⟨_,rfl,OB.out,below_setRow' HB.out (Nat.le_refl _) _,NZ6.out⟩
 simp [results,Try.results82,go_sem,z0,z1]
set_option maxRecDepth 100000 in
set_option maxHeartbeats 1000000 in
theorem doN_table_add {w:World} {B:Nat} {v:Value} {l:List (Int×Int)} (op arg data:Int) (_hB:B≤w.heap.size) (hown:OwnE w B 76 eP 2 v l) (hinc:incB (keys l)=true) (hsm:(l.length+1) * 16≤140737488355328) (hop:op=60) (hf:hasB (keys l) arg=false) :
  Calls Try.prog 97 #[v,.int .i64 op,.int .i64 arg,.int .i64 data] w (RetDoN w 94 76 eP 2 (insAt l (pos (keys l) arg) (arg,data),5,0)):=by
 subst hop
 have hA0:=hown.arr eP_ok
 obtain ⟨ba,cap,rfl⟩:=hown.form
 clear hown
 have S:Hid (∀ wx,Below w.heap.size w wx→Calls Try.prog 100 #[.slice ba l.length cap,.int .i64 arg] wx (RetS wx (keys l) arg)):=fun wx hb=>tableFind (hA0.below hb) hinc (by omega)
 have K:Hid (∀ wx,Below w.heap.size w wx→Calls Try.prog 102 #[.slice ba l.length cap] wx (RetE wx 76 eP 2 l)):=fun wx hb=>clone_table (hA0.below hb) (by omega)
 clear hA0
 have C:Hid (∀ b wx,Calls Try.prog 88 #[.bool b] wx (RetA wx (if b then 5 else 6) 0)):=yes_any
 go_enter Try.func97,Try.ntmps97
 go_wp2_with fail
 obtain ⟨hW,hS,hA⟩:=one_box w #[.int .i64 0,.int .i64 0] 42
 generalize w.alloc (.cells #[.int .i64 0,.int .i64 0] 42)=W1 at *
 (with_reducible refine (S.out _ hW).mono ?_)
 rintro r w1 ⟨i,rfl,hp,hb⟩
 have hi:=hp.eq
 have hil:i≤l.length:=by have:=hp.le;simpa [keys] using this
 subst hi
 clear hp
 have hW1:=hW.trans (hb.mono (by omega))
 have hA1:=(hb.block w.heap.size (by omega)).trans hA
 have hs1:w.heap.size<w1.heap.size:=by have:=hb.size;omega
 clear hW hA hb S
 have hd:decide ((keys l)[pos (keys l) arg]? = some arg)=false:=hf
 rw [hd]
 clear hd
 clear hf
 go_wp2_with fail
 (with_reducible refine (K.out _ hW1).mono ?_)
 rintro r w5 ⟨v2,rfl,ho2,hb2⟩
 have hW2:=hW1.trans (hb2.mono (by omega))
 have hA2:=(hb2.block w.heap.size hs1).trans hA1
 have hs2:w1.heap.size≤w5.heap.size:=hb2.size
 clear hW1 hA1 hb2 K
 go_wp2_with fail
 obtain ⟨hW3,hS3,hX3⟩:=one_box w5 (eP (arg,data)).toArray 76
 have ho3:=ho2.ext hW3
 have hne3:∀ k,v2.ownBlock=some k→l≠[]→w5.heap.size≠k:=fun k hk hl=>by have:=own_lt ho2 hl k hk;omega
 clear ho2
 simp only [eP] at hW3 hS3 hX3 ho3
 generalize w5.alloc (.cells #[.int .i64 arg,.int .i64 data] 76)=W3 at *
 have hW4:=hW2.trans (hW3.mono (by omega))
 have hA4:=(hW3.block w.heap.size (by omega)).trans hA2
 clear hW2 hA2 hW3
 (with_reducible refine (insert_table (B:=w1.heap.size) (x:=(arg,data)) hil (by omega) ho3 hX3 hne3 (by omega)).mono ?_)
 rintro r w6 ⟨v6,rfl,ho,hb⟩
 have HO:=Lib.hid (ho.base (show w.heap.size+1≤w1.heap.size by omega))
 have hW:=hW4.trans (hb.mono (by omega))
 have hA:=(hb.block w.heap.size (by omega)).trans hA4
 have hS6:w.heap.size<w6.heap.size:=by have:=hb.size;omega
 clear hW4 hA4 ho hb ho3 hX3 hne3
 go_wp2_with fail
 (with_reducible refine (C.out _ _).mono ?_)
 rintro r w2 ⟨rfl,hb⟩
 have hA2:=(hb.block w.heap.size (by omega)).trans hA
 have hbw:Below w.heap.size w w2:=hW.trans (hb.mono (by omega))
 have HB:=Lib.hid hbw
 have OB:Hid (OwnE (w2.setRow w.heap.size #[.int .i64 5,.int .i64 0]) w.heap.size 76 eP 2 v6 (insAt l (pos (keys l) arg) (arg,data))):=((HO.out.ext hb).keep (grownBy_setRow _ _ _) (by omega)).base (by omega)
 clear hA hb hbw hW HO
 have HA:=Lib.hid hA2
 obtain ⟨⟨x0,x1⟩,⟨f0,f1⟩⟩:=blk2 hA2
 clear hA2
 go_wp2
 rw [set2 HA.out]
 clear x0 x1 f0 f1
 obtain ⟨⟨z0,z1⟩,_⟩:=blk2 (setRow_heap w2 w.heap.size _ #[.int .i64 5,.int .i64 0] 42 (0,0) HA.out)
 refine bodyPost_ret (v:=.tuple #[.iface 94 (v6),.agg #[.int .i64 5,.int .i64 0]]) ?_ rfl ⟨_,rfl,OB.out,below_setRow' HB.out (Nat.le_refl _) _,OB.out.nz (by simp [insAt])⟩
 simp [results,Try.results97,go_sem,z0,z1]
set_option maxRecDepth 100000 in
set_option maxHeartbeats 1000000 in
theorem doN_table_rem {w:World} {B:Nat} {v:Value} {l:List (Int×Int)} (op arg data:Int) (_hB:B≤w.heap.size) (hown:OwnE w B 76 eP 2 v l) (hinc:incB (keys l)=true) (hsm:(l.length+1) * 16≤140737488355328) (hop:op=61) (p:Int×Int) (hp:l[pos (keys l) arg]? = some p) (hpk:p.1=arg) :
  Calls Try.prog 97 #[v,.int .i64 op,.int .i64 arg,.int .i64 data] w (RetDoN w 94 76 eP 2 (delAt l (pos (keys l) arg),2,p.2)):=by
 subst hop
 have hf:hasB (keys l) arg=true:=decide_eq_true (by rw [keys_at hp,hpk])
 have hlt:pos (keys l) arg<l.length:=(List.getElem?_eq_some_iff.1 hp).1
 have hpb:((pos (keys l) arg:Nat):Int)+1≤9223372036854775807:=by omega
 have hlt2:((pos (keys l) arg:Nat):Int)<(l.length:Int):=by omega
 have hA0:=hown.arr eP_ok
 obtain ⟨ba,cap,rfl,hlc,hcm,g⟩:=(hown.arr eP_ok).at2
 obtain ⟨b,o,rfl,hb1,c1,c2⟩:=g _ p hp
 clear hown
 have S:Hid (∀ wx,Below w.heap.size w wx→Calls Try.prog 100 #[.slice (some ⟨b,o,none⟩) l.length cap,.int .i64 arg] wx (RetS wx (keys l) arg)):=fun wx hb=>tableFind (hA0.below hb) hinc (by omega)
 have K:Hid (∀ wx,Below w.heap.size w wx→Calls Try.prog 102 #[.slice (some ⟨b,o,none⟩) l.length cap] wx (RetE wx 76 eP 2 l)):=fun wx hb=>clone_table (hA0.below hb) (by omega)
 have HC2:=Lib.hid c2
 clear hA0 g c1 c2 hp hpk
 have C:Hid (∀ k wx,Calls Try.prog 75 #[.int .i64 k] wx (RetA wx 2 k)):=value_any
 go_enter Try.func97,Try.ntmps97
 go_wp2_with fail
 obtain ⟨hW,hS,hA⟩:=one_box w #[.int .i64 0,.int .i64 0] 42
 generalize w.alloc (.cells #[.int .i64 0,.int .i64 0] 42)=W1 at *
 (with_reducible refine (S.out _ hW).mono ?_)
 rintro r w1 ⟨i,rfl,hp,hb⟩
 have hi:=hp.eq
 have hil:i≤l.length:=by have:=hp.le;simpa [keys] using this
 subst hi
 clear hp
 have hW1:=hW.trans (hb.mono (by omega))
 have hA1:=(hb.block w.heap.size (by omega)).trans hA
 have hs1:w.heap.size<w1.heap.size:=by have:=hb.size;omega
 clear hW hA hb S
 have hd:decide ((keys l)[pos (keys l) arg]? = some arg)=true:=hf
 rw [hd]
 clear hd
 clear hf
 have d2:=(hW1.cell (by exact hb1)).trans HC2.out
 go_wp2_with fail
 (with_reducible refine (C.out _ _).mono ?_)
 rintro r w5 ⟨rfl,hb⟩
 have hW5:=hW1.trans (hb.mono (by omega))
 have hA5:=(hb.block w.heap.size hs1).trans hA1
 have hs5:=hb.size
 clear hW1 hA1 hb d2
 go_wp2_with fail
 obtain ⟨hW6,hS6,hT6⟩:=one_box w5 #[.int .i64 2,.int .i64 p.2] 42
 generalize w5.alloc (.cells #[.int .i64 2,.int .i64 p.2] 42)=W6 at *
 have hW:=hW5.trans (hW6.mono (by omega))
 have HAX:=Lib.hid ((hW6.block w.heap.size (by omega)).trans hA5)
 have HTX:=Lib.hid hT6
 clear hA5 hW5 hT6 hW6
 have hbd:Below W6.heap.size W6 W6.drew:=(Below.refl _ _).drew
 have hbw:Below w.heap.size w W6.drew:=hW.trans (hbd.mono (by omega))
 have hnt:w5.heap.size≠w.heap.size:=by omega
 have hlt6:w5.heap.size<W6.heap.size:=by omega
 have hle1:w.heap.size+1≤W6.heap.size:=by omega
 have hle2:w.heap.size≤W6.heap.size:=by omega
 have hlt0:w.heap.size<W6.heap.size:=by omega
 have hwr:IntKind.i64.wrap ((pos (keys l) arg:Int)+1)=(pos (keys l) arg:Int)+1:=by rw [IntKind.wrap_i64];omega
 go_region_held3 (fun w'=>w'.cell? ⟨w5.heap.size,0,none⟩=some (.int .i64 2)∧w'.cell? ⟨w5.heap.size,1,none⟩=some (.int .i64 p.2)) (first | (go_keep;done) | (with_reducible exact (blk2 ((hbd.block _ hlt6).trans HTX.out)).1) | (with_reducible exact ⟨cell_set2 HA2.out (blk2 ((hbd.block _ hlt6).trans HTX.out)).1.1 hnt,cell_set2 HA2.out (blk2 ((hbd.block _ hlt6).trans HTX.out)).1.2 hnt⟩) | (exact ⟨cell_set2 HAX.out (blk2 HTX.out).1.1 hnt,cell_set2 HAX.out (blk2 HTX.out).1.2 hnt⟩))
  (first
   | (go_at_call 102;(with_reducible refine (K.out _ hbw).mono ?_);rintro r w7 ⟨v2,rfl,ho2,hb⟩;have ho2:=Lib.hid (ho2.base (show W6.heap.size≤_ from hbd.size));have hbd:=below_call hbd (Nat.le_refl _) hb;have hbw:=hW.trans (hbd.mono hle2);clear hb)
   | (go_at_call 103;(with_reducible refine (deleteN_table (B:=W6.heap.size) hlt ho2.out).mono ?_);rintro r w2 ⟨v6,rfl,ho,hb,hnz⟩;have NZ6:=Lib.hid hnz;clear hnz;have HO:=Lib.hid (ho.base hle1);have hbd:=hbd.trans hb;have hbw:=hW.trans (hbd.mono hle2);have hA2:=(hbd.block w.heap.size hlt0).trans HAX.out;obtain ⟨⟨x0,x1⟩,⟨f0,f1⟩⟩:=blk2 hA2;have HA2:=Lib.hid hA2;clear hA2 ho hb))
 clear hwr
 have HA:=HA2
 have HB:=Lib.hid hbw
 have OB:Hid (OwnE (w2.setRow w.heap.size #[.int .i64 2,.int .i64 p.2]) w.heap.size 76 eP 2 v6 (delAt l (pos (keys l) arg))):=(HO.out.keep (grownBy_setRow _ _ _) (by omega)).base (by omega)
 rw [set2 HA.out]
 clear x0 x1 f0 f1
 go_wp2
 obtain ⟨⟨z0,z1⟩,_⟩:=blk2 (setRow_heap (w2) w.heap.size _ #[.int .i64 2,.int .i64 p.2] 42 (0,0) HA.out)
 refine bodyPost_ret (v:=.tuple #[.iface 94 (v6),.agg #[.int .i64 2,.int .i64 p.2]]) ?_ rfl ⟨_,rfl,OB.out,below_setRow' HB.out (Nat.le_refl _) _,NZ6.out⟩
 simp [results,Try.results97,go_sem,z0,z1]
set_option maxRecDepth 100000 in
set_option maxHeartbeats 1000000 in
theorem doO_stack_take_1 {w:World} {B:Nat} {v:Value} {l:List Int} (op arg data:Int) (_hB:B≤w.heap.size) (hown:OwnE w B 3 eI 1 v l) (x:Int) (hop:¬ op=30) (hl:l=[x]) (hbig:l.length * 8≤281474976710656) (hcap:∀ ba n cap,v = .slice ba n cap→cap=1) :
  Calls Try.prog 76 #[v,.int .i64 op,.int .i64 arg,.int .i64 data] w (RetDoO w 91 (([]:List Int),2,x)):=by
 subst hl
 have hA0:=hown.arr eI_ok
 obtain ⟨ba,cap,rfl,hlc,hcm,g⟩:=(hown.arr eI_ok).at1
 obtain ⟨b,o,rfl,hb1,c1⟩:=g 0 x rfl
 rw [Nat.add_zero] at c1
 have hcp:=hcap _ _ _ rfl
 clear g hcap hown
 subst hcp
 clear hA0 hbig hlc hcm
 have K:Hid (∀ wx,Below w.heap.size w wx→Calls Try.prog 78 #[.slice (some ⟨b,o,none⟩) 0 0] wx (RetO wx)):=fun wx hb=>cloneO_stack (arr_empty _ _ _ _)
 have HX:=Lib.hid c1;clear c1
 have C:Hid (∀ k wx,Calls Try.prog 75 #[.int .i64 k] wx (RetA wx 2 k)):=value_any
 go_enter Try.func76,Try.ntmps76
 go_wp2_with fail
 obtain ⟨hW,hS,hA⟩:=one_box w #[.int .i64 0,.int .i64 0] 42
 generalize w.alloc (.cells #[.int .i64 0,.int .i64 0] 42)=W1 at *
 have HAX:=Lib.hid hA;clear hA
 have hbn:b≠w.heap.size:=by omega
 have hbd:Below W1.heap.size W1 W1.drew:=(Below.refl _ _).drew
 have hbw:Below w.heap.size w W1.drew:=hW.trans (hbd.mono (by omega))
 go_region_held3 (fun w'=>w'.cell? ⟨b,o,none⟩=some (.int .i64 x)) (first | (go_keep;done) | (with_reducible exact (hbw.cell hb1).trans HX.out) | (with_reducible exact cell_set2 HA2.out ((hbw.cell hb1).trans HX.out) hbn))
  (first
   | (go_at_call 78;(with_reducible refine (K.out _ hbw).mono ?_);rintro r w2 ⟨v6,rfl,ho,hb⟩;have HO:=Lib.hid ho;have hbd:=below_call hbd (Nat.le_refl _) hb;have hbw:=hW.trans (hbd.mono (by omega));have hA2:=(hbd.block w.heap.size (by omega)).trans HAX.out;obtain ⟨⟨x0,x1⟩,⟨f0,f1⟩⟩:=blk2 hA2;have HA2:=Lib.hid hA2;clear hA2 ho hb)
   | (go_at_call 75;(with_reducible refine (C.out _ _).mono ?_);rintro r w2 ⟨rfl,hb⟩;have hbd:=below_call hbd (Nat.le_refl _) hb;have hbw:=hW.trans (hbd.mono (by omega));(try have HO:=Lib.hid (HO.out.ext hb));have hA2:=(hbd.block w.heap.size (by omega)).trans HAX.out;obtain ⟨⟨x0,x1⟩,⟨f0,f1⟩⟩:=blk2 hA2;have HA2:=Lib.hid hA2;clear hA2 hb))
 have HA:=HA2
 have HB:=Lib.hid hbw
 have OB:=HO
 clear HO HX HAX hW hbd hbw hbn x0 x1 f0 f1 C K
 rw [set2 HA.out]
 go_wp2
 obtain ⟨⟨z0,z1⟩,_⟩:=blk2 (setRow_heap w2 w.heap.size _ #[.int .i64 2,.int .i64 x] 42 (0,0) HA.out)
 refine bodyPost_ret (v:=.tuple #[.iface 91 v6,.agg #[.int .i64 2,.int .i64 x]]) ?_ rfl ⟨_,rfl,OB.out,below_setRow' HB.out (Nat.le_refl _) _⟩
 simp [results,Try.results76,go_sem,z0,z1]
set_option maxRecDepth 100000 in
set_option maxHeartbeats 1000000 in
theorem doO_stack_take_2 {w:World} {B:Nat} {v:Value} {l:List Int} (op arg data:Int) (_hB:B≤w.heap.size) (hown:OwnE w B 3 eI 1 v l) (x:Int) (hop:¬ op=30) (hl:l=[x]) (hbig:l.length * 8≤281474976710656) (hcap:∀ ba n cap,v = .slice ba n cap→cap≠1) :
  Calls Try.prog 76 #[v,.int .i64 op,.int .i64 arg,.int .i64 data] w (RetDoO w 91 (([]:List Int),2,x)):=by
 subst hl
 have hA0:=hown.arr eI_ok
 obtain ⟨ba,cap,rfl,hlc,hcm,g⟩:=(hown.arr eI_ok).at1
 obtain ⟨b,o,rfl,hb1,c1⟩:=g 0 x rfl
 rw [Nat.add_zero] at c1
 have hcp:=hcap _ _ _ rfl
 clear g hcap hown
 have hlc2:0+1≤cap:=by simpa using hlc
 have K:Hid (∀ wx,Below w.heap.size w wx→Calls Try.prog 78 #[.slice (some ⟨b,o+1,none⟩) 0 (cap - 1)] wx (RetO wx)):=fun wx hb=>cloneO_stack ((arr_tail (r:=[]) hA0 (fun _=>rfl)).below hb)
 have hpos:¬ ((0:Int)+1=0):=by omega
 have hp1:(1:Int)≤(0:Int)+1:=by omega
 have hp2:0<0+1:=by omega
 clear hA0
 have HX:=Lib.hid c1;clear c1
 have C:Hid (∀ k wx,Calls Try.prog 75 #[.int .i64 k] wx (RetA wx 2 k)):=value_any
 go_enter Try.func76,Try.ntmps76
 go_wp2_with fail
 obtain ⟨hW,hS,hA⟩:=one_box w #[.int .i64 0,.int .i64 0] 42
 generalize w.alloc (.cells #[.int .i64 0,.int .i64 0] 42)=W1 at *
 have HAX:=Lib.hid hA;clear hA
 have hbn:b≠w.heap.size:=by omega
 have hbd:Below W1.heap.size W1 W1.drew:=(Below.refl _ _).drew
 have hbw:Below w.heap.size w W1.drew:=hW.trans (hbd.mono (by omega))
 go_region_held3 (fun w'=>w'.cell? ⟨b,o,none⟩=some (.int .i64 x)) (first | (go_keep;done) | (with_reducible exact (hbw.cell hb1).trans HX.out) | (with_reducible exact cell_set2 HA2.out ((hbw.cell hb1).trans HX.out) hbn))
  (first
   | (go_at_call 78;(with_reducible refine (K.out _ hbw).mono ?_);rintro r w2 ⟨v6,rfl,ho,hb⟩;have HO:=Lib.hid ho;have hbd:=below_call hbd (Nat.le_refl _) hb;have hbw:=hW.trans (hbd.mono (by omega));have hA2:=(hbd.block w.heap.size (by omega)).trans HAX.out;obtain ⟨⟨x0,x1⟩,⟨f0,f1⟩⟩:=blk2 hA2;have HA2:=Lib.hid hA2;clear hA2 ho hb)
   | (go_at_call 75;(with_reducible refine (C.out _ _).mono ?_);rintro r w2 ⟨rfl,hb⟩;have hbd:=below_call hbd (Nat.le_refl _) hb;have hbw:=hW.trans (hbd.mono (by omega));(try have HO:=Lib.hid (HO.out.ext hb));have hA2:=(hbd.block w.heap.size (by omega)).trans HAX.out;obtain ⟨⟨x0,x1⟩,⟨f0,f1⟩⟩:=blk2 hA2;have HA2:=Lib.hid hA2;clear hA2 hb))
 have HA:=HA2
 have HB:=Lib.hid hbw
 have OB:=HO
 clear HO HX HAX hW hbd hbw hbn x0 x1 f0 f1 C K
 rw [set2 HA.out]
 go_wp2
 obtain ⟨⟨z0,z1⟩,_⟩:=blk2 (setRow_heap w2 w.heap.size _ #[.int .i64 2,.int .i64 x] 42 (0,0) HA.out)
 refine bodyPost_ret (v:=.tuple #[.iface 91 v6,.agg #[.int .i64 2,.int .i64 x]]) ?_ rfl ⟨_,rfl,OB.out,below_setRow' HB.out (Nat.le_refl _) _⟩
 simp [results,Try.results76,go_sem,z0,z1]
set_option maxRecDepth 100000 in
set_option maxHeartbeats 1000000 in
theorem doO_queue_take_1 {w:World} {B:Nat} {v:Value} {l:List Int} (op arg data:Int) (_hB:B≤w.heap.size) (hown:OwnE w B 3 eI 1 v l) (x:Int) (hop:¬ op=40) (hl:l=[x]) (hbig:l.length * 8≤140737488355328) (hcap:∀ ba n cap,v = .slice ba n cap→cap=1) :
  Calls Try.prog 79 #[v,.int .i64 op,.int .i64 arg,.int .i64 data] w (RetDoO w 92 (([]:List Int),2,x)):=by
 subst hl
 have hA0:=hown.arr eI_ok
 obtain ⟨ba,cap,rfl,hlc,hcm,g⟩:=(hown.arr eI_ok).at1
 obtain ⟨b,o,rfl,hb1,c1⟩:=g 0 x rfl
 rw [Nat.add_zero] at c1
 have hcp:=hcap _ _ _ rfl
 clear g hcap hown
 subst hcp
 clear hA0 hbig hlc hcm
 have K:Hid (∀ wx,Below w.heap.size w wx→Calls Try.prog 81 #[.slice (some ⟨b,o,none⟩) 0 0] wx (RetO wx)):=fun wx hb=>cloneO_queue (arr_empty _ _ _ _)
 have HX:=Lib.hid c1;clear c1
 have C:Hid (∀ k wx,Calls Try.prog 75 #[.int .i64 k] wx (RetA wx 2 k)):=value_any
 go_enter Try.func79,Try.ntmps79
 go_wp2_with fail
 obtain ⟨hW,hS,hA⟩:=one_box w #[.int .i64 0,.int .i64 0] 42
 generalize w.alloc (.cells #[.int .i64 0,.int .i64 0] 42)=W1 at *
 have HAX:=Lib.hid hA;clear hA
 have hbn:b≠w.heap.size:=by omega
 have hbd:Below W1.heap.size W1 W1.drew:=(Below.refl _ _).drew
 have hbw:Below w.heap.size w W1.drew:=hW.trans (hbd.mono (by omega))
 go_region_held3 (fun w'=>w'.cell? ⟨b,o,none⟩=some (.int .i64 x)) (first | (go_keep;done) | (with_reducible exact (hbw.cell hb1).trans HX.out) | (with_reducible exact cell_set2 HA2.out ((hbw.cell hb1).trans HX.out) hbn))
  (first
   | (go_at_call 81;(with_reducible refine (K.out _ hbw).mono ?_);rintro r w2 ⟨v6,rfl,ho,hb⟩;have HO:=Lib.hid ho;have hbd:=below_call hbd (Nat.le_refl _) hb;have hbw:=hW.trans (hbd.mono (by omega));have hA2:=(hbd.block w.heap.size (by omega)).trans HAX.out;obtain ⟨⟨x0,x1⟩,⟨f0,f1⟩⟩:=blk2 hA2;have HA2:=Lib.hid hA2;clear hA2 ho hb)
   | (go_at_call 75;(with_reducible refine (C.out _ _).mono ?_);rintro r w2 ⟨rfl,hb⟩;have hbd:=below_call hbd (Nat.le_refl _) hb;have hbw:=hW.trans (hbd.mono (by omega));(try have HO:=Lib.hid (HO.out.ext hb));have hA2:=(hbd.block w.heap.size (by omega)).trans HAX.out;obtain ⟨⟨x0,x1⟩,⟨f0,f1⟩⟩:=blk2 hA2;have HA2:=Lib.hid hA2;clear hA2 hb))
 have HA:=HA2
 have HB:=Lib.hid hbw
 have OB:=HO
 clear HO HX HAX hW hbd hbw hbn x0 x1 f0 f1 C K
 rw [set2 HA.out]
 go_wp2
 obtain ⟨⟨z0,z1⟩,_⟩:=blk2 (setRow_heap w2 w.heap.size _ #[.int .i64 2,.int .i64 x] 42 (0,0) HA.out)
 refine bodyPost_ret (v:=.tuple #[.iface 92 v6,.agg #[.int .i64 2,.int .i64 x]]) ?_ rfl ⟨_,rfl,OB.out,below_setRow' HB.out (Nat.le_refl _) _⟩
 simp [results,Try.results79,go_sem,z0,z1]
set_option maxRecDepth 100000 in
set_option maxHeartbeats 1000000 in
theorem doO_queue_take_2 {w:World} {B:Nat} {v:Value} {l:List Int} (op arg data:Int) (_hB:B≤w.heap.size) (hown:OwnE w B 3 eI 1 v l) (x:Int) (hop:¬ op=40) (hl:l=[x]) (hbig:l.length * 8≤140737488355328) (hcap:∀ ba n cap,v = .slice ba n cap→cap≠1) :
  Calls Try.prog 79 #[v,.int .i64 op,.int .i64 arg,.int .i64 data] w (RetDoO w 92 (([]:List Int),2,x)):=by
 subst hl
 have hA0:=hown.arr eI_ok
 obtain ⟨ba,cap,rfl,hlc,hcm,g⟩:=(hown.arr eI_ok).at1
 obtain ⟨b,o,rfl,hb1,c1⟩:=g 0 x rfl
 rw [Nat.add_zero] at c1
 have hcp:=hcap _ _ _ rfl
 clear g hcap hown
 have hlc2:0+1≤cap:=by simpa using hlc
 have K:Hid (∀ wx,Below w.heap.size w wx→Calls Try.prog 81 #[.slice (some ⟨b,o+1,none⟩) 0 (cap - 1)] wx (RetO wx)):=fun wx hb=>cloneO_queue ((arr_tail (r:=[]) hA0 (fun _=>rfl)).below hb)
 have hpos:¬ ((0:Int)+1=0):=by omega
 have hp1:(1:Int)≤(0:Int)+1:=by omega
 have hp2:0<0+1:=by omega
 clear hA0
 have HX:=Lib.hid c1;clear c1
 have C:Hid (∀ k wx,Calls Try.prog 75 #[.int .i64 k] wx (RetA wx 2 k)):=value_any
 go_enter Try.func79,Try.ntmps79
 go_wp2_with fail
 obtain ⟨hW,hS,hA⟩:=one_box w #[.int .i64 0,.int .i64 0] 42
 generalize w.alloc (.cells #[.int .i64 0,.int .i64 0] 42)=W1 at *
 have HAX:=Lib.hid hA;clear hA
 have hbn:b≠w.heap.size:=by omega
 have hbd:Below W1.heap.size W1 W1.drew:=(Below.refl _ _).drew
 have hbw:Below w.heap.size w W1.drew:=hW.trans (hbd.mono (by omega))
 go_region_held3 (fun w'=>w'.cell? ⟨b,o,none⟩=some (.int .i64 x)) (first | (go_keep;done) | (with_reducible exact (hbw.cell hb1).trans HX.out) | (with_reducible exact cell_set2 HA2.out ((hbw.cell hb1).trans HX.out) hbn))
  (first
   | (go_at_call 81;(with_reducible refine (K.out _ hbw).mono ?_);rintro r w2 ⟨v6,rfl,ho,hb⟩;have HO:=Lib.hid ho;have hbd:=below_call hbd (Nat.le_refl _) hb;have hbw:=hW.trans (hbd.mono (by omega));have hA2:=(hbd.block w.heap.size (by omega)).trans HAX.out;obtain ⟨⟨x0,x1⟩,⟨f0,f1⟩⟩:=blk2 hA2;have HA2:=Lib.hid hA2;clear hA2 ho hb)
   | (go_at_call 75;(with_reducible refine (C.out _ _).mono ?_);rintro r w2 ⟨rfl,hb⟩;have hbd:=below_call hbd (Nat.le_refl _) hb;have hbw:=hW.trans (hbd.mono (by omega));(try have HO:=Lib.hid (HO.out.ext hb));have hA2:=(hbd.block w.heap.size (by omega)).trans HAX.out;obtain ⟨⟨x0,x1⟩,⟨f0,f1⟩⟩:=blk2 hA2;have HA2:=Lib.hid hA2;clear hA2 hb))
 have HA:=HA2
 have HB:=Lib.hid hbw
 have OB:=HO
 clear HO HX HAX hW hbd hbw hbn x0 x1 f0 f1 C K
 rw [set2 HA.out]
 go_wp2
 obtain ⟨⟨z0,z1⟩,_⟩:=blk2 (setRow_heap w2 w.heap.size _ #[.int .i64 2,.int .i64 x] 42 (0,0) HA.out)
 refine bodyPost_ret (v:=.tuple #[.iface 92 v6,.agg #[.int .i64 2,.int .i64 x]]) ?_ rfl ⟨_,rfl,OB.out,below_setRow' HB.out (Nat.le_refl _) _⟩
 simp [results,Try.results79,go_sem,z0,z1]
end Go.Proofs.Ytgljbdcamagdbaa
