/- ModelOwnSaid: what its proof is made of. No condition. -/
import Derived.Test.YtgljbdcamagdbaaPkModelOwnAP
set_option linter.unusedSimpArgs false
set_option linter.unusedVariables false
namespace Go.Proofs.Ytgljbdcamagdbaa.Z
open Go Go.RowKit
def DoOwn (w:World) (v:Value) (m:MC) (op arg data:Int):Prop:=Calls Try.prog 25 #[v,.int .i64 op,.int .i64 arg,.int .i64 data] w (RetN w 5 (d3L (doM m op arg data) 0) (mcO (doM m op arg data).1))
section
variable {w:World} {v:Value} {m:MC} (op arg data:Int) (h:Cont w v m) (hok:MC.okR m) (hm:mayB m=true)
include h hok hm
theorem own_cell (ho:objOf op=1):DoOwn w v m op arg data:=by
 have hM:doM m op arg data=({ m with cell:=(doCell m.cell op arg).1 },(doCell m.cell op arg).2):=by simp [doM,ho]
 unfold DoOwn
 by_cases h1:op=22
 ·have e:doCell m.cell op arg=([arg],1,0):=by simp [doCell,h1]
  rw [hM,e]
  exact mDoN_cell op arg data ([arg],1,0) h hok hm ho (fun w' v' hown=>doN_cell_post op arg data (Nat.zero_le _) hown h1)
 ·cases hl:m.cell with
  | nil =>
   have e:doCell m.cell op arg=(m.cell,3,0):=by rw [hl];simp [doCell,h1]
   rw [hM,e]
   exact mDoS_cell op arg data (([]:List Int),3,0) h hok hm ho (fun w' v' hown=>doS_cell_empty op arg data (Nat.zero_le _) hown h1 hl)
  | cons x r =>
   have e:doCell m.cell op arg=(m.cell,2,x):=by rw [hl];simp [doCell,h1]
   rw [hM,e]
   exact mDoS_cell op arg data (x :: r,2,x) h hok hm ho (fun w' v' hown=>doS_cell_value op arg data (Nat.zero_le _) hown x r h1 hl)
theorem own_stack (ho:objOf op=2) (hodd:¬ (op≠30∧m.stack.length=1)):DoOwn w v m op arg data:=by
 have hM:doM m op arg data=({ m with stack:=(doStack m.stack op arg).1 },(doStack m.stack op arg).2):=by simp [doM,ho]
 obtain ⟨⟨o0,o1,o2,o3,o4⟩,o5⟩:=id hok
 unfold DoOwn
 by_cases h1:op=30
 ·have e:doStack m.stack op arg=(arg :: m.stack,1,0):=by simp [doStack,h1]
  rw [hM,e]
  exact mDoN_stack op arg data (arg :: m.stack,1,0) h hok hm ho (fun w' v' hown=>doN_stack_push op arg data (Nat.zero_le _) hown h1 (by omega))
 ·cases hl:m.stack with
  | nil =>
   have e:doStack m.stack op arg=(m.stack,3,0):=by rw [hl];simp [doStack,h1]
   rw [hM,e]
   exact mDoS_stack op arg data (([]:List Int),3,0) h hok hm ho (fun w' v' hown=>doS_stack_empty op arg data (Nat.zero_le _) hown h1 hl)
  | cons x r =>
   have e:doStack m.stack op arg=(r,2,x):=by rw [hl];simp [doStack,h1]
   have hr:r≠[]:=fun e=>hodd ⟨h1,by rw [hl,e];rfl⟩
   rw [hM,e]
   exact mDoN_stack op arg data (r,2,x) h hok hm ho (fun w' v' hown=>doN_stack_take_2 op arg data (Nat.zero_le _) hown x r h1 hr hl (by omega) (fun ba n cap hv hc=>by
    have hlc:=(hown.arr eI_ok)
    rw [hv] at hlc
    obtain ⟨ba',cap',e1,h2,_⟩:=hlc
    cases e1
    have:=List.length_pos_iff.2 hr
    rw [hl] at h2
    simp only [List.length_cons] at h2
    omega))
theorem own_queue (ho:objOf op=3) (hodd:¬ (op≠40∧m.queue.length=1)):DoOwn w v m op arg data:=by
 have hM:doM m op arg data=({ m with queue:=(doQueue m.queue op arg).1 },(doQueue m.queue op arg).2):=by simp [doM,ho]
 obtain ⟨⟨o0,o1,o2,o3,o4⟩,o5⟩:=id hok
 unfold DoOwn
 by_cases h1:op=40
 ·have e:doQueue m.queue op arg=(m.queue++[arg],1,0):=by simp [doQueue,h1]
  rw [hM,e]
  exact mDoN_queue op arg data (m.queue++[arg],1,0) h hok hm ho (fun w' v' hown=>doN_queue_put op arg data (Nat.zero_le _) hown h1 (by omega))
 ·cases hl:m.queue with
  | nil =>
   have e:doQueue m.queue op arg=(m.queue,3,0):=by rw [hl];simp [doQueue,h1]
   rw [hM,e]
   exact mDoS_queue op arg data (([]:List Int),3,0) h hok hm ho (fun w' v' hown=>doS_queue_empty op arg data (Nat.zero_le _) hown h1 hl)
  | cons x r =>
   have e:doQueue m.queue op arg=(r,2,x):=by rw [hl];simp [doQueue,h1]
   have hr:r≠[]:=fun e=>hodd ⟨h1,by rw [hl,e];rfl⟩
   rw [hM,e]
   exact mDoN_queue op arg data (r,2,x) h hok hm ho (fun w' v' hown=>doN_queue_take_2 op arg data (Nat.zero_le _) hown x r h1 hr hl (by omega) (fun ba n cap hv hc=>by
    have hlc:=(hown.arr eI_ok)
    rw [hv] at hlc
    obtain ⟨ba',cap',e1,h2,_⟩:=hlc
    cases e1
    have:=List.length_pos_iff.2 hr
    rw [hl] at h2
    simp only [List.length_cons] at h2
    omega))
theorem own_set (ho:objOf op=4):DoOwn w v m op arg data:=by
 have hM:doM m op arg data=({ m with set:=(doSet m.set op arg).1 },(doSet m.set op arg).2):=by simp [doM,ho]
 obtain ⟨⟨o0,o1,o2,o3,o4⟩,o5⟩:=id hok
 have hinc:incB m.set=true:=by simp only [mayB,Bool.and_eq_true] at hm;exact hm.1.2
 unfold DoOwn
 cases hf:hasB m.set arg with
 | true =>
  by_cases h1:op=50
  ·have e:doSet m.set op arg=(m.set,6,0):=by simp [doSet,h1,hf]
   rw [hM,e]
   exact mDoS_set op arg data (m.set,6,0) h hok hm ho (fun w' v' hown=>doS_set_ins_no op arg data (Nat.zero_le _) hown hinc o3 h1 hf)
  ·by_cases h2:op=51
   ·have e:doSet m.set op arg=(delAt m.set (pos m.set arg),5,0):=by simp [doSet,h1,h2,hf]
    rw [hM,e]
    exact mDoN_set op arg data (delAt m.set (pos m.set arg),5,0) h hok hm ho (fun w' v' hown=>doN_set_delete op arg data (Nat.zero_le _) hown hinc o3 h2 hf)
   ·have e:doSet m.set op arg=(m.set,5,0):=by simp [doSet,h1,h2,hf]
    rw [hM,e]
    exact mDoS_set op arg data (m.set,5,0) h hok hm ho (fun w' v' hown=>doS_set_has op arg data (Nat.zero_le _) hown hinc o3 h1 h2 hf)
 | false =>
  by_cases h1:op=50
  ·have e:doSet m.set op arg=(insAt m.set (pos m.set arg) arg,5,0):=by simp [doSet,h1,hf]
   rw [hM,e]
   exact mDoN_set op arg data (insAt m.set (pos m.set arg) arg,5,0) h hok hm ho (fun w' v' hown=>doN_set_insert op arg data (Nat.zero_le _) hown hinc o3 h1 hf)
  ·by_cases h2:op=51
   ·have e:doSet m.set op arg=(m.set,6,0):=by simp [doSet,h1,h2,hf]
    rw [hM,e]
    exact mDoS_set op arg data (m.set,6,0) h hok hm ho (fun w' v' hown=>doS_set_del_no op arg data (Nat.zero_le _) hown hinc o3 h2 hf)
   ·have e:doSet m.set op arg=(m.set,6,0):=by simp [doSet,h1,h2,hf]
    rw [hM,e]
    exact mDoS_set op arg data (m.set,6,0) h hok hm ho (fun w' v' hown=>doS_set_hasno op arg data (Nat.zero_le _) hown hinc o3 h1 h2 hf)
theorem own_table (ho:objOf op=5):DoOwn w v m op arg data:=by
 have hM:doM m op arg data=({ m with table:=(doTable m.table op arg data).1 },(doTable m.table op arg data).2):=by simp [doM,ho]
 obtain ⟨⟨o0,o1,o2,o3,o4⟩,o5⟩:=id hok
 have hinc:incB (keys m.table)=true:=by simp only [mayB,Bool.and_eq_true] at hm;exact hm.2
 unfold DoOwn
 by_cases h1:op=60
 ·cases hf:hasB (keys m.table) arg with
  | true =>
   have e:doTable m.table op arg data=(m.table,6,0):=by simp [doTable,h1,hf]
   rw [hM,e]
   exact mDoS_table op arg data (m.table,6,0) h hok hm ho (fun w' v' hown=>doS_table_add_no op arg data (Nat.zero_le _) hown hinc o4 h1 hf)
  | false =>
   have e:doTable m.table op arg data=(insAt m.table (pos (keys m.table) arg) (arg,data),5,0):=by simp [doTable,h1,hf]
   rw [hM,e]
   exact mDoN_table op arg data (insAt m.table (pos (keys m.table) arg) (arg,data),5,0) h hok hm ho (fun w' v' hown=>doN_table_add op arg data (Nat.zero_le _) hown hinc o4 h1 hf)
 ·cases hp:m.table[pos (keys m.table) arg]? with
  | none =>
   have hk0:(keys m.table)[pos (keys m.table) arg]? = none:=by rw [keys,List.getElem?_map,← keys,hp];rfl
   have hf:hasB (keys m.table) arg=false:=decide_eq_false (by rw [hk0];simp)
   have e:doTable m.table op arg data=(m.table,6,0):=by simp only [doTable,if_neg h1,hp]
   rw [hM,e]
   exact mDoS_table op arg data (m.table,6,0) h hok hm ho (fun w' v' hown=>doS_table_none op arg data (Nat.zero_le _) hown hinc o4 h1 hf)
  | some p =>
   by_cases hk:p.1=arg
   ·by_cases h2:op=61
    ·have e:doTable m.table op arg data=(delAt m.table (pos (keys m.table) arg),2,p.2):=by simp only [doTable,if_neg h1,hp,if_pos hk,if_pos h2]
     rw [hM,e]
     exact mDoN_table op arg data (delAt m.table (pos (keys m.table) arg),2,p.2) h hok hm ho (fun w' v' hown=>doN_table_rem op arg data (Nat.zero_le _) hown hinc o4 h2 p hp hk)
    ·have e:doTable m.table op arg data=(m.table,2,p.2):=by simp only [doTable,if_neg h1,hp,if_pos hk,if_neg h2]
     rw [hM,e]
     exact mDoS_table op arg data (m.table,2,p.2) h hok hm ho (fun w' v' hown=>doS_table_get op arg data (Nat.zero_le _) hown hinc o4 h1 h2 p hp hk)
   ·have hf:hasB (keys m.table) arg=false:=decide_eq_false (by rw [keys_at hp];simpa using hk)
    have e:doTable m.table op arg data=(m.table,6,0):=by simp only [doTable,if_neg h1,hp,if_neg hk]
    rw [hM,e]
    exact mDoS_table op arg data (m.table,6,0) h hok hm ho (fun w' v' hown=>doS_table_none op arg data (Nat.zero_le _) hown hinc o4 h1 hf)
theorem do_own (ho:objOf op≠0) (h2:¬ (objOf op=2∧op≠30∧m.stack.length=1)) (h3:¬ (objOf op=3∧op≠40∧m.queue.length=1)):DoOwn w v m op arg data:=by
 rcases objOf_six op with e | e | e | e | e | e
 ·exact absurd e ho
 ·exact own_cell op arg data h hok hm e
 ·exact own_stack op arg data h hok hm e fun q=>h2 ⟨e,q⟩
 ·exact own_queue op arg data h hok hm e fun q=>h3 ⟨e,q⟩
 ·exact own_set op arg data h hok hm e
 ·exact own_table op arg data h hok hm e
theorem do_odd1 (ho:objOf op=2) (h1:op≠30) (hl:m.stack.length=1):Calls Try.prog 25 #[v,.int .i64 op,.int .i64 arg,.int .i64 data] w fun r w2=>∃ ba:Addr,RetN w 5 (d3X1 ba (doM m op arg data) 0) (mcX1 (doM m op arg data).1) r w2:=by
 have hM:doM m op arg data=({ m with stack:=(doStack m.stack op arg).1 },(doStack m.stack op arg).2):=by simp [doM,ho]
 obtain ⟨x,hx⟩:=List.length_eq_one_iff.1 hl
 have e:doStack m.stack op arg=([],2,x):=by rw [hx];simp [doStack,h1]
 rw [hM,e]
 refine mDoO_stack op arg data (([]:List Int),2,x) h hok hm ho (fun w' v' hown=>?_)
 obtain ⟨ba,cap,hv⟩:=hown.form
 by_cases hc:cap=1
 ·exact doO_stack_take_1 op arg data (Nat.zero_le _) hown x h1 hx (by omega) (fun ba' n' cap' e=>by rw [hv] at e;cases e;exact hc)
 ·exact doO_stack_take_2 op arg data (Nat.zero_le _) hown x h1 hx (by omega) (fun ba' n' cap' e=>by rw [hv] at e;cases e;exact hc)
theorem do_odd2 (ho:objOf op=3) (h1:op≠40) (hl:m.queue.length=1):Calls Try.prog 25 #[v,.int .i64 op,.int .i64 arg,.int .i64 data] w fun r w2=>∃ ba:Addr,RetN w 5 (d3X2 ba (doM m op arg data) 0) (mcX2 (doM m op arg data).1) r w2:=by
 have hM:doM m op arg data=({ m with queue:=(doQueue m.queue op arg).1 },(doQueue m.queue op arg).2):=by simp [doM,ho]
 obtain ⟨x,hx⟩:=List.length_eq_one_iff.1 hl
 have e:doQueue m.queue op arg=([],2,x):=by rw [hx];simp [doQueue,h1]
 rw [hM,e]
 refine mDoO_queue op arg data (([]:List Int),2,x) h hok hm ho (fun w' v' hown=>?_)
 obtain ⟨ba,cap,hv⟩:=hown.form
 by_cases hc:cap=1
 ·exact doO_queue_take_1 op arg data (Nat.zero_le _) hown x h1 hx (by omega) (fun ba' n' cap' e=>by rw [hv] at e;cases e;exact hc)
 ·exact doO_queue_take_2 op arg data (Nat.zero_le _) hown x h1 hx (by omega) (fun ba' n' cap' e=>by rw [hv] at e;cases e;exact hc)
end
end Go.Proofs.Ytgljbdcamagdbaa.Z
namespace Go.Proofs.Ytgljbdcamagdbaa.Z
open Go Go.RowKit
def ir23:IR:=(.seq (.ops [⟨(some 2),(.box 29 (.t 0)),none⟩,⟨(some 4),(.new 29 [(.v (.slice none 0 0)),(.v (.slice none 0 0)),(.v (.slice none 0 0)),(.v (.slice none 0 0)),(.v (.slice none 0 0))]),none⟩,⟨(some 5),(.mv (.k (.c (.v (.int .i64 0))))),none⟩]) (.kill [0,3,5,6,7,8,9,10,11] (.seq (.seq (.ops [⟨(some 7),(.ld true 5 (.t 2)),none⟩,⟨(some 8),(.call 18 [(.t 7)]),none⟩,⟨(some 9),(.un .not (.t 8)),none⟩]) (.kill [7,8] (.cond (.t 9) (.seq (.ops [⟨(some 10),(.build [(.v (.slice none 0 0)),(.v (.slice none 0 0)),(.v (.slice none 0 0)),(.v (.slice none 0 0)),(.v (.slice none 0 0))] []),none⟩,⟨none,(.st 5 (.t 4) (.t 10)),none⟩,⟨(some 5),(.mv (.k (.c (.v (.int .i64 111))))),none⟩]) (.kill [1,2,9,10] .ret)) .skip))) (.kill [5,9] (.seq (.seq (.ops [⟨(some 11),(.mv (.t 1)),none⟩,⟨(some 12),(.bin .lss (.t 11) (.k (.c (.v (.int .i64 1))))),none⟩,⟨(some 13),(.mv (.t 12)),none⟩,⟨(some 14),(.mv (.t 1)),(some (13,false))⟩,⟨(some 15),(.bin .gtr (.t 14) (.k (.c (.v (.int .i64 5))))),(some (13,false))⟩,⟨(some 16),(.pick (.t 13) (.k (.c (.v (.bool true)))) (.t 15)),none⟩]) (.kill [11,12,13,14,15] (.cond (.t 16) (.seq (.ops [⟨(some 17),(.build [(.v (.slice none 0 0)),(.v (.slice none 0 0)),(.v (.slice none 0 0)),(.v (.slice none 0 0)),(.v (.slice none 0 0))] []),none⟩,⟨none,(.st 5 (.t 4) (.t 17)),none⟩,⟨(some 5),(.mv (.k (.c (.v (.int .i64 2))))),none⟩]) (.kill [1,2,16,17] .ret)) .skip))) (.kill [5,16] (.seq (.ops [⟨(some 6),(.new 29 [(.v (.slice none 0 0)),(.v (.slice none 0 0)),(.v (.slice none 0 0)),(.v (.slice none 0 0)),(.v (.slice none 0 0))]),none⟩]) (.seq (.ops [⟨(some 18),(.ld true 5 (.t 2)),none⟩,⟨(some 19),(.call 42 [(.t 18)]),none⟩,⟨(some 20),(.mv (.t 1)),none⟩,⟨(some 21),(.call 41 [(.t 19),(.t 20)]),none⟩,⟨(some 22),(.calli "reclaim/model.put" (.t 21) [(.t 6)]),none⟩]) (.kill [1,2,18,19,20,21,22] (.seq (.ops [⟨(some 23),(.ld true 5 (.t 6)),none⟩,⟨none,(.st 5 (.t 4) (.t 23)),none⟩,⟨(some 5),(.mv (.k (.c (.v (.int .i64 0))))),none⟩]) (.kill [6,23] .ret)))))))))))
def rs23:List RS:=[(.cell 4 true 5),(.t 5)]
def nt23:Nat:=24
theorem callNX {C:Ctx} {f:Nat} {vs:List SV} {dst:Option Nat} {S:St} {K:St→Prop} {ι:Type} (nx:Nat) (T:ι→Nat→SV) (O:Nat→Own) (hc:∀ E a w,Sat C.B C.W C.w0 E S a w→Calls C.P f (vs.map (SV.den E)).toArray w fun r w2=>∃ i,RetN w nx (T i) O r w2)
  (h:∀ i,K (S.call dst (T i S.nid) nx (O S.nid) [])):CallVC C f vs dst S K:=by
 refine callx_intro (ι:=ι) (q:=fun _=>True) (tmpl:=fun i=>T i S.nid) (nx:=fun _=>nx) (eff:=fun _=>O S.nid) (arrs':=fun _=>[]) (ks:=[]) (fun E a w hs=>?_) (fun i hi=>by cases hi) (fun i _=>h i)
 refine (hc E a w hs).mono ?_
 rintro e w' ⟨i,v,rfl,hb,hN⟩
 obtain ⟨N,hN1,hN2⟩:=hN S.nid
 refine ⟨v,rfl,i,trivial,N,hN1,fun E2 _ _ hag=>?_⟩
 obtain ⟨h1,H,h2,h3,h4⟩:=hN2 E2 hag
 exact ⟨h1,Fits.G ⟨fun _ _=>⟨hb.os,hb.tape,hb.output,hb.size,fun n hn _=>hb.block n hn,H,h2,h3,fun x c hc n o hn=>⟨(h4 x c hc n o hn).1,Or.inl (h4 x c hc n o hn).2⟩⟩,fun _ _ x A hA=>by simp [atN,look] at hA⟩⟩
theorem retOne {P:Program} {A:List Nat} {w:World} {rs:List RS} {T:Nat→SV} {v:SV} {S:St} {α:Type} {ty s:Nat} {enc:α→List Value} {xs:List α} {d:α} (i:Nat) (hv:∀ b,v=(T b).ren (fromσ b fun _=>i)∧(T b).okN (NewIds b 1)) (hi:look S.own i=some (.one (.ar xs.length s (ats enc xs d) ty))):RetVC (mkC P A w rs (RetN w 1 T (lsO ty s enc xs d))) v S:=by
 refine retN (fun _=>i) hv (fun b=>?_) (fun b=>?_)
 ·refine ⟨⟨⟨Nat.le_refl _,by omega⟩,?_⟩,trivial⟩
  simp only [fromσ,atN,hi,Fm.get,and_self,if_true]
  exact ⟨Nat.le_refl _,rfl,rfl,fun e he=>ats_rn e _ _⟩
 ·exact injN_from fun i hi j hj _=>by simp [lsO,keysL] at hi hj;omega
def alL (m:MC) (b:Nat):SV:=.tup [(true,mcL b m),(false,[.v (.bool true)]),(false,[.v (.int .i64 0)])]
def alX1 (ba:Addr) (m:MC) (b:Nat):SV:=.tup [(true,mcY1 ba b m),(false,[.v (.bool true)]),(false,[.v (.int .i64 0)])]
def alX2 (ba:Addr) (m:MC) (b:Nat):SV:=.tup [(true,mcY2 ba b m),(false,[.v (.bool true)]),(false,[.v (.int .i64 0)])]
def plL (m:MC) (b:Nat):SV:=.tup [(true,mcL b m),(false,[.v (.int .i64 (-1))]),(false,[.v (.int .i64 0)])]
def paL (m:MC) (b:Nat):SV:=.tup [(true,mcL b m),(false,[.v (.int .i64 0)])]
def mcI (i0 i1 i2 i3 i4:Nat) (m:MC):List SC:=[.sl (i0,0,0) 1 0 m.cell.length none,.sl (i1,0,0) 1 0 m.stack.length none,.sl (i2,0,0) 1 0 m.queue.length none,.sl (i3,0,0) 1 0 m.set.length none,.sl (i4,0,0) 2 0 m.table.length none]
theorem alL_ren (i0 i1 i2 i3 i4:Nat) (m:MC) (b:Nat):SV.tup [(true,mcI i0 i1 i2 i3 i4 m),(false,[.v (.bool true)]),(false,[.v (.int .i64 0)])]=(alL m b).ren (fromσ b (fivN i0 i1 i2 i3 i4))∧(alL m b).okN (NewIds b 5):=by
 obtain ⟨h1,h2⟩:=mcL_ren i0 i1 i2 i3 i4 m b
 exact ⟨by simp only [alL,SV.ren,ren1L,ren1,h1,SC.renL,SC.ren,mcI],by simp only [alL,SV.okN,ok1L,h2,SC.okL,SC.okN,and_self]⟩
theorem plL_ren (i0 i1 i2 i3 i4:Nat) (m:MC) (b:Nat):SV.tup [(true,mcI i0 i1 i2 i3 i4 m),(false,[.v (.int .i64 (-1))]),(false,[.v (.int .i64 0)])]=(plL m b).ren (fromσ b (fivN i0 i1 i2 i3 i4))∧(plL m b).okN (NewIds b 5):=by
 obtain ⟨h1,h2⟩:=mcL_ren i0 i1 i2 i3 i4 m b
 exact ⟨by simp only [plL,SV.ren,ren1L,ren1,h1,SC.renL,SC.ren,mcI],by simp only [plL,SV.okN,ok1L,h2,SC.okL,SC.okN,and_self]⟩
theorem nm_eq {m:MC} {b:Nat} {x y:Nm} {c d:Blk} (hx:atN (mcO m b) x=some c) (hy:atN (mcO m b) y=some d) (h:x.1=y.1):x=y:=by
 obtain ⟨x1,x2,x3⟩:=x
 obtain ⟨y1,y2,y3⟩:=y
 simp only at h
 subst h
 obtain ⟨F,hF,hx⟩:=atN_some hx
 obtain ⟨G,hG,hy⟩:=atN_some hy
 rw [hF] at hG
 cases hG
 have hone:∃ B,F = .one B:=by
  simp only [mcO,look_cons,look] at hF
  (repeat' split at hF) <;> first | exact ⟨_,(Option.some.inj hF).symm⟩ | cases hF
 obtain ⟨B,rfl⟩:=hone
 simp only [Fm.get] at hx hy
 split at hx
 ·next e =>
  split at hy
  ·next e'=>obtain ⟨rfl,rfl⟩:=e;obtain ⟨rfl,rfl⟩:=e';rfl
  ·cases hy
 ·cases hx
def clQ (op arg data k v:Int):List Value:=[.int .i64 0,.int .i64 op,.int .i64 arg,.int .i64 data,.int .i64 0,.int .i64 0,.int .i64 0,.int .i64 k,.int .i64 v]
set_option maxRecDepth 100000 in
set_option maxHeartbeats 4000000 in
theorem al_own {w:World} {v:Value} {m:MC} (op arg data:Int) (h:Cont w v m) (d:MC×Int×Int) (hd:∀ (w' : World) v',Cont w' v' m→Calls Try.prog 25 #[v',.int .i64 op,.int .i64 arg,.int .i64 data] w' (RetN w' 5 (d3L d 0) (mcO d.1))) :
  Calls Try.prog 29 #[v,.agg (clQ op arg data 0 0).toArray] w (RetN w 5 (alL d.1) (mcO d.1)):=by
 obtain ⟨v0,v1,v2,v3,v4,rfl,h'⟩:=id h
 refine enterC (A:=[]) (c:=ir29) (rs:=rs29) (nt:=nt29) h [.agg (mcS 0),.agg ((clQ op arg data 0 0).map .v)] _ Try.func29 rfl (by kernel_rfl) (by kernel_rfl) rfl (fun E' h0=>by
  simp [mcS,SV.den,SC.den,clQ] at h0 ⊢
  simp [h0]) (of_decide_eq_true rfl) ?_
 simp (maxSteps:=2000000) only [ir29,nt29,rs29,go_sem,↓reduceIte,Nat.reduceLT,Nat.reduceLeDiff,Nat.reduceAdd,Nat.reduceSub,Nat.reduceMul,Nat.reduceEqDiff,reduceCtorEq,Int.reduceToNat,Int.reduceEq,Int.reduceBEq,Int.reduceBNe,Int.reduceLT,Int.reduceLE,Int.reduceNeg,Int.reduceAdd,Int.reduceSub,Int.reduceMul,Int.reduceGE,Int.reduceGT,endO,mcS,mcA,clQ,List.map]
 refine callN 5 (d3L d 0) (mcO d.1) (fun E a w' hs=>hd w' _ (cont_at hs 0 rfl rfl rfl rfl rfl)) ?_
 simp (maxSteps:=2000000) only [go_sem,↓reduceIte,Nat.reduceLT,Nat.reduceLeDiff,Nat.reduceAdd,Nat.reduceSub,Nat.reduceMul,Nat.reduceEqDiff,reduceCtorEq,Int.reduceToNat,Int.reduceEq,Int.reduceBEq,Int.reduceBNe,Int.reduceLT,Int.reduceLE,Int.reduceNeg,Int.reduceAdd,Int.reduceSub,Int.reduceMul,Int.reduceGE,Int.reduceGT,endO,d3L,mcL,mcO]
 exact ret5 (m:=d.1) 8 9 10 11 12 (alL_ren 8 9 10 11 12 d.1) rfl (fun _ _=>rfl) rfl (fun _ _=>rfl) rfl (fun _ _=>rfl) rfl (fun _ _=>rfl) rfl (fun _ _=>rfl) (by decide)
theorem retA1 {P:Program} {A:List Nat} {w:World} {rs:List RS} {S:St} {m:MC} (i0 i1 i2 i3 i4:Nat) (ba:Addr) (h0:look S.own i0=some (.one (.ar m.cell.length 1 (ats eI m.cell 0) 3))) (h2:look S.own i2=some (.one (.ar m.queue.length 1 (ats eI m.queue 0) 3))) (h3:look S.own i3=some (.one (.ar m.set.length 1 (ats eI m.set 0) 3))) (h4:look S.own i4=some (.one (.ar m.table.length 2 (ats eP m.table (0,0)) 76))) (hn:List.Nodup [i0,i1,i2,i3,i4]) :
  RetVC (mkC P A w rs (RetN w 5 (alX1 ba m) (mcX1 m))) (.tup [(true,[.sl (i0,0,0) 1 0 m.cell.length none,.v (.slice (some ba) 0 0),.sl (i2,0,0) 1 0 m.queue.length none,.sl (i3,0,0) 1 0 m.set.length none,.sl (i4,0,0) 2 0 m.table.length none]),(false,[.v (.bool true)]),(false,[.v (.int .i64 0)])]) S:=by
 refine retN (fivN i0 i1 i2 i3 i4) (fun b=>?_) (fun b=>?_) (fun b=>?_)
 ·simp [alX1,mcY1,SV.ren,ren1L,ren1,SC.renL,SC.ren,fromσ,fivN,SV.okN,ok1L,SC.okL,SC.okN,NewIds]
 ·refine ⟨⟨⟨by omega,by omega⟩,?_⟩,⟨⟨by omega,by omega⟩,?_⟩,⟨⟨by omega,by omega⟩,?_⟩,⟨⟨by omega,by omega⟩,?_⟩,trivial⟩
  ·simp only [fromσ,Nat.sub_self,fivN,atN,h0,Fm.get,and_self,if_true];exact ⟨Nat.le_refl _,rfl,rfl,fun e he=>ats_rn e _ _⟩
  ·simp only [fromσ,Nat.add_sub_cancel_left,fivN,atN,h2,Fm.get,and_self,if_true];exact ⟨Nat.le_refl _,rfl,rfl,fun e he=>ats_rn e _ _⟩
  ·simp only [fromσ,Nat.add_sub_cancel_left,fivN,atN,h3,Fm.get,and_self,if_true];exact ⟨Nat.le_refl _,rfl,rfl,fun e he=>ats_rn e _ _⟩
  ·simp only [fromσ,Nat.add_sub_cancel_left,fivN,atN,h4,Fm.get,and_self,if_true];exact ⟨Nat.le_refl _,rfl,rfl,fun e he=>ats_rn e _ _⟩
 ·refine injN_from fun i hi j hj he=>?_
  simp only [List.nodup_cons,List.mem_cons,List.not_mem_nil,or_false,not_or,List.nodup_nil,and_true,not_false_eq_true] at hn
  simp only [mcX1,keysL,List.map_cons,List.map_nil,List.mem_cons,List.not_mem_nil,or_false] at hi hj
  rcases hi with rfl | rfl | rfl | rfl <;> rcases hj with rfl | rfl | rfl | rfl <;> simp only [Nat.sub_self,Nat.add_sub_cancel_left,fivN] at he <;> first | rfl | omega
theorem retA2 {P:Program} {A:List Nat} {w:World} {rs:List RS} {S:St} {m:MC} (i0 i1 i2 i3 i4:Nat) (ba:Addr) (h0:look S.own i0=some (.one (.ar m.cell.length 1 (ats eI m.cell 0) 3))) (h1:look S.own i1=some (.one (.ar m.stack.length 1 (ats eI m.stack 0) 3))) (h3:look S.own i3=some (.one (.ar m.set.length 1 (ats eI m.set 0) 3))) (h4:look S.own i4=some (.one (.ar m.table.length 2 (ats eP m.table (0,0)) 76))) (hn:List.Nodup [i0,i1,i2,i3,i4]) :
  RetVC (mkC P A w rs (RetN w 5 (alX2 ba m) (mcX2 m))) (.tup [(true,[.sl (i0,0,0) 1 0 m.cell.length none,.sl (i1,0,0) 1 0 m.stack.length none,.v (.slice (some ba) 0 0),.sl (i3,0,0) 1 0 m.set.length none,.sl (i4,0,0) 2 0 m.table.length none]),(false,[.v (.bool true)]),(false,[.v (.int .i64 0)])]) S:=by
 refine retN (fivN i0 i1 i2 i3 i4) (fun b=>?_) (fun b=>?_) (fun b=>?_)
 ·simp [alX2,mcY2,SV.ren,ren1L,ren1,SC.renL,SC.ren,fromσ,fivN,SV.okN,ok1L,SC.okL,SC.okN,NewIds]
 ·refine ⟨⟨⟨by omega,by omega⟩,?_⟩,⟨⟨by omega,by omega⟩,?_⟩,⟨⟨by omega,by omega⟩,?_⟩,⟨⟨by omega,by omega⟩,?_⟩,trivial⟩
  ·simp only [fromσ,Nat.sub_self,fivN,atN,h0,Fm.get,and_self,if_true];exact ⟨Nat.le_refl _,rfl,rfl,fun e he=>ats_rn e _ _⟩
  ·simp only [fromσ,Nat.add_sub_cancel_left,fivN,atN,h1,Fm.get,and_self,if_true];exact ⟨Nat.le_refl _,rfl,rfl,fun e he=>ats_rn e _ _⟩
  ·simp only [fromσ,Nat.add_sub_cancel_left,fivN,atN,h3,Fm.get,and_self,if_true];exact ⟨Nat.le_refl _,rfl,rfl,fun e he=>ats_rn e _ _⟩
  ·simp only [fromσ,Nat.add_sub_cancel_left,fivN,atN,h4,Fm.get,and_self,if_true];exact ⟨Nat.le_refl _,rfl,rfl,fun e he=>ats_rn e _ _⟩
 ·refine injN_from fun i hi j hj he=>?_
  simp only [List.nodup_cons,List.mem_cons,List.not_mem_nil,or_false,not_or,List.nodup_nil,and_true,not_false_eq_true] at hn
  simp only [mcX2,keysL,List.map_cons,List.map_nil,List.mem_cons,List.not_mem_nil,or_false] at hi hj
  rcases hi with rfl | rfl | rfl | rfl <;> rcases hj with rfl | rfl | rfl | rfl <;> simp only [Nat.sub_self,Nat.add_sub_cancel_left,fivN] at he <;> first | rfl | omega
set_option maxRecDepth 100000 in
set_option maxHeartbeats 4000000 in
theorem al_odd1 {w:World} {v:Value} {m:MC} (op arg data:Int) (h:Cont w v m) (d:MC×Int×Int) (hd:∀ (w' : World) v',Cont w' v' m→Calls Try.prog 25 #[v',.int .i64 op,.int .i64 arg,.int .i64 data] w' fun r w2=>∃ ba:Addr,RetN w' 5 (d3X1 ba d 0) (mcX1 d.1) r w2) :
  Calls Try.prog 29 #[v,.agg (clQ op arg data 0 0).toArray] w fun r w2=>∃ ba:Addr,RetN w 5 (alX1 ba d.1) (mcX1 d.1) r w2:=by
 obtain ⟨v0,v1,v2,v3,v4,rfl,h'⟩:=id h
 refine enterC (A:=[]) (c:=ir29) (rs:=rs29) (nt:=nt29) h [.agg (mcS 0),.agg ((clQ op arg data 0 0).map .v)] _ Try.func29 rfl (by kernel_rfl) (by kernel_rfl) rfl (fun E' h0=>by
  simp [mcS,SV.den,SC.den,clQ] at h0 ⊢
  simp [h0]) (of_decide_eq_true rfl) ?_
 simp (maxSteps:=2000000) only [ir29,nt29,rs29,go_sem,↓reduceIte,Nat.reduceLT,Nat.reduceLeDiff,Nat.reduceAdd,Nat.reduceSub,Nat.reduceMul,Nat.reduceEqDiff,reduceCtorEq,Int.reduceToNat,Int.reduceEq,Int.reduceBEq,Int.reduceBNe,Int.reduceLT,Int.reduceLE,Int.reduceNeg,Int.reduceAdd,Int.reduceSub,Int.reduceMul,Int.reduceGE,Int.reduceGT,endO,mcS,mcA,clQ,List.map]
 refine callNX 5 (fun ba=>d3X1 ba d 0) (mcX1 d.1) (fun E a w' hs=>hd w' _ (cont_at hs 0 rfl rfl rfl rfl rfl)) (fun ba=>?_)
 simp (maxSteps:=2000000) only [go_sem,↓reduceIte,Nat.reduceLT,Nat.reduceLeDiff,Nat.reduceAdd,Nat.reduceSub,Nat.reduceMul,Nat.reduceEqDiff,reduceCtorEq,Int.reduceToNat,Int.reduceEq,Int.reduceBEq,Int.reduceBNe,Int.reduceLT,Int.reduceLE,Int.reduceNeg,Int.reduceAdd,Int.reduceSub,Int.reduceMul,Int.reduceGE,Int.reduceGT,endO,d3X1,mcY1,mcX1]
 exact fun E a w' hs=>⟨ba,retA1 (P:=Try.prog) (A:=[]) (rs:=rs29) (m:=d.1) 8 9 10 11 12 ba rfl rfl rfl rfl (by decide) E a w' hs⟩
set_option maxRecDepth 100000 in
set_option maxHeartbeats 4000000 in
theorem al_odd2 {w:World} {v:Value} {m:MC} (op arg data:Int) (h:Cont w v m) (d:MC×Int×Int) (hd:∀ (w' : World) v',Cont w' v' m→Calls Try.prog 25 #[v',.int .i64 op,.int .i64 arg,.int .i64 data] w' fun r w2=>∃ ba:Addr,RetN w' 5 (d3X2 ba d 0) (mcX2 d.1) r w2) :
  Calls Try.prog 29 #[v,.agg (clQ op arg data 0 0).toArray] w fun r w2=>∃ ba:Addr,RetN w 5 (alX2 ba d.1) (mcX2 d.1) r w2:=by
 obtain ⟨v0,v1,v2,v3,v4,rfl,h'⟩:=id h
 refine enterC (A:=[]) (c:=ir29) (rs:=rs29) (nt:=nt29) h [.agg (mcS 0),.agg ((clQ op arg data 0 0).map .v)] _ Try.func29 rfl (by kernel_rfl) (by kernel_rfl) rfl (fun E' h0=>by
  simp [mcS,SV.den,SC.den,clQ] at h0 ⊢
  simp [h0]) (of_decide_eq_true rfl) ?_
 simp (maxSteps:=2000000) only [ir29,nt29,rs29,go_sem,↓reduceIte,Nat.reduceLT,Nat.reduceLeDiff,Nat.reduceAdd,Nat.reduceSub,Nat.reduceMul,Nat.reduceEqDiff,reduceCtorEq,Int.reduceToNat,Int.reduceEq,Int.reduceBEq,Int.reduceBNe,Int.reduceLT,Int.reduceLE,Int.reduceNeg,Int.reduceAdd,Int.reduceSub,Int.reduceMul,Int.reduceGE,Int.reduceGT,endO,mcS,mcA,clQ,List.map]
 refine callNX 5 (fun ba=>d3X2 ba d 0) (mcX2 d.1) (fun E a w' hs=>hd w' _ (cont_at hs 0 rfl rfl rfl rfl rfl)) (fun ba=>?_)
 simp (maxSteps:=2000000) only [go_sem,↓reduceIte,Nat.reduceLT,Nat.reduceLeDiff,Nat.reduceAdd,Nat.reduceSub,Nat.reduceMul,Nat.reduceEqDiff,reduceCtorEq,Int.reduceToNat,Int.reduceEq,Int.reduceBEq,Int.reduceBNe,Int.reduceLT,Int.reduceLE,Int.reduceNeg,Int.reduceAdd,Int.reduceSub,Int.reduceMul,Int.reduceGE,Int.reduceGT,endO,d3X2,mcY2,mcX2]
 exact fun E a w' hs=>⟨ba,retA2 (P:=Try.prog) (A:=[]) (rs:=rs29) (m:=d.1) 8 9 10 11 12 ba rfl rfl rfl rfl (by decide) E a w' hs⟩
set_option maxRecDepth 100000 in
set_option maxHeartbeats 4000000 in
theorem al_full {w:World} {v:Value} {m:MC} (h:Cont w v m) (hok:MC.okR m) (hm:mayB m=true):Calls Try.prog 29 #[v,.agg (clQ 30 1 0 4 0).toArray] w (RetN w 5 (alL m) (mcO m)):=by
 obtain ⟨v0,v1,v2,v3,v4,rfl,h'⟩:=id h
 refine enterC (A:=[]) (c:=ir29) (rs:=rs29) (nt:=nt29) h [.agg (mcS 0),.agg ((clQ 30 1 0 4 0).map .v)] _ Try.func29 rfl (by kernel_rfl) (by kernel_rfl) rfl (fun E' h0=>by
  simp [mcS,SV.den,SC.den,clQ] at h0 ⊢
  simp [h0]) (of_decide_eq_true rfl) ?_
 simp (maxSteps:=2000000) only [ir29,nt29,rs29,go_sem,↓reduceIte,Nat.reduceLT,Nat.reduceLeDiff,Nat.reduceAdd,Nat.reduceSub,Nat.reduceMul,Nat.reduceEqDiff,reduceCtorEq,Int.reduceToNat,Int.reduceEq,Int.reduceBEq,Int.reduceBNe,Int.reduceLT,Int.reduceLE,Int.reduceNeg,Int.reduceAdd,Int.reduceSub,Int.reduceMul,Int.reduceGE,Int.reduceGT,endO,mcS,mcA,clQ,List.map]
 refine callN 5 (d3L (doM m 30 1 0) 0) (mcO (doM m 30 1 0).1) (fun E a w' hs=>do_own 30 1 0 (cont_at hs 0 rfl rfl rfl rfl rfl) hok hm (by decide) (by omega) (by rintro ⟨q,_⟩;exact absurd q (by decide))) ?_
 simp (maxSteps:=2000000) only [go_sem,↓reduceIte,Nat.reduceLT,Nat.reduceLeDiff,Nat.reduceAdd,Nat.reduceSub,Nat.reduceMul,Nat.reduceEqDiff,reduceCtorEq,Int.reduceToNat,Int.reduceEq,Int.reduceBEq,Int.reduceBNe,Int.reduceLT,Int.reduceLE,Int.reduceNeg,Int.reduceAdd,Int.reduceSub,Int.reduceMul,Int.reduceGE,Int.reduceGT,endO,d3L,mcL,mcO]
 refine draw_vc (by kernel_rfl) (mkTab_ok _ _) (of_decide_eq_true rfl) (of_decide_eq_true rfl) ?_
 repeat (first | simp (maxSteps:=2000000) only [go_sem,↓reduceIte,Nat.reduceLT,Nat.reduceLeDiff,Nat.reduceAdd,Nat.reduceSub,Nat.reduceMul,Nat.reduceEqDiff,reduceCtorEq,Int.reduceToNat,Int.reduceEq,Int.reduceBEq,Int.reduceBNe,Int.reduceLT,Int.reduceLE,Int.reduceNeg,Int.reduceAdd,Int.reduceSub,Int.reduceMul,Int.reduceGE,Int.reduceGT,endO] | rw [dr_cons])
 refine dcallV (.c (.v (.int .i64 2))) _ (fun E=>rfl) (fun E a w' _=>obj_Z 30 w') ?_
 repeat (first | simp (maxSteps:=2000000) only [go_sem,↓reduceIte,Nat.reduceLT,Nat.reduceLeDiff,Nat.reduceAdd,Nat.reduceSub,Nat.reduceMul,Nat.reduceEqDiff,reduceCtorEq,Int.reduceToNat,Int.reduceEq,Int.reduceBEq,Int.reduceBNe,Int.reduceLT,Int.reduceLE,Int.reduceNeg,Int.reduceAdd,Int.reduceSub,Int.reduceMul,Int.reduceGE,Int.reduceGT,endO] | rw [dr_cons])
 refine dcall_intro (cr_valN (.c (.ifc 91 (.xv (1,0,0)))) [1] (by simp [SV.okN,SC.okN]) (fun E a w' hs=>of_any _ _ _ _ _ 2 w')) rfl trivial trivial (fun k hk=>by cases hk) ?_
 repeat (first | simp (maxSteps:=2000000) only [go_sem,↓reduceIte,Nat.reduceLT,Nat.reduceLeDiff,Nat.reduceAdd,Nat.reduceSub,Nat.reduceMul,Nat.reduceEqDiff,reduceCtorEq,Int.reduceToNat,Int.reduceEq,Int.reduceBEq,Int.reduceBNe,Int.reduceLT,Int.reduceLE,Int.reduceNeg,Int.reduceAdd,Int.reduceSub,Int.reduceMul,Int.reduceGE,Int.reduceGT,endO] | rw [dr_cons])
 refine dcallV (.c (.v (.bool true))) _ (fun E=>rfl) (fun E a w' hs=>by
  obtain ⟨ba,cap,hv,_⟩:=arr_at (d:=(0:Int)) hs 1 rfl
  have:=full_stack ba m.stack.length cap 30 w'
  rw [← hv] at this
  exact this) ?_
 repeat (first | simp (maxSteps:=2000000) only [go_sem,↓reduceIte,Nat.reduceLT,Nat.reduceLeDiff,Nat.reduceAdd,Nat.reduceSub,Nat.reduceMul,Nat.reduceEqDiff,reduceCtorEq,Int.reduceToNat,Int.reduceEq,Int.reduceBEq,Int.reduceBNe,Int.reduceLT,Int.reduceLE,Int.reduceNeg,Int.reduceAdd,Int.reduceSub,Int.reduceMul,Int.reduceGE,Int.reduceGT,endO] | rw [dr_cons])
 refine callN 5 (fun b=>.agg (mcL b m)) (mcO m) (fun E a w' hs=>copied_N (cont_at hs 0 rfl rfl rfl rfl rfl) hok) ?_
 simp (maxSteps:=2000000) only [go_sem,↓reduceIte,Nat.reduceLT,Nat.reduceLeDiff,Nat.reduceAdd,Nat.reduceSub,Nat.reduceMul,Nat.reduceEqDiff,reduceCtorEq,Int.reduceToNat,Int.reduceEq,Int.reduceBEq,Int.reduceBNe,Int.reduceLT,Int.reduceLE,Int.reduceNeg,Int.reduceAdd,Int.reduceSub,Int.reduceMul,Int.reduceGE,Int.reduceGT,endO,mcL,mcO]
 exact ret5 (m:=m) 15 16 17 18 19 (alL_ren 15 16 17 18 19 m) rfl (fun _ _=>rfl) rfl (fun _ _=>rfl) rfl (fun _ _=>rfl) rfl (fun _ _=>rfl) rfl (fun _ _=>rfl) (by decide)
set_option maxRecDepth 100000 in
set_option maxHeartbeats 4000000 in
theorem play_own {w:World} {v:Value} {m:MC} (h:Cont w v m) (hok:MC.okR m) (hm:mayB m=true):Calls Try.prog 32 #[v,.slice none 0 0] w (RetN w 5 (plL m) (mcO m)):=by
 obtain ⟨v0,v1,v2,v3,v4,rfl,h'⟩:=id h
 refine enterC (A:=[]) (c:=ir32) (rs:=rs32) (nt:=nt32) h [.agg (mcS 0),.c (.v (.slice none 0 0))] _ Try.func32 rfl (by kernel_rfl) (by kernel_rfl) rfl (fun E' h0=>by
  simp [mcS,SV.den,SC.den,clQ] at h0 ⊢
  simp [h0]) (of_decide_eq_true rfl) ?_
 simp (maxSteps:=2000000) only [ir32,nt32,rs32,go_sem,↓reduceIte,Nat.reduceLT,Nat.reduceLeDiff,Nat.reduceAdd,Nat.reduceSub,Nat.reduceMul,Nat.reduceEqDiff,reduceCtorEq,Int.reduceToNat,Int.reduceEq,Int.reduceBEq,Int.reduceBNe,Int.reduceLT,Int.reduceLE,Int.reduceNeg,Int.reduceAdd,Int.reduceSub,Int.reduceMul,Int.reduceGE,Int.reduceGT,endO,mcS,mcA,clQ,List.map]
 refine callV (.c (.v (.bool true))) _ (fun E=>rfl) (fun E a w' hs=>by have:=may_Z (cont_at hs 0 rfl rfl rfl rfl rfl) (w:=w');rw [hm] at this;exact this) ?_
 simp (maxSteps:=2000000) only [go_sem,↓reduceIte,Nat.reduceLT,Nat.reduceLeDiff,Nat.reduceAdd,Nat.reduceSub,Nat.reduceMul,Nat.reduceEqDiff,reduceCtorEq,Int.reduceToNat,Int.reduceEq,Int.reduceBEq,Int.reduceBNe,Int.reduceLT,Int.reduceLE,Int.reduceNeg,Int.reduceAdd,Int.reduceSub,Int.reduceMul,Int.reduceGE,Int.reduceGT,endO]
 refine loop_unr 1 ?_
 intro ι I μ i hk
 simp (maxSteps:=2000000) only [go_sem,↓reduceIte,Nat.reduceLT,Nat.reduceLeDiff,Nat.reduceAdd,Nat.reduceSub,Nat.reduceMul,Nat.reduceEqDiff,reduceCtorEq,Int.reduceToNat,Int.reduceEq,Int.reduceBEq,Int.reduceBNe,Int.reduceLT,Int.reduceLE,Int.reduceNeg,Int.reduceAdd,Int.reduceSub,Int.reduceMul,Int.reduceGE,Int.reduceGT,endO]
 refine callN 5 (fun b=>.agg (mcL b m)) (mcO m) (fun E a w' hs=>copied_N (cont_at hs 0 rfl rfl rfl rfl rfl) hok) ?_
 simp (maxSteps:=2000000) only [go_sem,↓reduceIte,Nat.reduceLT,Nat.reduceLeDiff,Nat.reduceAdd,Nat.reduceSub,Nat.reduceMul,Nat.reduceEqDiff,reduceCtorEq,Int.reduceToNat,Int.reduceEq,Int.reduceBEq,Int.reduceBNe,Int.reduceLT,Int.reduceLE,Int.reduceNeg,Int.reduceAdd,Int.reduceSub,Int.reduceMul,Int.reduceGE,Int.reduceGT,endO,mcL,mcO]
 refine loop_unr 1 ?_
 intro ι I μ i hk
 simp (maxSteps:=2000000) only [go_sem,↓reduceIte,Nat.reduceLT,Nat.reduceLeDiff,Nat.reduceAdd,Nat.reduceSub,Nat.reduceMul,Nat.reduceEqDiff,reduceCtorEq,Int.reduceToNat,Int.reduceEq,Int.reduceBEq,Int.reduceBNe,Int.reduceLT,Int.reduceLE,Int.reduceNeg,Int.reduceAdd,Int.reduceSub,Int.reduceMul,Int.reduceGE,Int.reduceGT,endO]
 exact ret5 (m:=m) 7 8 9 10 11 (plL_ren 7 8 9 10 11 m) rfl (fun _ _=>rfl) rfl (fun _ _=>rfl) rfl (fun _ _=>rfl) rfl (fun _ _=>rfl) rfl (fun _ _=>rfl) (by decide)
theorem retN_pa1 {w:World} {m:MC} {r:Ending} {w' : World} (h:RetN w 1 (fun b=>.tup [(true,[.sl (b,0,0) 1 0 m.cell.length none,.v (.slice none 0 0),.v (.slice none 0 0),.v (.slice none 0 0),.v (.slice none 0 0)]),(false,[.v (.int .i64 0)])]) (lsO 3 1 eI m.cell 0) r w'):RetN w 5 (paL (partM m 1)) (mcO (partM m 1)) r w':=by
 obtain ⟨v,rfl,hb,hN⟩:=h
 refine ⟨v,rfl,hb,fun b=>?_⟩
 obtain ⟨N,h1,h2⟩:=hN (b)
 refine ⟨⟨N.ρ,fun x=>if x.1=b then N.κ x else 0,fun x=>if x.1=b then N.ν x else true,N.χ⟩,h1,fun E2 hE2=>?_⟩
 have hk:AgreeD (NewIds (b) 1) N E2:=fun x hx=>by
  obtain ⟨g1,g2⟩:=hx
  have e:x.1=b:=by omega
  have:=hE2 x ⟨by omega,by omega⟩
  simpa [Same,e] using this
 have z1:E2.κ (b+1,0,0)=0∧E2.ν (b+1,0,0)=true:=by
  obtain ⟨_,g2,g3,_⟩:=hE2 (b+1,0,0) ⟨by show b≤_;omega,by show _<b+5;omega⟩
  rw [g2,g3]
  simp only
  rw [if_neg (by omega),if_neg (by omega)]
  exact ⟨rfl,rfl⟩
 have z2:E2.κ (b+2,0,0)=0∧E2.ν (b+2,0,0)=true:=by
  obtain ⟨_,g2,g3,_⟩:=hE2 (b+2,0,0) ⟨by show b≤_;omega,by show _<b+5;omega⟩
  rw [g2,g3]
  simp only
  rw [if_neg (by omega),if_neg (by omega)]
  exact ⟨rfl,rfl⟩
 have z3:E2.κ (b+3,0,0)=0∧E2.ν (b+3,0,0)=true:=by
  obtain ⟨_,g2,g3,_⟩:=hE2 (b+3,0,0) ⟨by show b≤_;omega,by show _<b+5;omega⟩
  rw [g2,g3]
  simp only
  rw [if_neg (by omega),if_neg (by omega)]
  exact ⟨rfl,rfl⟩
 have z4:E2.κ (b+4,0,0)=0∧E2.ν (b+4,0,0)=true:=by
  obtain ⟨_,g2,g3,_⟩:=hE2 (b+4,0,0) ⟨by show b≤_;omega,by show _<b+5;omega⟩
  rw [g2,g3]
  simp only
  rw [if_neg (by omega),if_neg (by omega)]
  exact ⟨rfl,rfl⟩
 obtain ⟨hv,H,hd,hj,hs⟩:=h2 E2 hk
 refine ⟨?_,fun x=>if x.1=b then H x else emp,fun x c hx=>?_,fun x y c d hx hy hne n=>?_,fun x c hx n o hn=>?_⟩
 ·rw [hv]
  simp [paL,mcL,partM,SV.den,den1,SC.den,z1.1,z1.2,z2.1,z2.2,z3.1,z3.2,z4.1,z4.2]
 ·have hx:atN (mcO (partM m 1) b) x=some c:=hx
  simp only [mcO,partM,if_true,if_false,Int.reduceEq] at hx
  rcases atN_one hx with ⟨rfl,rfl⟩ | hx
  ·simp only [if_true]
   exact hd _ _ (by simp [lsO,atN,look,Fm.get])
  rcases atN_one hx with ⟨rfl,rfl⟩ | hx
  ·simp only [if_neg (show ¬ (b+1=b) by omega)]
   exact Or.inl ⟨trivial,z1.1,rfl,rfl⟩
  rcases atN_one hx with ⟨rfl,rfl⟩ | hx
  ·simp only [if_neg (show ¬ (b+2=b) by omega)]
   exact Or.inl ⟨trivial,z2.1,rfl,rfl⟩
  rcases atN_one hx with ⟨rfl,rfl⟩ | hx
  ·simp only [if_neg (show ¬ (b+3=b) by omega)]
   exact Or.inl ⟨trivial,z3.1,rfl,rfl⟩
  rcases atN_one hx with ⟨rfl,rfl⟩ | hx
  ·simp only [if_neg (show ¬ (b+4=b) by omega)]
   exact Or.inl ⟨trivial,z4.1,rfl,rfl⟩
  exact (atN_nil hx).elim
 ·by_cases e1:x.1=b
  ·by_cases e2:y.1=b
   ·exact absurd (nm_eq hx hy (e1.trans e2.symm)) hne
   ·right;simp [e2,emp]
  ·left;simp [e1,emp]
 ·by_cases e1:x.1=b
  ·simp only [if_pos e1] at hn
   have hx' : atN (lsO 3 1 eI m.cell 0 (b)) x=some c:=by
    obtain ⟨x1,x2,x3⟩:=x
    simp only at e1
    have hx:atN (mcO (partM m 1) b) (b,x2,x3)=some c:=(show ∀ q,x1=q→atN (mcO (partM m 1) b) (q,x2,x3)=some c by rintro q rfl;exact hx) _ e1
    rw [show ((x1,x2,x3):Nm)=(b,x2,x3) by rw [e1]]
    simp [mcO,partM,atN,look,Fm.get] at hx
    simp [lsO,atN,look,Fm.get,hx]
   exact hs x c hx' n o hn
  ·simp [e1,emp] at hn
set_option maxRecDepth 100000 in
set_option maxHeartbeats 4000000 in
theorem part_own1 {w:World} {v:Value} {m:MC} (h:Cont w v m) (hok:MC.okR m) (hm:mayB m=true):Calls Try.prog 23 #[v,.int .i64 1] w (RetN w 5 (paL (partM m 1)) (mcO (partM m 1))):=by
 refine Calls.mono (R:=RetN w 1 (fun b=>.tup [(true,[.sl (b,0,0) 1 0 m.cell.length none,.v (.slice none 0 0),.v (.slice none 0 0),.v (.slice none 0 0),.v (.slice none 0 0)]),(false,[.v (.int .i64 0)])]) (lsO 3 1 eI m.cell 0)) ?_ (fun e w2 he=>retN_pa1 he)
 obtain ⟨v0,v1,v2,v3,v4,rfl,h'⟩:=id h
 refine enterC (A:=[]) (c:=ir23) (rs:=rs23) (nt:=nt23) h [.agg (mcS 0),.c (.v (.int .i64 1))] _ Try.func23 rfl (by kernel_rfl) (by kernel_rfl) rfl (fun E' h0=>by
  simp [mcS,SV.den,SC.den,clQ] at h0 ⊢
  simp [h0]) (of_decide_eq_true rfl) ?_
 simp (maxSteps:=2000000) only [ir23,nt23,rs23,go_sem,↓reduceIte,Nat.reduceLT,Nat.reduceLeDiff,Nat.reduceAdd,Nat.reduceSub,Nat.reduceMul,Nat.reduceEqDiff,reduceCtorEq,Int.reduceToNat,Int.reduceEq,Int.reduceBEq,Int.reduceBNe,Int.reduceLT,Int.reduceLE,Int.reduceNeg,Int.reduceAdd,Int.reduceSub,Int.reduceMul,Int.reduceGE,Int.reduceGT,endO,mcS,mcA,clQ,List.map]
 refine callV (.c (.v (.bool true))) _ (fun E=>rfl) (fun E a w' hs=>by have:=may_Z (cont_at hs 0 rfl rfl rfl rfl rfl) (w:=w');rw [hm] at this;exact this) ?_
 simp (maxSteps:=2000000) only [go_sem,↓reduceIte,Nat.reduceLT,Nat.reduceLeDiff,Nat.reduceAdd,Nat.reduceSub,Nat.reduceMul,Nat.reduceEqDiff,reduceCtorEq,Int.reduceToNat,Int.reduceEq,Int.reduceBEq,Int.reduceBNe,Int.reduceLT,Int.reduceLE,Int.reduceNeg,Int.reduceAdd,Int.reduceSub,Int.reduceMul,Int.reduceGE,Int.reduceGT,endO]
 refine callN 5 (fun b=>.agg (mcL b m)) (mcO m) (fun E a w' hs=>copied_N (cont_at hs 0 rfl rfl rfl rfl rfl) hok) ?_
 simp (maxSteps:=2000000) only [go_sem,↓reduceIte,Nat.reduceLT,Nat.reduceLeDiff,Nat.reduceAdd,Nat.reduceSub,Nat.reduceMul,Nat.reduceEqDiff,reduceCtorEq,Int.reduceToNat,Int.reduceEq,Int.reduceBEq,Int.reduceBNe,Int.reduceLT,Int.reduceLE,Int.reduceNeg,Int.reduceAdd,Int.reduceSub,Int.reduceMul,Int.reduceGE,Int.reduceGT,endO,mcL,mcO]
 refine callT [8] (.c (.ifc 90 (.sl (8,0,0) 1 0 m.cell.length none))) (by simp [SV.okN,SC.okN]) rfl (fun E a w' hs=>of_any _ _ _ _ _ 1 w') ?_
 simp (maxSteps:=2000000) only [go_sem,↓reduceIte,Nat.reduceLT,Nat.reduceLeDiff,Nat.reduceAdd,Nat.reduceSub,Nat.reduceMul,Nat.reduceEqDiff,reduceCtorEq,Int.reduceToNat,Int.reduceEq,Int.reduceBEq,Int.reduceBNe,Int.reduceLT,Int.reduceLE,Int.reduceNeg,Int.reduceAdd,Int.reduceSub,Int.reduceMul,Int.reduceGE,Int.reduceGT,endO]
 refine ⟨73,⟨by kernel_rfl,_,Try.underlying90⟩,⟨_,Try.func73,by kernel_rfl,by kernel_rfl⟩,?_⟩
 refine call_inline (c:=ir73) (rs:=rs73) (nt:=nt73) 1000 (mkTab_ok _ _) Try.func73 rfl (by kernel_rfl) (by kernel_rfl) rfl (by simp [okVs,SV.okN,SC.okL,SC.okN]) (of_decide_eq_true rfl) (fun E0 a0 ht0=>?_)
 simp (maxSteps:=2000000) only [ir73,nt73,rs73,go_sem,↓reduceIte,Nat.reduceLT,Nat.reduceLeDiff,Nat.reduceAdd,Nat.reduceSub,Nat.reduceMul,Nat.reduceEqDiff,reduceCtorEq,Int.reduceToNat,Int.reduceEq,Int.reduceBEq,Int.reduceBNe,Int.reduceLT,Int.reduceLE,Int.reduceNeg,Int.reduceAdd,Int.reduceSub,Int.reduceMul,Int.reduceGE,Int.reduceGT,endO,mkI_rs]
 refine retI ht0 _ rfl (of_decide_eq_true rfl) (by simp [SV.okN,SC.okN,ok1L]) ?_
 simp (maxSteps:=2000000) only [go_sem,↓reduceIte,Nat.reduceLT,Nat.reduceLeDiff,Nat.reduceAdd,Nat.reduceSub,Nat.reduceMul,Nat.reduceEqDiff,reduceCtorEq,Int.reduceToNat,Int.reduceEq,Int.reduceBEq,Int.reduceBNe,Int.reduceLT,Int.reduceLE,Int.reduceNeg,Int.reduceAdd,Int.reduceSub,Int.reduceMul,Int.reduceGE,Int.reduceGT,endO]
 exact retOne 8 (fun b=>by simp [SV.ren,ren1L,ren1,SC.renL,SC.ren,fromσ,SV.okN,ok1L,SC.okL,SC.okN,NewIds]) rfl
theorem retN_pa2 {w:World} {m:MC} {r:Ending} {w' : World} (h:RetN w 1 (fun b=>.tup [(true,[.v (.slice none 0 0),.sl (b,0,0) 1 0 m.stack.length none,.v (.slice none 0 0),.v (.slice none 0 0),.v (.slice none 0 0)]),(false,[.v (.int .i64 0)])]) (lsO 3 1 eI m.stack 0) r w'):RetN w 5 (paL (partM m 2)) (mcO (partM m 2)) r w':=by
 obtain ⟨v,rfl,hb,hN⟩:=h
 refine ⟨v,rfl,hb,fun b=>?_⟩
 obtain ⟨N,h1,h2⟩:=hN (b+1)
 refine ⟨⟨N.ρ,fun x=>if x.1=b+1 then N.κ x else 0,fun x=>if x.1=b+1 then N.ν x else true,N.χ⟩,h1,fun E2 hE2=>?_⟩
 have hk:AgreeD (NewIds (b+1) 1) N E2:=fun x hx=>by
  obtain ⟨g1,g2⟩:=hx
  have e:x.1=b+1:=by omega
  have:=hE2 x ⟨by omega,by omega⟩
  simpa [Same,e] using this
 have z0:E2.κ (b,0,0)=0∧E2.ν (b,0,0)=true:=by
  obtain ⟨_,g2,g3,_⟩:=hE2 (b,0,0) ⟨by show b≤_;omega,by show _<b+5;omega⟩
  rw [g2,g3]
  simp only
  rw [if_neg (by omega),if_neg (by omega)]
  exact ⟨rfl,rfl⟩
 have z2:E2.κ (b+2,0,0)=0∧E2.ν (b+2,0,0)=true:=by
  obtain ⟨_,g2,g3,_⟩:=hE2 (b+2,0,0) ⟨by show b≤_;omega,by show _<b+5;omega⟩
  rw [g2,g3]
  simp only
  rw [if_neg (by omega),if_neg (by omega)]
  exact ⟨rfl,rfl⟩
 have z3:E2.κ (b+3,0,0)=0∧E2.ν (b+3,0,0)=true:=by
  obtain ⟨_,g2,g3,_⟩:=hE2 (b+3,0,0) ⟨by show b≤_;omega,by show _<b+5;omega⟩
  rw [g2,g3]
  simp only
  rw [if_neg (by omega),if_neg (by omega)]
  exact ⟨rfl,rfl⟩
 have z4:E2.κ (b+4,0,0)=0∧E2.ν (b+4,0,0)=true:=by
  obtain ⟨_,g2,g3,_⟩:=hE2 (b+4,0,0) ⟨by show b≤_;omega,by show _<b+5;omega⟩
  rw [g2,g3]
  simp only
  rw [if_neg (by omega),if_neg (by omega)]
  exact ⟨rfl,rfl⟩
 obtain ⟨hv,H,hd,hj,hs⟩:=h2 E2 hk
 refine ⟨?_,fun x=>if x.1=b+1 then H x else emp,fun x c hx=>?_,fun x y c d hx hy hne n=>?_,fun x c hx n o hn=>?_⟩
 ·rw [hv]
  simp [paL,mcL,partM,SV.den,den1,SC.den,z0.1,z0.2,z2.1,z2.2,z3.1,z3.2,z4.1,z4.2]
 ·have hx:atN (mcO (partM m 2) b) x=some c:=hx
  simp only [mcO,partM,if_true,if_false,Int.reduceEq] at hx
  rcases atN_one hx with ⟨rfl,rfl⟩ | hx
  ·simp only [if_neg (show ¬ (b=b+1) by omega)]
   exact Or.inl ⟨trivial,z0.1,rfl,rfl⟩
  rcases atN_one hx with ⟨rfl,rfl⟩ | hx
  ·simp only [if_true]
   exact hd _ _ (by simp [lsO,atN,look,Fm.get])
  rcases atN_one hx with ⟨rfl,rfl⟩ | hx
  ·simp only [if_neg (show ¬ (b+2=b+1) by omega)]
   exact Or.inl ⟨trivial,z2.1,rfl,rfl⟩
  rcases atN_one hx with ⟨rfl,rfl⟩ | hx
  ·simp only [if_neg (show ¬ (b+3=b+1) by omega)]
   exact Or.inl ⟨trivial,z3.1,rfl,rfl⟩
  rcases atN_one hx with ⟨rfl,rfl⟩ | hx
  ·simp only [if_neg (show ¬ (b+4=b+1) by omega)]
   exact Or.inl ⟨trivial,z4.1,rfl,rfl⟩
  exact (atN_nil hx).elim
 ·by_cases e1:x.1=b+1
  ·by_cases e2:y.1=b+1
   ·exact absurd (nm_eq hx hy (e1.trans e2.symm)) hne
   ·right;simp [e2,emp]
  ·left;simp [e1,emp]
 ·by_cases e1:x.1=b+1
  ·simp only [if_pos e1] at hn
   have hx' : atN (lsO 3 1 eI m.stack 0 (b+1)) x=some c:=by
    obtain ⟨x1,x2,x3⟩:=x
    simp only at e1
    have hx:atN (mcO (partM m 2) b) (b+1,x2,x3)=some c:=(show ∀ q,x1=q→atN (mcO (partM m 2) b) (q,x2,x3)=some c by rintro q rfl;exact hx) _ e1
    rw [show ((x1,x2,x3):Nm)=(b+1,x2,x3) by rw [e1]]
    simp [mcO,partM,atN,look,Fm.get] at hx
    simp [lsO,atN,look,Fm.get,hx]
   exact hs x c hx' n o hn
  ·simp [e1,emp] at hn
set_option maxRecDepth 100000 in
set_option maxHeartbeats 4000000 in
theorem part_own2 {w:World} {v:Value} {m:MC} (h:Cont w v m) (hok:MC.okR m) (hm:mayB m=true):Calls Try.prog 23 #[v,.int .i64 2] w (RetN w 5 (paL (partM m 2)) (mcO (partM m 2))):=by
 refine Calls.mono (R:=RetN w 1 (fun b=>.tup [(true,[.v (.slice none 0 0),.sl (b,0,0) 1 0 m.stack.length none,.v (.slice none 0 0),.v (.slice none 0 0),.v (.slice none 0 0)]),(false,[.v (.int .i64 0)])]) (lsO 3 1 eI m.stack 0)) ?_ (fun e w2 he=>retN_pa2 he)
 obtain ⟨v0,v1,v2,v3,v4,rfl,h'⟩:=id h
 refine enterC (A:=[]) (c:=ir23) (rs:=rs23) (nt:=nt23) h [.agg (mcS 0),.c (.v (.int .i64 2))] _ Try.func23 rfl (by kernel_rfl) (by kernel_rfl) rfl (fun E' h0=>by
  simp [mcS,SV.den,SC.den,clQ] at h0 ⊢
  simp [h0]) (of_decide_eq_true rfl) ?_
 simp (maxSteps:=2000000) only [ir23,nt23,rs23,go_sem,↓reduceIte,Nat.reduceLT,Nat.reduceLeDiff,Nat.reduceAdd,Nat.reduceSub,Nat.reduceMul,Nat.reduceEqDiff,reduceCtorEq,Int.reduceToNat,Int.reduceEq,Int.reduceBEq,Int.reduceBNe,Int.reduceLT,Int.reduceLE,Int.reduceNeg,Int.reduceAdd,Int.reduceSub,Int.reduceMul,Int.reduceGE,Int.reduceGT,endO,mcS,mcA,clQ,List.map]
 refine callV (.c (.v (.bool true))) _ (fun E=>rfl) (fun E a w' hs=>by have:=may_Z (cont_at hs 0 rfl rfl rfl rfl rfl) (w:=w');rw [hm] at this;exact this) ?_
 simp (maxSteps:=2000000) only [go_sem,↓reduceIte,Nat.reduceLT,Nat.reduceLeDiff,Nat.reduceAdd,Nat.reduceSub,Nat.reduceMul,Nat.reduceEqDiff,reduceCtorEq,Int.reduceToNat,Int.reduceEq,Int.reduceBEq,Int.reduceBNe,Int.reduceLT,Int.reduceLE,Int.reduceNeg,Int.reduceAdd,Int.reduceSub,Int.reduceMul,Int.reduceGE,Int.reduceGT,endO]
 refine callN 5 (fun b=>.agg (mcL b m)) (mcO m) (fun E a w' hs=>copied_N (cont_at hs 0 rfl rfl rfl rfl rfl) hok) ?_
 simp (maxSteps:=2000000) only [go_sem,↓reduceIte,Nat.reduceLT,Nat.reduceLeDiff,Nat.reduceAdd,Nat.reduceSub,Nat.reduceMul,Nat.reduceEqDiff,reduceCtorEq,Int.reduceToNat,Int.reduceEq,Int.reduceBEq,Int.reduceBNe,Int.reduceLT,Int.reduceLE,Int.reduceNeg,Int.reduceAdd,Int.reduceSub,Int.reduceMul,Int.reduceGE,Int.reduceGT,endO,mcL,mcO]
 refine callT [9] (.c (.ifc 91 (.sl (9,0,0) 1 0 m.stack.length none))) (by simp [SV.okN,SC.okN]) rfl (fun E a w' hs=>of_any _ _ _ _ _ 2 w') ?_
 simp (maxSteps:=2000000) only [go_sem,↓reduceIte,Nat.reduceLT,Nat.reduceLeDiff,Nat.reduceAdd,Nat.reduceSub,Nat.reduceMul,Nat.reduceEqDiff,reduceCtorEq,Int.reduceToNat,Int.reduceEq,Int.reduceBEq,Int.reduceBNe,Int.reduceLT,Int.reduceLE,Int.reduceNeg,Int.reduceAdd,Int.reduceSub,Int.reduceMul,Int.reduceGE,Int.reduceGT,endO]
 refine ⟨77,⟨by kernel_rfl,_,Try.underlying91⟩,⟨_,Try.func77,by kernel_rfl,by kernel_rfl⟩,?_⟩
 refine call_inline (c:=ir77) (rs:=rs77) (nt:=nt77) 1000 (mkTab_ok _ _) Try.func77 rfl (by kernel_rfl) (by kernel_rfl) rfl (by simp [okVs,SV.okN,SC.okL,SC.okN]) (of_decide_eq_true rfl) (fun E0 a0 ht0=>?_)
 simp (maxSteps:=2000000) only [ir77,nt77,rs77,go_sem,↓reduceIte,Nat.reduceLT,Nat.reduceLeDiff,Nat.reduceAdd,Nat.reduceSub,Nat.reduceMul,Nat.reduceEqDiff,reduceCtorEq,Int.reduceToNat,Int.reduceEq,Int.reduceBEq,Int.reduceBNe,Int.reduceLT,Int.reduceLE,Int.reduceNeg,Int.reduceAdd,Int.reduceSub,Int.reduceMul,Int.reduceGE,Int.reduceGT,endO,mkI_rs]
 refine retI ht0 _ rfl (of_decide_eq_true rfl) (by simp [SV.okN,SC.okN,ok1L]) ?_
 simp (maxSteps:=2000000) only [go_sem,↓reduceIte,Nat.reduceLT,Nat.reduceLeDiff,Nat.reduceAdd,Nat.reduceSub,Nat.reduceMul,Nat.reduceEqDiff,reduceCtorEq,Int.reduceToNat,Int.reduceEq,Int.reduceBEq,Int.reduceBNe,Int.reduceLT,Int.reduceLE,Int.reduceNeg,Int.reduceAdd,Int.reduceSub,Int.reduceMul,Int.reduceGE,Int.reduceGT,endO]
 exact retOne 9 (fun b=>by simp [SV.ren,ren1L,ren1,SC.renL,SC.ren,fromσ,SV.okN,ok1L,SC.okL,SC.okN,NewIds]) rfl
theorem retN_pa3 {w:World} {m:MC} {r:Ending} {w' : World} (h:RetN w 1 (fun b=>.tup [(true,[.v (.slice none 0 0),.v (.slice none 0 0),.sl (b,0,0) 1 0 m.queue.length none,.v (.slice none 0 0),.v (.slice none 0 0)]),(false,[.v (.int .i64 0)])]) (lsO 3 1 eI m.queue 0) r w'):RetN w 5 (paL (partM m 3)) (mcO (partM m 3)) r w':=by
 obtain ⟨v,rfl,hb,hN⟩:=h
 refine ⟨v,rfl,hb,fun b=>?_⟩
 obtain ⟨N,h1,h2⟩:=hN (b+2)
 refine ⟨⟨N.ρ,fun x=>if x.1=b+2 then N.κ x else 0,fun x=>if x.1=b+2 then N.ν x else true,N.χ⟩,h1,fun E2 hE2=>?_⟩
 have hk:AgreeD (NewIds (b+2) 1) N E2:=fun x hx=>by
  obtain ⟨g1,g2⟩:=hx
  have e:x.1=b+2:=by omega
  have:=hE2 x ⟨by omega,by omega⟩
  simpa [Same,e] using this
 have z0:E2.κ (b,0,0)=0∧E2.ν (b,0,0)=true:=by
  obtain ⟨_,g2,g3,_⟩:=hE2 (b,0,0) ⟨by show b≤_;omega,by show _<b+5;omega⟩
  rw [g2,g3]
  simp only
  rw [if_neg (by omega),if_neg (by omega)]
  exact ⟨rfl,rfl⟩
 have z1:E2.κ (b+1,0,0)=0∧E2.ν (b+1,0,0)=true:=by
  obtain ⟨_,g2,g3,_⟩:=hE2 (b+1,0,0) ⟨by show b≤_;omega,by show _<b+5;omega⟩
  rw [g2,g3]
  simp only
  rw [if_neg (by omega),if_neg (by omega)]
  exact ⟨rfl,rfl⟩
 have z3:E2.κ (b+3,0,0)=0∧E2.ν (b+3,0,0)=true:=by
  obtain ⟨_,g2,g3,_⟩:=hE2 (b+3,0,0) ⟨by show b≤_;omega,by show _<b+5;omega⟩
  rw [g2,g3]
  simp only
  rw [if_neg (by omega),if_neg (by omega)]
  exact ⟨rfl,rfl⟩
 have z4:E2.κ (b+4,0,0)=0∧E2.ν (b+4,0,0)=true:=by
  obtain ⟨_,g2,g3,_⟩:=hE2 (b+4,0,0) ⟨by show b≤_;omega,by show _<b+5;omega⟩
  rw [g2,g3]
  simp only
  rw [if_neg (by omega),if_neg (by omega)]
  exact ⟨rfl,rfl⟩
 obtain ⟨hv,H,hd,hj,hs⟩:=h2 E2 hk
 refine ⟨?_,fun x=>if x.1=b+2 then H x else emp,fun x c hx=>?_,fun x y c d hx hy hne n=>?_,fun x c hx n o hn=>?_⟩
 ·rw [hv]
  simp [paL,mcL,partM,SV.den,den1,SC.den,z0.1,z0.2,z1.1,z1.2,z3.1,z3.2,z4.1,z4.2]
 ·have hx:atN (mcO (partM m 3) b) x=some c:=hx
  simp only [mcO,partM,if_true,if_false,Int.reduceEq] at hx
  rcases atN_one hx with ⟨rfl,rfl⟩ | hx
  ·simp only [if_neg (show ¬ (b=b+2) by omega)]
   exact Or.inl ⟨trivial,z0.1,rfl,rfl⟩
  rcases atN_one hx with ⟨rfl,rfl⟩ | hx
  ·simp only [if_neg (show ¬ (b+1=b+2) by omega)]
   exact Or.inl ⟨trivial,z1.1,rfl,rfl⟩
  rcases atN_one hx with ⟨rfl,rfl⟩ | hx
  ·simp only [if_true]
   exact hd _ _ (by simp [lsO,atN,look,Fm.get])
  rcases atN_one hx with ⟨rfl,rfl⟩ | hx
  ·simp only [if_neg (show ¬ (b+3=b+2) by omega)]
   exact Or.inl ⟨trivial,z3.1,rfl,rfl⟩
  rcases atN_one hx with ⟨rfl,rfl⟩ | hx
  ·simp only [if_neg (show ¬ (b+4=b+2) by omega)]
   exact Or.inl ⟨trivial,z4.1,rfl,rfl⟩
  exact (atN_nil hx).elim
 ·by_cases e1:x.1=b+2
  ·by_cases e2:y.1=b+2
   ·exact absurd (nm_eq hx hy (e1.trans e2.symm)) hne
   ·right;simp [e2,emp]
  ·left;simp [e1,emp]
 ·by_cases e1:x.1=b+2
  ·simp only [if_pos e1] at hn
   have hx' : atN (lsO 3 1 eI m.queue 0 (b+2)) x=some c:=by
    obtain ⟨x1,x2,x3⟩:=x
    simp only at e1
    have hx:atN (mcO (partM m 3) b) (b+2,x2,x3)=some c:=(show ∀ q,x1=q→atN (mcO (partM m 3) b) (q,x2,x3)=some c by rintro q rfl;exact hx) _ e1
    rw [show ((x1,x2,x3):Nm)=(b+2,x2,x3) by rw [e1]]
    simp [mcO,partM,atN,look,Fm.get] at hx
    simp [lsO,atN,look,Fm.get,hx]
   exact hs x c hx' n o hn
  ·simp [e1,emp] at hn
set_option maxRecDepth 100000 in
set_option maxHeartbeats 4000000 in
theorem part_own3 {w:World} {v:Value} {m:MC} (h:Cont w v m) (hok:MC.okR m) (hm:mayB m=true):Calls Try.prog 23 #[v,.int .i64 3] w (RetN w 5 (paL (partM m 3)) (mcO (partM m 3))):=by
 refine Calls.mono (R:=RetN w 1 (fun b=>.tup [(true,[.v (.slice none 0 0),.v (.slice none 0 0),.sl (b,0,0) 1 0 m.queue.length none,.v (.slice none 0 0),.v (.slice none 0 0)]),(false,[.v (.int .i64 0)])]) (lsO 3 1 eI m.queue 0)) ?_ (fun e w2 he=>retN_pa3 he)
 obtain ⟨v0,v1,v2,v3,v4,rfl,h'⟩:=id h
 refine enterC (A:=[]) (c:=ir23) (rs:=rs23) (nt:=nt23) h [.agg (mcS 0),.c (.v (.int .i64 3))] _ Try.func23 rfl (by kernel_rfl) (by kernel_rfl) rfl (fun E' h0=>by
  simp [mcS,SV.den,SC.den,clQ] at h0 ⊢
  simp [h0]) (of_decide_eq_true rfl) ?_
 simp (maxSteps:=2000000) only [ir23,nt23,rs23,go_sem,↓reduceIte,Nat.reduceLT,Nat.reduceLeDiff,Nat.reduceAdd,Nat.reduceSub,Nat.reduceMul,Nat.reduceEqDiff,reduceCtorEq,Int.reduceToNat,Int.reduceEq,Int.reduceBEq,Int.reduceBNe,Int.reduceLT,Int.reduceLE,Int.reduceNeg,Int.reduceAdd,Int.reduceSub,Int.reduceMul,Int.reduceGE,Int.reduceGT,endO,mcS,mcA,clQ,List.map]
 refine callV (.c (.v (.bool true))) _ (fun E=>rfl) (fun E a w' hs=>by have:=may_Z (cont_at hs 0 rfl rfl rfl rfl rfl) (w:=w');rw [hm] at this;exact this) ?_
 simp (maxSteps:=2000000) only [go_sem,↓reduceIte,Nat.reduceLT,Nat.reduceLeDiff,Nat.reduceAdd,Nat.reduceSub,Nat.reduceMul,Nat.reduceEqDiff,reduceCtorEq,Int.reduceToNat,Int.reduceEq,Int.reduceBEq,Int.reduceBNe,Int.reduceLT,Int.reduceLE,Int.reduceNeg,Int.reduceAdd,Int.reduceSub,Int.reduceMul,Int.reduceGE,Int.reduceGT,endO]
 refine callN 5 (fun b=>.agg (mcL b m)) (mcO m) (fun E a w' hs=>copied_N (cont_at hs 0 rfl rfl rfl rfl rfl) hok) ?_
 simp (maxSteps:=2000000) only [go_sem,↓reduceIte,Nat.reduceLT,Nat.reduceLeDiff,Nat.reduceAdd,Nat.reduceSub,Nat.reduceMul,Nat.reduceEqDiff,reduceCtorEq,Int.reduceToNat,Int.reduceEq,Int.reduceBEq,Int.reduceBNe,Int.reduceLT,Int.reduceLE,Int.reduceNeg,Int.reduceAdd,Int.reduceSub,Int.reduceMul,Int.reduceGE,Int.reduceGT,endO,mcL,mcO]
 refine callT [10] (.c (.ifc 92 (.sl (10,0,0) 1 0 m.queue.length none))) (by simp [SV.okN,SC.okN]) rfl (fun E a w' hs=>of_any _ _ _ _ _ 3 w') ?_
 simp (maxSteps:=2000000) only [go_sem,↓reduceIte,Nat.reduceLT,Nat.reduceLeDiff,Nat.reduceAdd,Nat.reduceSub,Nat.reduceMul,Nat.reduceEqDiff,reduceCtorEq,Int.reduceToNat,Int.reduceEq,Int.reduceBEq,Int.reduceBNe,Int.reduceLT,Int.reduceLE,Int.reduceNeg,Int.reduceAdd,Int.reduceSub,Int.reduceMul,Int.reduceGE,Int.reduceGT,endO]
 refine ⟨80,⟨by kernel_rfl,_,Try.underlying92⟩,⟨_,Try.func80,by kernel_rfl,by kernel_rfl⟩,?_⟩
 refine call_inline (c:=ir80) (rs:=rs80) (nt:=nt80) 1000 (mkTab_ok _ _) Try.func80 rfl (by kernel_rfl) (by kernel_rfl) rfl (by simp [okVs,SV.okN,SC.okL,SC.okN]) (of_decide_eq_true rfl) (fun E0 a0 ht0=>?_)
 simp (maxSteps:=2000000) only [ir80,nt80,rs80,go_sem,↓reduceIte,Nat.reduceLT,Nat.reduceLeDiff,Nat.reduceAdd,Nat.reduceSub,Nat.reduceMul,Nat.reduceEqDiff,reduceCtorEq,Int.reduceToNat,Int.reduceEq,Int.reduceBEq,Int.reduceBNe,Int.reduceLT,Int.reduceLE,Int.reduceNeg,Int.reduceAdd,Int.reduceSub,Int.reduceMul,Int.reduceGE,Int.reduceGT,endO,mkI_rs]
 refine retI ht0 _ rfl (of_decide_eq_true rfl) (by simp [SV.okN,SC.okN,ok1L]) ?_
 simp (maxSteps:=2000000) only [go_sem,↓reduceIte,Nat.reduceLT,Nat.reduceLeDiff,Nat.reduceAdd,Nat.reduceSub,Nat.reduceMul,Nat.reduceEqDiff,reduceCtorEq,Int.reduceToNat,Int.reduceEq,Int.reduceBEq,Int.reduceBNe,Int.reduceLT,Int.reduceLE,Int.reduceNeg,Int.reduceAdd,Int.reduceSub,Int.reduceMul,Int.reduceGE,Int.reduceGT,endO]
 exact retOne 10 (fun b=>by simp [SV.ren,ren1L,ren1,SC.renL,SC.ren,fromσ,SV.okN,ok1L,SC.okL,SC.okN,NewIds]) rfl
theorem retN_pa4 {w:World} {m:MC} {r:Ending} {w' : World} (h:RetN w 1 (fun b=>.tup [(true,[.v (.slice none 0 0),.v (.slice none 0 0),.v (.slice none 0 0),.sl (b,0,0) 1 0 m.set.length none,.v (.slice none 0 0)]),(false,[.v (.int .i64 0)])]) (lsO 3 1 eI m.set 0) r w'):RetN w 5 (paL (partM m 4)) (mcO (partM m 4)) r w':=by
 obtain ⟨v,rfl,hb,hN⟩:=h
 refine ⟨v,rfl,hb,fun b=>?_⟩
 obtain ⟨N,h1,h2⟩:=hN (b+3)
 refine ⟨⟨N.ρ,fun x=>if x.1=b+3 then N.κ x else 0,fun x=>if x.1=b+3 then N.ν x else true,N.χ⟩,h1,fun E2 hE2=>?_⟩
 have hk:AgreeD (NewIds (b+3) 1) N E2:=fun x hx=>by
  obtain ⟨g1,g2⟩:=hx
  have e:x.1=b+3:=by omega
  have:=hE2 x ⟨by omega,by omega⟩
  simpa [Same,e] using this
 have z0:E2.κ (b,0,0)=0∧E2.ν (b,0,0)=true:=by
  obtain ⟨_,g2,g3,_⟩:=hE2 (b,0,0) ⟨by show b≤_;omega,by show _<b+5;omega⟩
  rw [g2,g3]
  simp only
  rw [if_neg (by omega),if_neg (by omega)]
  exact ⟨rfl,rfl⟩
 have z1:E2.κ (b+1,0,0)=0∧E2.ν (b+1,0,0)=true:=by
  obtain ⟨_,g2,g3,_⟩:=hE2 (b+1,0,0) ⟨by show b≤_;omega,by show _<b+5;omega⟩
  rw [g2,g3]
  simp only
  rw [if_neg (by omega),if_neg (by omega)]
  exact ⟨rfl,rfl⟩
 have z2:E2.κ (b+2,0,0)=0∧E2.ν (b+2,0,0)=true:=by
  obtain ⟨_,g2,g3,_⟩:=hE2 (b+2,0,0) ⟨by show b≤_;omega,by show _<b+5;omega⟩
  rw [g2,g3]
  simp only
  rw [if_neg (by omega),if_neg (by omega)]
  exact ⟨rfl,rfl⟩
 have z4:E2.κ (b+4,0,0)=0∧E2.ν (b+4,0,0)=true:=by
  obtain ⟨_,g2,g3,_⟩:=hE2 (b+4,0,0) ⟨by show b≤_;omega,by show _<b+5;omega⟩
  rw [g2,g3]
  simp only
  rw [if_neg (by omega),if_neg (by omega)]
  exact ⟨rfl,rfl⟩
 obtain ⟨hv,H,hd,hj,hs⟩:=h2 E2 hk
 refine ⟨?_,fun x=>if x.1=b+3 then H x else emp,fun x c hx=>?_,fun x y c d hx hy hne n=>?_,fun x c hx n o hn=>?_⟩
 ·rw [hv]
  simp [paL,mcL,partM,SV.den,den1,SC.den,z0.1,z0.2,z1.1,z1.2,z2.1,z2.2,z4.1,z4.2]
 ·have hx:atN (mcO (partM m 4) b) x=some c:=hx
  simp only [mcO,partM,if_true,if_false,Int.reduceEq] at hx
  rcases atN_one hx with ⟨rfl,rfl⟩ | hx
  ·simp only [if_neg (show ¬ (b=b+3) by omega)]
   exact Or.inl ⟨trivial,z0.1,rfl,rfl⟩
  rcases atN_one hx with ⟨rfl,rfl⟩ | hx
  ·simp only [if_neg (show ¬ (b+1=b+3) by omega)]
   exact Or.inl ⟨trivial,z1.1,rfl,rfl⟩
  rcases atN_one hx with ⟨rfl,rfl⟩ | hx
  ·simp only [if_neg (show ¬ (b+2=b+3) by omega)]
   exact Or.inl ⟨trivial,z2.1,rfl,rfl⟩
  rcases atN_one hx with ⟨rfl,rfl⟩ | hx
  ·simp only [if_true]
   exact hd _ _ (by simp [lsO,atN,look,Fm.get])
  rcases atN_one hx with ⟨rfl,rfl⟩ | hx
  ·simp only [if_neg (show ¬ (b+4=b+3) by omega)]
   exact Or.inl ⟨trivial,z4.1,rfl,rfl⟩
  exact (atN_nil hx).elim
 ·by_cases e1:x.1=b+3
  ·by_cases e2:y.1=b+3
   ·exact absurd (nm_eq hx hy (e1.trans e2.symm)) hne
   ·right;simp [e2,emp]
  ·left;simp [e1,emp]
 ·by_cases e1:x.1=b+3
  ·simp only [if_pos e1] at hn
   have hx' : atN (lsO 3 1 eI m.set 0 (b+3)) x=some c:=by
    obtain ⟨x1,x2,x3⟩:=x
    simp only at e1
    have hx:atN (mcO (partM m 4) b) (b+3,x2,x3)=some c:=(show ∀ q,x1=q→atN (mcO (partM m 4) b) (q,x2,x3)=some c by rintro q rfl;exact hx) _ e1
    rw [show ((x1,x2,x3):Nm)=(b+3,x2,x3) by rw [e1]]
    simp [mcO,partM,atN,look,Fm.get] at hx
    simp [lsO,atN,look,Fm.get,hx]
   exact hs x c hx' n o hn
  ·simp [e1,emp] at hn
set_option maxRecDepth 100000 in
set_option maxHeartbeats 4000000 in
theorem part_own4 {w:World} {v:Value} {m:MC} (h:Cont w v m) (hok:MC.okR m) (hm:mayB m=true):Calls Try.prog 23 #[v,.int .i64 4] w (RetN w 5 (paL (partM m 4)) (mcO (partM m 4))):=by
 refine Calls.mono (R:=RetN w 1 (fun b=>.tup [(true,[.v (.slice none 0 0),.v (.slice none 0 0),.v (.slice none 0 0),.sl (b,0,0) 1 0 m.set.length none,.v (.slice none 0 0)]),(false,[.v (.int .i64 0)])]) (lsO 3 1 eI m.set 0)) ?_ (fun e w2 he=>retN_pa4 he)
 obtain ⟨v0,v1,v2,v3,v4,rfl,h'⟩:=id h
 refine enterC (A:=[]) (c:=ir23) (rs:=rs23) (nt:=nt23) h [.agg (mcS 0),.c (.v (.int .i64 4))] _ Try.func23 rfl (by kernel_rfl) (by kernel_rfl) rfl (fun E' h0=>by
  simp [mcS,SV.den,SC.den,clQ] at h0 ⊢
  simp [h0]) (of_decide_eq_true rfl) ?_
 simp (maxSteps:=2000000) only [ir23,nt23,rs23,go_sem,↓reduceIte,Nat.reduceLT,Nat.reduceLeDiff,Nat.reduceAdd,Nat.reduceSub,Nat.reduceMul,Nat.reduceEqDiff,reduceCtorEq,Int.reduceToNat,Int.reduceEq,Int.reduceBEq,Int.reduceBNe,Int.reduceLT,Int.reduceLE,Int.reduceNeg,Int.reduceAdd,Int.reduceSub,Int.reduceMul,Int.reduceGE,Int.reduceGT,endO,mcS,mcA,clQ,List.map]
 refine callV (.c (.v (.bool true))) _ (fun E=>rfl) (fun E a w' hs=>by have:=may_Z (cont_at hs 0 rfl rfl rfl rfl rfl) (w:=w');rw [hm] at this;exact this) ?_
 simp (maxSteps:=2000000) only [go_sem,↓reduceIte,Nat.reduceLT,Nat.reduceLeDiff,Nat.reduceAdd,Nat.reduceSub,Nat.reduceMul,Nat.reduceEqDiff,reduceCtorEq,Int.reduceToNat,Int.reduceEq,Int.reduceBEq,Int.reduceBNe,Int.reduceLT,Int.reduceLE,Int.reduceNeg,Int.reduceAdd,Int.reduceSub,Int.reduceMul,Int.reduceGE,Int.reduceGT,endO]
 refine callN 5 (fun b=>.agg (mcL b m)) (mcO m) (fun E a w' hs=>copied_N (cont_at hs 0 rfl rfl rfl rfl rfl) hok) ?_
 simp (maxSteps:=2000000) only [go_sem,↓reduceIte,Nat.reduceLT,Nat.reduceLeDiff,Nat.reduceAdd,Nat.reduceSub,Nat.reduceMul,Nat.reduceEqDiff,reduceCtorEq,Int.reduceToNat,Int.reduceEq,Int.reduceBEq,Int.reduceBNe,Int.reduceLT,Int.reduceLE,Int.reduceNeg,Int.reduceAdd,Int.reduceSub,Int.reduceMul,Int.reduceGE,Int.reduceGT,endO,mcL,mcO]
 refine callT [11] (.c (.ifc 93 (.sl (11,0,0) 1 0 m.set.length none))) (by simp [SV.okN,SC.okN]) rfl (fun E a w' hs=>of_any _ _ _ _ _ 4 w') ?_
 simp (maxSteps:=2000000) only [go_sem,↓reduceIte,Nat.reduceLT,Nat.reduceLeDiff,Nat.reduceAdd,Nat.reduceSub,Nat.reduceMul,Nat.reduceEqDiff,reduceCtorEq,Int.reduceToNat,Int.reduceEq,Int.reduceBEq,Int.reduceBNe,Int.reduceLT,Int.reduceLE,Int.reduceNeg,Int.reduceAdd,Int.reduceSub,Int.reduceMul,Int.reduceGE,Int.reduceGT,endO]
 refine ⟨84,⟨by kernel_rfl,_,Try.underlying93⟩,⟨_,Try.func84,by kernel_rfl,by kernel_rfl⟩,?_⟩
 refine call_inline (c:=ir84) (rs:=rs84) (nt:=nt84) 1000 (mkTab_ok _ _) Try.func84 rfl (by kernel_rfl) (by kernel_rfl) rfl (by simp [okVs,SV.okN,SC.okL,SC.okN]) (of_decide_eq_true rfl) (fun E0 a0 ht0=>?_)
 simp (maxSteps:=2000000) only [ir84,nt84,rs84,go_sem,↓reduceIte,Nat.reduceLT,Nat.reduceLeDiff,Nat.reduceAdd,Nat.reduceSub,Nat.reduceMul,Nat.reduceEqDiff,reduceCtorEq,Int.reduceToNat,Int.reduceEq,Int.reduceBEq,Int.reduceBNe,Int.reduceLT,Int.reduceLE,Int.reduceNeg,Int.reduceAdd,Int.reduceSub,Int.reduceMul,Int.reduceGE,Int.reduceGT,endO,mkI_rs]
 refine retI ht0 _ rfl (of_decide_eq_true rfl) (by simp [SV.okN,SC.okN,ok1L]) ?_
 simp (maxSteps:=2000000) only [go_sem,↓reduceIte,Nat.reduceLT,Nat.reduceLeDiff,Nat.reduceAdd,Nat.reduceSub,Nat.reduceMul,Nat.reduceEqDiff,reduceCtorEq,Int.reduceToNat,Int.reduceEq,Int.reduceBEq,Int.reduceBNe,Int.reduceLT,Int.reduceLE,Int.reduceNeg,Int.reduceAdd,Int.reduceSub,Int.reduceMul,Int.reduceGE,Int.reduceGT,endO]
 exact retOne 11 (fun b=>by simp [SV.ren,ren1L,ren1,SC.renL,SC.ren,fromσ,SV.okN,ok1L,SC.okL,SC.okN,NewIds]) rfl
theorem retN_pa5 {w:World} {m:MC} {r:Ending} {w' : World} (h:RetN w 1 (fun b=>.tup [(true,[.v (.slice none 0 0),.v (.slice none 0 0),.v (.slice none 0 0),.v (.slice none 0 0),.sl (b,0,0) 2 0 m.table.length none]),(false,[.v (.int .i64 0)])]) (lsO 76 2 eP m.table (0,0)) r w'):RetN w 5 (paL (partM m 5)) (mcO (partM m 5)) r w':=by
 obtain ⟨v,rfl,hb,hN⟩:=h
 refine ⟨v,rfl,hb,fun b=>?_⟩
 obtain ⟨N,h1,h2⟩:=hN (b+4)
 refine ⟨⟨N.ρ,fun x=>if x.1=b+4 then N.κ x else 0,fun x=>if x.1=b+4 then N.ν x else true,N.χ⟩,h1,fun E2 hE2=>?_⟩
 have hk:AgreeD (NewIds (b+4) 1) N E2:=fun x hx=>by
  obtain ⟨g1,g2⟩:=hx
  have e:x.1=b+4:=by omega
  have:=hE2 x ⟨by omega,by omega⟩
  simpa [Same,e] using this
 have z0:E2.κ (b,0,0)=0∧E2.ν (b,0,0)=true:=by
  obtain ⟨_,g2,g3,_⟩:=hE2 (b,0,0) ⟨by show b≤_;omega,by show _<b+5;omega⟩
  rw [g2,g3]
  simp only
  rw [if_neg (by omega),if_neg (by omega)]
  exact ⟨rfl,rfl⟩
 have z1:E2.κ (b+1,0,0)=0∧E2.ν (b+1,0,0)=true:=by
  obtain ⟨_,g2,g3,_⟩:=hE2 (b+1,0,0) ⟨by show b≤_;omega,by show _<b+5;omega⟩
  rw [g2,g3]
  simp only
  rw [if_neg (by omega),if_neg (by omega)]
  exact ⟨rfl,rfl⟩
 have z2:E2.κ (b+2,0,0)=0∧E2.ν (b+2,0,0)=true:=by
  obtain ⟨_,g2,g3,_⟩:=hE2 (b+2,0,0) ⟨by show b≤_;omega,by show _<b+5;omega⟩
  rw [g2,g3]
  simp only
  rw [if_neg (by omega),if_neg (by omega)]
  exact ⟨rfl,rfl⟩
 have z3:E2.κ (b+3,0,0)=0∧E2.ν (b+3,0,0)=true:=by
  obtain ⟨_,g2,g3,_⟩:=hE2 (b+3,0,0) ⟨by show b≤_;omega,by show _<b+5;omega⟩
  rw [g2,g3]
  simp only
  rw [if_neg (by omega),if_neg (by omega)]
  exact ⟨rfl,rfl⟩
 obtain ⟨hv,H,hd,hj,hs⟩:=h2 E2 hk
 refine ⟨?_,fun x=>if x.1=b+4 then H x else emp,fun x c hx=>?_,fun x y c d hx hy hne n=>?_,fun x c hx n o hn=>?_⟩
 ·rw [hv]
  simp [paL,mcL,partM,SV.den,den1,SC.den,z0.1,z0.2,z1.1,z1.2,z2.1,z2.2,z3.1,z3.2]
 ·have hx:atN (mcO (partM m 5) b) x=some c:=hx
  simp only [mcO,partM,if_true,if_false,Int.reduceEq] at hx
  rcases atN_one hx with ⟨rfl,rfl⟩ | hx
  ·simp only [if_neg (show ¬ (b=b+4) by omega)]
   exact Or.inl ⟨trivial,z0.1,rfl,rfl⟩
  rcases atN_one hx with ⟨rfl,rfl⟩ | hx
  ·simp only [if_neg (show ¬ (b+1=b+4) by omega)]
   exact Or.inl ⟨trivial,z1.1,rfl,rfl⟩
  rcases atN_one hx with ⟨rfl,rfl⟩ | hx
  ·simp only [if_neg (show ¬ (b+2=b+4) by omega)]
   exact Or.inl ⟨trivial,z2.1,rfl,rfl⟩
  rcases atN_one hx with ⟨rfl,rfl⟩ | hx
  ·simp only [if_neg (show ¬ (b+3=b+4) by omega)]
   exact Or.inl ⟨trivial,z3.1,rfl,rfl⟩
  rcases atN_one hx with ⟨rfl,rfl⟩ | hx
  ·simp only [if_true]
   exact hd _ _ (by simp [lsO,atN,look,Fm.get])
  exact (atN_nil hx).elim
 ·by_cases e1:x.1=b+4
  ·by_cases e2:y.1=b+4
   ·exact absurd (nm_eq hx hy (e1.trans e2.symm)) hne
   ·right;simp [e2,emp]
  ·left;simp [e1,emp]
 ·by_cases e1:x.1=b+4
  ·simp only [if_pos e1] at hn
   have hx' : atN (lsO 76 2 eP m.table (0,0) (b+4)) x=some c:=by
    obtain ⟨x1,x2,x3⟩:=x
    simp only at e1
    have hx:atN (mcO (partM m 5) b) (b+4,x2,x3)=some c:=(show ∀ q,x1=q→atN (mcO (partM m 5) b) (q,x2,x3)=some c by rintro q rfl;exact hx) _ e1
    rw [show ((x1,x2,x3):Nm)=(b+4,x2,x3) by rw [e1]]
    simp [mcO,partM,atN,look,Fm.get] at hx
    simp [lsO,atN,look,Fm.get,hx]
   exact hs x c hx' n o hn
  ·simp [e1,emp] at hn
set_option maxRecDepth 100000 in
set_option maxHeartbeats 4000000 in
theorem part_own5 {w:World} {v:Value} {m:MC} (h:Cont w v m) (hok:MC.okR m) (hm:mayB m=true):Calls Try.prog 23 #[v,.int .i64 5] w (RetN w 5 (paL (partM m 5)) (mcO (partM m 5))):=by
 refine Calls.mono (R:=RetN w 1 (fun b=>.tup [(true,[.v (.slice none 0 0),.v (.slice none 0 0),.v (.slice none 0 0),.v (.slice none 0 0),.sl (b,0,0) 2 0 m.table.length none]),(false,[.v (.int .i64 0)])]) (lsO 76 2 eP m.table (0,0))) ?_ (fun e w2 he=>retN_pa5 he)
 obtain ⟨v0,v1,v2,v3,v4,rfl,h'⟩:=id h
 refine enterC (A:=[]) (c:=ir23) (rs:=rs23) (nt:=nt23) h [.agg (mcS 0),.c (.v (.int .i64 5))] _ Try.func23 rfl (by kernel_rfl) (by kernel_rfl) rfl (fun E' h0=>by
  simp [mcS,SV.den,SC.den,clQ] at h0 ⊢
  simp [h0]) (of_decide_eq_true rfl) ?_
 simp (maxSteps:=2000000) only [ir23,nt23,rs23,go_sem,↓reduceIte,Nat.reduceLT,Nat.reduceLeDiff,Nat.reduceAdd,Nat.reduceSub,Nat.reduceMul,Nat.reduceEqDiff,reduceCtorEq,Int.reduceToNat,Int.reduceEq,Int.reduceBEq,Int.reduceBNe,Int.reduceLT,Int.reduceLE,Int.reduceNeg,Int.reduceAdd,Int.reduceSub,Int.reduceMul,Int.reduceGE,Int.reduceGT,endO,mcS,mcA,clQ,List.map]
 refine callV (.c (.v (.bool true))) _ (fun E=>rfl) (fun E a w' hs=>by have:=may_Z (cont_at hs 0 rfl rfl rfl rfl rfl) (w:=w');rw [hm] at this;exact this) ?_
 simp (maxSteps:=2000000) only [go_sem,↓reduceIte,Nat.reduceLT,Nat.reduceLeDiff,Nat.reduceAdd,Nat.reduceSub,Nat.reduceMul,Nat.reduceEqDiff,reduceCtorEq,Int.reduceToNat,Int.reduceEq,Int.reduceBEq,Int.reduceBNe,Int.reduceLT,Int.reduceLE,Int.reduceNeg,Int.reduceAdd,Int.reduceSub,Int.reduceMul,Int.reduceGE,Int.reduceGT,endO]
 refine callN 5 (fun b=>.agg (mcL b m)) (mcO m) (fun E a w' hs=>copied_N (cont_at hs 0 rfl rfl rfl rfl rfl) hok) ?_
 simp (maxSteps:=2000000) only [go_sem,↓reduceIte,Nat.reduceLT,Nat.reduceLeDiff,Nat.reduceAdd,Nat.reduceSub,Nat.reduceMul,Nat.reduceEqDiff,reduceCtorEq,Int.reduceToNat,Int.reduceEq,Int.reduceBEq,Int.reduceBNe,Int.reduceLT,Int.reduceLE,Int.reduceNeg,Int.reduceAdd,Int.reduceSub,Int.reduceMul,Int.reduceGE,Int.reduceGT,endO,mcL,mcO]
 refine callT [12] (.c (.ifc 94 (.sl (12,0,0) 2 0 m.table.length none))) (by simp [SV.okN,SC.okN]) rfl (fun E a w' hs=>of_any _ _ _ _ _ 5 w') ?_
 simp (maxSteps:=2000000) only [go_sem,↓reduceIte,Nat.reduceLT,Nat.reduceLeDiff,Nat.reduceAdd,Nat.reduceSub,Nat.reduceMul,Nat.reduceEqDiff,reduceCtorEq,Int.reduceToNat,Int.reduceEq,Int.reduceBEq,Int.reduceBNe,Int.reduceLT,Int.reduceLE,Int.reduceNeg,Int.reduceAdd,Int.reduceSub,Int.reduceMul,Int.reduceGE,Int.reduceGT,endO]
 refine ⟨99,⟨by kernel_rfl,_,Try.underlying94⟩,⟨_,Try.func99,by kernel_rfl,by kernel_rfl⟩,?_⟩
 refine call_inline (c:=ir99) (rs:=rs99) (nt:=nt99) 1000 (mkTab_ok _ _) Try.func99 rfl (by kernel_rfl) (by kernel_rfl) rfl (by simp [okVs,SV.okN,SC.okL,SC.okN]) (of_decide_eq_true rfl) (fun E0 a0 ht0=>?_)
 simp (maxSteps:=2000000) only [ir99,nt99,rs99,go_sem,↓reduceIte,Nat.reduceLT,Nat.reduceLeDiff,Nat.reduceAdd,Nat.reduceSub,Nat.reduceMul,Nat.reduceEqDiff,reduceCtorEq,Int.reduceToNat,Int.reduceEq,Int.reduceBEq,Int.reduceBNe,Int.reduceLT,Int.reduceLE,Int.reduceNeg,Int.reduceAdd,Int.reduceSub,Int.reduceMul,Int.reduceGE,Int.reduceGT,endO,mkI_rs]
 refine retI ht0 _ rfl (of_decide_eq_true rfl) (by simp [SV.okN,SC.okN,ok1L]) ?_
 simp (maxSteps:=2000000) only [go_sem,↓reduceIte,Nat.reduceLT,Nat.reduceLeDiff,Nat.reduceAdd,Nat.reduceSub,Nat.reduceMul,Nat.reduceEqDiff,reduceCtorEq,Int.reduceToNat,Int.reduceEq,Int.reduceBEq,Int.reduceBNe,Int.reduceLT,Int.reduceLE,Int.reduceNeg,Int.reduceAdd,Int.reduceSub,Int.reduceMul,Int.reduceGE,Int.reduceGT,endO]
 exact retOne 12 (fun b=>by simp [SV.ren,ren1L,ren1,SC.renL,SC.ren,fromσ,SV.okN,ok1L,SC.okL,SC.okN,NewIds]) rfl
end Go.Proofs.Ytgljbdcamagdbaa.Z
namespace Go.Proofs.Ytgljbdcamagdbaa.Z
open Go Go.RowKit
def PlainB:Blk→Prop
 | .no=>True
 | .bk _ _=>True
 | .ar _ _ _ _=>True
 | _=>False
def takes (E:Env) (x:Nm):Blk→Nat→Prop
 | .bk _ _,n=>n=E.ρ x
 | .ar _ _ _ _,n=>0<E.κ x∧n=E.ρ x
 | _,_=>False
theorem takes_iff {E:Env} {x:Nm} {b:Blk} {h:PH} (hp:PlainB b) (hd:b.den E x h) {n:Nat}:h n≠none↔takes E x b n:=by
 cases b with
 | no=>simp only [Blk.den] at hd;subst hd;simp [takes,emp]
 | bk cs ty=>simp only [Blk.den] at hd;subst hd;simp only [takes,sing];by_cases e:n=E.ρ x <;> simp [e]
 | ar m s at_ ty =>
  simp only [Blk.den] at hd
  rcases hd with ⟨_,h1,_,h4⟩ | ⟨_,⟨_,h1⟩,_,cells,h4,_⟩
  ·subst h4;simp [takes,emp,h1]
  ·subst h4;simp only [takes,sing,h1,true_and];by_cases e:n=E.ρ x <;> simp [e]
 | mp _ _ _=>exact hp.elim
 | mpe _ _ _ _ _=>exact hp.elim
 | wm _ _ _=>exact hp.elim
 | pr _=>exact hp.elim
def takesO (E:Env) (own:Own) (n:Nat):Prop:=∃ x b,atN own x=some b∧takes E x b n
def mkO (P:Program) (w:World) (W:Nat→Prop) (rs:List RS) (R:Ending→World→Prop):Ctx:=⟨P,mkTab P [],w.heap.size,W,w,rs,R⟩
theorem mkO_rs (P:Program) (w:World) (W:Nat→Prop) (rs:List RS) (R:Ending→World→Prop):(mkO P w W rs R).rs=rs:=rfl
def Handed (w:World) (E:Env) (n0:Nat) (own:Own) (arrs:List (Nat×Fm ArrF)):Prop :=
 OneC E∧∀ E',AgreeD (· < n0) E E'→OneC E'→InOk (mkO default w (takesO E own) [] fun _ _=>True) E' own arrs [AgF n0 E] w
theorem enterO {P:Program} {f nt:Nat} {fn:Func} {x:Code} {c:IR} {w:World} {E:Env} {n0:Nat} {own:Own} {arrs:List (Nat×Fm ArrF)} {rs:List RS} {R:Ending→World→Prop} (h:Handed w E n0 own arrs) (sc:List SV)
  (hf:P.funcs[f]? = some fn) (hb:fn.body=some x) (hc:compC (mkTab P []) x=some c.strip) (hr:compR (mkTab P []).T fn.results.toList=some rs) (hn:fn.ntmps=nt)
  (hsc:okVs (· < n0) sc) (hnt:sc.length≤nt)
  (hex:exec (mkO P w (takesO E own) rs R) 1000 [.code c] ⟨nt,enumT 0 sc,own,arrs,[AgF n0 E],n0⟩):Calls P f (sc.map (SV.den E)).toArray w R:=by
 have hone:=h.1
 subst hn
 refine calls_of_exec (C:=mkO P w (takesO E own) rs R) (E:=E) 1000 (mkTab_ok _ _) hf hb hc hr ⟨hone,fun E' hE' ho'=>?_⟩ hex
 obtain ⟨H,h1,h2,h3,h4⟩:=h.2 E' hE' ho'
 have hvv:sc.map (SV.den E')=sc.map (SV.den E):=dens_same (p:=(· < n0)) (fun x hx=>hE' x hx) hsc
 refine ⟨by simp;omega,rfl,ho',fun t v ht=>?_,⟨rfl,rfl,rfl,Nat.le_refl _,fun _ _ _=>rfl⟩,H,⟨h1,h2,fun x b hb n o hn=>⟨(h3 x b hb n o hn).1,Or.inr (h3 x b hb n o hn).2⟩⟩,h4⟩
 obtain ⟨j,rfl,hj⟩:=look_enumT sc 0 t v ht
 have hjl:j<sc.length:=(List.getElem?_eq_some_iff.1 hj).1
 refine ⟨by simp only;omega,?_⟩
 simp only [← hvv,Nat.zero_add,Array.getD_eq_getD_getElem?]
 rw [Array.getElem?_append_left (by simpa using hjl)]
 simp [hj]
def EffR (w:World) (E:Env) (n0:Nat) (W:Nat→Prop) (u:SV) (nx:Nat) (eff:Nat→Own) (e:Ending) (w' : World):Prop :=
 ∃ v,e = .returned v∧Frame0 w.heap.size W w w'∧∀ b,n0≤b→∃ N:Env,OneC N∧∀ E2,AgreeD (· < n0) E E2→AgreeD (NewIds b nx) N E2→v=u.den E2 ∧
  ∃ H:Nm→PH,(∀ x c,atN (eff b) x=some c→c.den E2 x (H x))∧(∀ x y c d,atN (eff b) x=some c→atN (eff b) y=some d→x≠y→∀ n,H x n=none∨H y n=none) ∧
   ∀ x c,atN (eff b) x=some c→∀ n o,H x n=some o→w'.heap[n]? = some o∧(w.heap.size≤n∨W n)
def killO (ks:List Nat):Own:=ks.map fun i=>(i,.one .no)
theorem look_app {α:Type}:∀ (l r:List (Nat×α)) (t:Nat),look (l++r) t=match look l t with | some v=>some v | none=>look r t
 | [],r,t=>rfl
 | (k,v) :: l,r,t=>by
  simp only [List.cons_append,look_cons]
  split
  ·rfl
  ·exact look_app l r t
theorem look_kill:∀ (ks:List Nat) (t:Nat),look (killO ks) t=if t∈ks then some (.one .no) else none
 | [],t=>rfl
 | k :: ks,t=>by
  simp only [killO,List.map_cons,look_cons,List.mem_cons]
  by_cases e:k=t
  ·subst e;simp
  ·have:=look_kill ks t
   simp only [killO] at this
   rw [if_neg e,this]
   by_cases h:t∈ks
   ·simp [h]
   ·have e' : ¬ t=k:=fun q=>e q.symm
    simp [h,e']
theorem atN_kill {ks:List Nat} {own:Own} {x:Nm} {c:Blk} (h:atN (killO ks++own) x=some c):(x.1∈ks∧c = .no)∨(x.1 ∉ ks∧atN own x=some c):=by
 obtain ⟨a,k⟩:=x
 simp only [atN,look_app,look_kill] at h ⊢
 by_cases e:a∈ks
 ·left
  simp only [e,if_true] at h
  simp only [Fm.get] at h
  split at h
  ·cases h;exact ⟨e,rfl⟩
  ·cases h
 ·right
  simp only [e,if_false] at h
  exact ⟨e,h⟩
theorem retEff {P:Program} {w:World} {E:Env} {n0:Nat} {W:Nat→Prop} {rs:List RS} {u v:SV} {nx:Nat} {S2:St} (σ:Nat→Nm→Nm) (ks:List Nat) (eff1:Nat→Own)
  (hf:AgF n0 E∈S2.facts) (hu:∀ E E',v.den E=u.den E') (hσ0:∀ b,n0≤b→∀ x:Nm,x.1<n0→σ b x=x)
  (ho:∀ b,n0≤b→OwnLe (fun i=>i<n0∨NewIds b nx i) (σ b) S2.own (eff1 b)) (hi:∀ b,n0≤b→InjN (σ b) (eff1 b)):RetVC (mkO P w W rs (EffR w E n0 W u nx fun b=>killO ks++eff1 b)) v S2:=by
 intro E1 a w' hs
 have hs:=hs.sat
 obtain ⟨H,hH,hF⟩:=hs.mem
 have hag:AgreeD (· < n0) E E1:=(hF w' fun _ _ _=>rfl).2 (AgF n0 E) hf
 refine ⟨_,rfl,hs.frame,fun b hb=>⟨E1.via (σ b),fun x=>hs.one _,fun E2 hE2 hN2=>⟨hu _ _,?_⟩⟩⟩
 have hR:∀ x:Nm,(x.1<n0∨NewIds b nx x.1)→SameR (σ b) E1 E2 x:=fun x hx=>by
  rcases hx with hx | hx
  ·have h1:=hag x hx
   have h2:=hE2 x hx
   unfold SameR
   rw [hσ0 b hb x hx]
   exact ⟨h2.1.trans h1.1.symm,h2.2.1.trans h1.2.1.symm,h2.2.2.1.trans h1.2.2.1.symm,h2.2.2.2.trans h1.2.2.2.symm⟩
  ·exact hN2 x hx
 have hat:∀ x c,atN (eff1 b) x=some c→(x.1<n0∨NewIds b nx x.1)∧∃ d,atN S2.own (σ b x)=some d∧BlkLe (fun i=>i<n0∨NewIds b nx i) (σ b) d c:=fun x c hx=>ownLe_at (ho b hb) hx
 refine ⟨fun x=>if x.1∈ks then emp else H (σ b x),fun x c hx=>?_,fun x y c d hx hy hne n=>?_,fun x c hx n o hn=>?_⟩
 ·rcases atN_kill hx with ⟨h1,rfl⟩ | ⟨h1,hx⟩
  ·simp only [h1,if_true];rfl
  ·simp only [h1,if_false]
   obtain ⟨h1,d,h2,h3⟩:=hat x c hx
   exact blk_le hR h1 h3 (hH.den _ _ h2)
 ·rcases atN_kill hx with ⟨h1,rfl⟩ | ⟨h1,hx⟩
  ·simp [h1,emp]
  ·rcases atN_kill hy with ⟨h2,rfl⟩ | ⟨h2,hy⟩
   ·simp [h2,emp]
   ·simp only [h1,h2,if_false]
    obtain ⟨_,d1,g2,_⟩:=hat x c hx
    obtain ⟨_,d2,k2,_⟩:=hat y d hy
    exact hH.disj _ _ d1 d2 g2 k2 (fun e=>hne (hi b hb x y c d hx hy e)) n
 ·rcases atN_kill hx with ⟨h1,rfl⟩ | ⟨h1,hx⟩
  ·simp [h1,emp] at hn
  ·simp only [h1,if_false] at hn
   obtain ⟨_,d1,g2,_⟩:=hat x c hx
   exact hH.sub _ d1 g2 n o hn
end Go.Proofs.Ytgljbdcamagdbaa.Z
namespace Go.Proofs.Ytgljbdcamagdbaa.Z
open Go Go.RowKit
def NmF (z:Nm) (c:SC):Env→World→Prop:=fun E _=>E.χ z=c.den E
theorem le_fact {C:Ctx} {nt:Nat} {tmps:List (Nat×SV)} {own:Own} {arrs:List (Nat×Fm ArrF)} {facts:List (Env→World→Prop)} {nid:Nat} (c:SC) (hc:(SV.c c).okN (· < nid)) (h1:∀ E,(c.den E).oneCell' = true) :
  Le C ⟨nt,tmps,own,arrs,facts,nid⟩ ⟨nt,tmps,own,arrs,NmF (nid,0,0) c :: facts,nid+1⟩:=by
 intro E a w hs
 refine ⟨⟨E.ρ,E.κ,E.ν,fun x=>if x.1=nid then c.den E else E.χ x⟩,fun x=>?_,fun E2 hE2 ho2=>?_⟩
 ·simp only
  split
  ·exact h1 E
  ·exact hs.1 x
 have hlow:AgreeD (· < nid) E E2:=fun x hx=>by
  have h:=hE2 x (Nat.lt_succ_of_lt hx)
  have hne:x.1≠nid:=by have:x.1<nid:=hx;omega
  simp only [Same,hne,if_false] at h
  exact h
 have hs2:=hs.2 E2 hlow ho2
 have hz:E2.χ (nid,0,0)=c.den E:=by
  have h:=(hE2 (nid,0,0) (Nat.lt_succ_self nid)).2.2.2
  simpa using h
 have hcd:c.den E2=c.den E:=by
  have:=den_same (fun x hx=>hlow x hx) hc
  rwa [den_c,den_c] at this
 obtain ⟨H,hH,hF⟩:=hs2.mem
 refine ⟨hs2.size,hs2.defers,ho2,hs2.tmps,hs2.frame,H,⟨hH.den,hH.disj,hH.sub⟩,fun w' hw'=>⟨(hF w' hw').1,fun φ hφ=>?_⟩⟩
 rcases List.mem_cons.1 hφ with rfl | hφ
 ·show E2.χ (nid,0,0)=c.den E2
  rw [hz,hcd]
 ·exact (hF w' hw').2 φ hφ
theorem le_ardenF {C:Ctx} {S:St} {i n s ty:Nat} {f g:Nat→List SC} (h:look S.own i=some (.one (.ar n s f ty))) (hfg:∀ e,e<n→∀ E w,(∀ φ∈S.facts,φ E w)→(f e).map (SC.den E)=(g e).map (SC.den E)):Le C S ⟨S.nt,S.tmps,mergeL (setN S.own (i,0,0) (.ar n s g ty)) S.own,S.arrs,S.facts,S.nid⟩:=by
 have hy:pkN S.own (i,0,0)=some (0=0∧0=0,.ar n s f ty):=by unfold pkN;rw [h];rfl
 intro E a w hs
 have haft:After C.B C.W C.w0 E [] S a w (.c (.v undef)) 0 (setN S.own (i,0,0) (.ar n s g ty)) [] undef w:=by
  refine ⟨⟨fun _=>0,fun _=>0,fun _=>false,fun _=>.bool true⟩,fun _=>rfl,fun E2 hs2 _ hag=>⟨by rw [den_c,den_v],(fits_put hy ⟨rfl,rfl⟩ ⟨rfl,rfl,rfl⟩ (Nat.le_refl _) fun H hH=>?_).G⟩⟩
  have hd:=hH.den _ _ (pkN_at hy ⟨rfl,rfl⟩)
  have hsub:=hH.sub _ _ (pkN_at hy ⟨rfl,rfl⟩)
  refine ⟨H (i,0,0),?_,fun n _ _=>rfl,fun n o hn=>⟨(hsub n o hn).1,Or.inr (by rw [hn];simp)⟩⟩
  simp only [Blk.den] at hd ⊢
  rcases hd with hd | ⟨h1,h2,h3,cells,h4,h5,h6⟩
  ·exact Or.inl hd
  ·refine Or.inr ⟨h1,h2,h3,cells,h4,h5,fun e he=>?_⟩
   obtain ⟨g1,g2⟩:=h6 e he
   have hm:=hfg e he E2 w (holds_of hs2).2
   have hl:(f e).length=(g e).length:=by have:=congrArg List.length hm;simpa using this
   refine ⟨hl ▸ g1,fun j u hu=>?_⟩
   have hlt:=(List.getElem?_eq_some_iff.1 hu).1
   obtain ⟨u',hu'⟩:∃ u',(f e)[j]? = some u':=⟨_,List.getElem?_eq_getElem (by omega)⟩
   have e1:u'.den E2=u.den E2:=by
    have:=congrArg (fun l=>l[j]?) hm
    simp only [List.getElem?_map,hu,hu',Option.map_some,Option.some.injEq] at this
    exact this
   rw [← e1]
   exact g2 j u' hu'
 obtain ⟨E',h'⟩:=satA_after hs (fun i hi=>by cases hi) haft none
 exact ⟨E',h'⟩
theorem keep_inF {C:Ctx} {S:St} {y z:Nm} {n s ty:Nat} {f:Nat→List SC} {p:Prop} (hz:NmF z (.sl y s 0 n none)∈S.facts) (hy:pkN S.own y=some (p,.ar n s f ty)) (hp:p) :
  Le C S ⟨S.nt,S.tmps,mergeL (setN S.own y (.pr (KeepP y z n s f ty n))) S.own,S.arrs,S.facts,S.nid⟩:=by
 intro E a w hs
 have haft:After C.B C.W C.w0 E [] S a w (.c (.v undef)) 0 (setN S.own y (.pr (KeepP y z n s f ty n))) [] undef w:=by
  refine ⟨⟨fun _=>0,fun _=>0,fun _=>false,fun _=>.bool true⟩,fun _=>rfl,fun E2 hs2 _ hag=>⟨by rw [den_c,den_v],(fits_put hy hp ⟨rfl,rfl,rfl⟩ (Nat.le_refl _) fun H hH=>⟨H y,?_,fun n _ _=>rfl,fun n o hn=>⟨(hH.sub _ _ (pkN_at hy hp) n o hn).1,Or.inr (by rw [hn];simp)⟩⟩).G⟩⟩
  have hd:=hH.den _ _ (pkN_at hy hp)
  have hf:E2.χ z=(SC.sl y s 0 n none).den E2:=(holds_of hs2).2 _ hz
  simp only [Blk.den] at hd ⊢
  exact ⟨Nat.le_refl _,Or.inl ⟨f,fun _ _=>rfl,hf,by simp only [Blk.den];exact hd⟩⟩
 obtain ⟨E',h'⟩:=satA_after hs (fun i hi=>by cases hi) haft none
 exact ⟨E',h'⟩
theorem keep_inO {C:Ctx} {nt:Nat} {tmps:List (Nat×SV)} {own:Own} {arrs:List (Nat×Fm ArrF)} {facts:List (Env→World→Prop)} {nid:Nat} {z:Nm} {ba:Option Addr} (s ty:Nat) (f:Nat→List SC) (hz:NmF z (.v (.slice ba 0 0))∈facts) (hn:look own nid=none) :
  Le C ⟨nt,tmps,own,arrs,facts,nid⟩ ⟨nt,tmps,(nid,.one (.pr (KeepP (nid,0,0) z 0 s f ty 0))) :: own,arrs,facts,nid+1⟩:=by
 intro E a w hs
 refine ⟨⟨E.ρ,fun x=>if x.1=nid then 0 else E.κ x,E.ν,E.χ⟩,fun x=>hs.1 x,fun E2 hE2 ho2=>?_⟩
 have hs2:=hs.2 E2 (fun x hx=>by
  have h:=hE2 x (Nat.lt_succ_of_lt hx)
  have hne:x.1≠nid:=by have:x.1<nid:=hx;omega
  simp only [Same,hne,if_false] at h
  exact h) ho2
 have hsz:=hE2 (nid,0,0) (Nat.lt_succ_self nid)
 have hκ:E2.κ (nid,0,0)=0:=by have h:=hsz.2.1;simpa using h
 have hf:E2.χ z=(SC.v (.slice ba 0 0)).den E2:=(holds_of (C:=C) hs2).2 _ hz
 obtain ⟨H,hH,hF⟩:=hs2.mem
 have hat:∀ x b,atN own x=some b→x.1≠nid:=fun x b h e=>by
  obtain ⟨F,hF,_⟩:=atN_some h
  rw [e,hn] at hF
  cases hF
 refine ⟨hs2.size,hs2.defers,ho2,hs2.tmps,hs2.frame,fun x=>if x.1=nid then emp else H x,⟨fun x b hb=>?_,fun x y b c hb hc hne n=>?_,fun x b hb n o hn=>?_⟩,fun w' hw'=>?_⟩
 ·rcases atN_one hb with ⟨rfl,rfl⟩ | hb
  ·simp only [if_true,Blk.den]
   exact ⟨Nat.le_refl _,Or.inr (Or.inr ⟨rfl,hκ,Or.inl ⟨trivial,hκ,rfl,rfl⟩,ba,by rw [hf];simp [SC.den]⟩)⟩
  ·simp only [hat x b hb,if_false]
   exact hH.den x b hb
 ·rcases atN_one hb with ⟨rfl,rfl⟩ | hb
  ·simp [emp]
  ·rcases atN_one hc with ⟨rfl,rfl⟩ | hc
   ·simp [emp]
   ·simp only [hat x b hb,hat y c hc,if_false]
    exact hH.disj x y b c hb hc hne n
 ·rcases atN_one hb with ⟨rfl,rfl⟩ | hb
  ·simp [emp] at hn
  ·simp only [hat x b hb,if_false] at hn
   exact hH.sub x b hb n o hn
 ·exact hF w' fun n hn hfr=>hw' n hn fun x b hb=>by
   rcases atN_one hb with ⟨rfl,rfl⟩ | hb
   ·simp [emp]
   ·simp only [hat x b hb,if_false]
    exact hfr x b hb
end Go.Proofs.Ytgljbdcamagdbaa.Z
