/- ModelOwnSaid: what its proof is made of. No condition. -/
import Derived.Test.YtgljbdcamagdbaaPkModelOwnAL
set_option linter.unusedSimpArgs false
set_option linter.unusedVariables false
namespace Go.Proofs.Ytgljbdcamagdbaa
open Go.RowKit
def refN (m:MC) (op:Int):Int:=if mayB m=false then 111 else if objOf op=0 then 110 else 0
set_option maxHeartbeats 1000000 in
theorem refused_any {v:Value} {m:MC} {w:World} (op:Int) (h:Cont w v m) :
  Calls Try.prog 44 #[v,.int .i64 op] w fun r w'=>r = .returned (.int .i64 (refN m op))∧Below w.heap.size w w':=by
 have h0:=h
 obtain ⟨a,b,c,d,e,rfl,_⟩:=h
 have C1:Hid (∀ wx,Below w.heap.size w wx→Calls Try.prog 18 #[.agg #[a,b,c,d,e]] wx fun r w'=>r = .returned (.bool (mayB m))∧Below wx.heap.size wx w'):=fun wx hb=>mMay (h0.below hb)
 clear h0
 obtain ⟨hW,hS,hA⟩:=one_box w #[a,b,c,d,e] 29
 obtain ⟨⟨x0,x1,x2,x3,x4⟩,_⟩:=blk5 hA
 go_enter Try.func44,Try.ntmps44
 go_wp2_with fail
 clear x0 x1 x2 x3 x4
 generalize w.alloc (.cells #[a,b,c,d,e] 29)=W1 at *
 (with_reducible refine (C1.out _ hW).mono ?_)
 rintro r w1 ⟨rfl,hb1⟩
 have hbw:Below w.heap.size w w1:=hW.trans (hb1.mono (by omega))
 have HB:=Lib.hid hbw
 clear hbw hb1 hW hA C1
 by_cases hm:mayB m=false
 ·have hn:Hid (refN m op=111):=by show _=_;rw [refN,if_pos hm]
  rw [hm]
  go_wp2
  go_ret
  exact ⟨by rw [hn.out];rfl,HB.out⟩
 ·have hm1:mayB m=true:=by simpa using hm
  rw [hm1]
  by_cases ho:objOf op=0
  ·have hn:Hid (refN m op=110):=by show _=_;rw [refN,if_neg hm,if_pos ho]
   clear hm hm1
   go_wp2_with fail
   refine (mObject _ _).mono ?_
   rintro r w2 ⟨rfl,rfl⟩
   rw [ho]
   go_wp2
   go_ret
   exact ⟨by rw [hn.out];rfl,HB.out⟩
  ·have hn:Hid (refN m op=0):=by show _=_;rw [refN,if_neg hm,if_neg ho]
   have ho2:(objOf op == 0)=false:=by simpa using ho
   clear hm hm1
   go_wp2_with fail
   refine (mObject _ _).mono ?_
   rintro r w2 ⟨rfl,rfl⟩
   go_wp2
   go_ret
   exact ⟨by rw [hn.out];rfl,HB.out⟩
theorem own_row_type {α:Type} {w:World} {base:Nat} {e t:TypeId} {enc:α→List Value} {size:Nat} {v:Value} {xs:List α} {k:Nat} {cs cs' : Array Value} (h:OwnE w base e enc size v xs) (hk:w.heap[k]? = some (.cells cs t (0,0))) (hne:t≠e) :
  OwnE (w.setRow k cs') base e enc size v xs:=by
 rcases h with h | ⟨h1,h⟩
 ·exact Or.inl h
 ·refine Or.inr ⟨h1,?_⟩
  rcases h with h | ⟨g,cap,cur,r1,r2,r3,r4⟩
  ·exact Or.inl h
  ·have hgk:g≠k:=by
    rintro rfl
    rw [hk] at r3
    simp only [Option.some.injEq,Obj.cells.injEq] at r3
    exact hne r3.2.1
   exact Or.inr ⟨g,cap,cur,r1,r2,(setRow_other w k g cs' hgk).trans r3,r4⟩
def doM (m:MC) (op arg data:Int):MC×Int×Int :=
 if objOf op=1 then ({ m with cell:=(doCell m.cell op arg).1 },(doCell m.cell op arg).2)
 else if objOf op=2 then ({ m with stack:=(doStack m.stack op arg).1 },(doStack m.stack op arg).2)
 else if objOf op=3 then ({ m with queue:=(doQueue m.queue op arg).1 },(doQueue m.queue op arg).2)
 else if objOf op=4 then ({ m with set:=(doSet m.set op arg).1 },(doSet m.set op arg).2)
 else ({ m with table:=(doTable m.table op arg data).1 },(doTable m.table op arg data).2)
def RetD3 (W:World) (d:MC×Int×Int) (n:Int) (r:Ending) (w' : World):Prop:=∃ v',r = .returned (.tuple #[v',.agg #[.int .i64 d.2.1,.int .i64 d.2.2],.int .i64 n])∧OwnD w' W.heap.size v' d.1∧Below W.heap.size W w'
theorem three_boxes (w:World) (A B C:Array Value) (t u v:TypeId) :
  Below w.heap.size w (((w.alloc (.cells A t)).alloc (.cells B u)).alloc (.cells C v))∧(((w.alloc (.cells A t)).alloc (.cells B u)).alloc (.cells C v)).heap.size=w.heap.size+3 ∧
  (((w.alloc (.cells A t)).alloc (.cells B u)).alloc (.cells C v)).heap[w.heap.size]? = some (.cells A t)∧(((w.alloc (.cells A t)).alloc (.cells B u)).alloc (.cells C v)).heap[w.heap.size+1]? = some (.cells B u) ∧
  (((w.alloc (.cells A t)).alloc (.cells B u)).alloc (.cells C v)).heap[w.heap.size+2]? = some (.cells C v):=by
 obtain ⟨h1,h2,h3,h4⟩:=two_boxes w A B t u
 refine ⟨h1.trans ((below_box _ _).mono (by omega)),by simp,?_,?_,?_⟩
 ·rw [((below_box _ (.cells C v)).block w.heap.size (by omega))];exact h3
 ·rw [((below_box _ (.cells C v)).block (w.heap.size+1) (by omega))];exact h4
 ·have:=heap_alloc_new ((w.alloc (.cells A t)).alloc (.cells B u)) (.cells C v)
  rwa [h2] at this
def PhiD_cell (B bx:Nat) (op arg data:Int) (a b c d e cur:Value) (D:List Int×Int×Int):Nat→Value→World→Prop
 | 0,v,_=>v = .agg #[a,b,c,d,e]
 | 1,v,_=>v = .int .i64 op
 | 2,v,_=>v = .int .i64 1
 | 3,v,_=>v = .iface 90 cur
 | 4,v,_=>v = .int .i64 op
 | 5,v,_=>v = .int .i64 arg
 | 6,v,_=>v = .int .i64 data
 | 7,v,w=>∃ b7 c7,v = .tuple #[.iface 90 (.slice b7 D.1.length c7),.agg #[.int .i64 D.2.1,.int .i64 D.2.2]]∧OwnE w B 3 eI 1 (.slice b7 D.1.length c7) D.1
 | 8,v,w=>∃ b7 c7,v = .tuple #[.iface 90 (.slice b7 D.1.length c7),.agg #[.int .i64 D.2.1,.int .i64 D.2.2]]∧OwnE w B 3 eI 1 (.slice b7 D.1.length c7) D.1
 | 9,v,w=>∃ b7 c7,v = .iface 90 (.slice b7 D.1.length c7)∧OwnE w B 3 eI 1 (.slice b7 D.1.length c7) D.1
 | 12,v,w=>∃ b7 c7,v = .iface 90 (.slice b7 D.1.length c7)∧OwnE w B 3 eI 1 (.slice b7 D.1.length c7) D.1
 | 10,v,_=>v = .agg #[.int .i64 D.2.1,.int .i64 D.2.2]
 | 11,v,w=>∃ k,v = .pointer (some ⟨k,0,none⟩)∧bx<k∧k<w.heap.size∧w.heap[k]? = some (.cells #[.int .i64 0,.int .i64 0] 42 (0,0))
 | _,_,_=>True
theorem PhiD_cell_stab (B bx:Nat) (op arg data:Int) (a b c d e cur:Value) (D:List Int×Int×Int):∀ i v w w',PhiD_cell B bx op arg data a b c d e cur D i v w→Below w.heap.size w w'→PhiD_cell B bx op arg data a b c d e cur D i v w':=by
 intro i v w w' h hb
 unfold PhiD_cell at h ⊢
 split <;> simp only at h <;> first | exact h | trivial | (obtain ⟨b7,c7,h1,h2⟩:=h;exact ⟨b7,c7,h1,h2.ext hb⟩) | (obtain ⟨k,h1,h2,h3,h4⟩:=h;exact ⟨k,h1,h2,Nat.lt_of_lt_of_le h3 hb.size,(hb.block k h3).trans h4⟩)
set_option maxRecDepth 100000 in
set_option maxHeartbeats 2000000 in
theorem mDo_cell {v:Value} {m:MC} {w:World} (op arg data:Int) (h:Cont w v m) (hok:m.ok 1) (hm:mayB m=true) (ho:objOf op=1) :
  Calls Try.prog 25 #[v,.int .i64 op,.int .i64 arg,.int .i64 data] w (RetD3 w (doM m op arg data) 0):=by
 have hd:doM m op arg data=({ m with cell:=(doCell m.cell op arg).1 },(doCell m.cell op arg).2):=by simp [doM,ho]
 rw [hd]
 clear hd
 have h0:=h
 obtain ⟨a,b,c,d,e,rfl,_⟩:=h
 have hr:refN m op=0:=by simp [refN,hm,ho]
 have C1:Hid (∀ wx,Below w.heap.size w wx→Calls Try.prog 44 #[.agg #[a,b,c,d,e],.int .i64 op] wx fun r w'=>r = .returned (.int .i64 0)∧Below wx.heap.size wx w'):=fun wx hb=>by rw [← hr];exact refused_any op (h0.below hb)
 have C2:Hid (∀ wx,Below w.heap.size w wx→Calls Try.prog 42 #[.agg #[a,b,c,d,e]] wx (RetD wx m)):=fun wx hb=>mCopied (h0.below hb) (hok.le (by omega))
 have hok1:m.ok 1:=hok
 simp only [MC.ok] at hok1
 have HOK:=Lib.hid hok1
 have HM:Hid (mayB m=true):=hm
 have HO:=Lib.hid ho
 clear h0 hok hm hr hok1
 obtain ⟨hW,hS,hA,hB,hC⟩:=three_boxes w #[a,b,c,d,e] #[.slice none 0 0,.slice none 0 0,.slice none 0 0,.slice none 0 0,.slice none 0 0] #[.int .i64 0,.int .i64 0] 29 29 42
 go_enter Try.func25,Try.ntmps25
 go_wp2_with fail
 generalize ((w.alloc (.cells #[a,b,c,d,e] 29)).alloc (.cells #[.slice none 0 0,.slice none 0 0,.slice none 0 0,.slice none 0 0,.slice none 0 0] 29)).alloc (.cells #[.int .i64 0,.int .i64 0] 42)=W1 at *
 have HA:=Lib.hid hA;clear hA
 have HB:=Lib.hid hB;clear hB
 have HC:=Lib.hid hC;clear hC
 (with_reducible refine (C1.out _ hW).mono ?_)
 rintro r w1 ⟨rfl,hb1⟩
 have hb:Below (w.heap.size+3) W1 w1:=hb1.mono (by omega)
 clear hb1 C1
 have hbw:Below w.heap.size w w1:=hW.trans (hb.mono (by omega))
 have hs1:=hb.size
 obtain ⟨⟨x0,x1,x2,x3,x4⟩,_⟩:=blk5 ((hb.block w.heap.size (by omega)).trans HA.out)
 go_wp2_with fail
 clear x0 x1 x2 x3 x4
 (with_reducible refine (C2.out _ hbw).mono ?_)
 rintro r w4 ⟨v',rfl,hc,hb4⟩
 obtain ⟨a',b',c',d',e',rfl,g1,g2,g3,g4,g5⟩:=hc
 obtain ⟨b1,c1,rfl⟩:=g1.form
 obtain ⟨b2,c2,rfl⟩:=g2.form
 obtain ⟨b3,c3,rfl⟩:=g3.form
 obtain ⟨b4,c4,rfl⟩:=g4.form
 obtain ⟨b5,c5,rfl⟩:=g5.form
 obtain ⟨hW5,hS5,hP⟩:=one_box w4 #[.slice b1 m.cell.length c1,.slice b2 m.stack.length c2,.slice b3 m.queue.length c3,.slice b4 m.set.length c4,.slice b5 m.table.length c5] 29
 have hs4:=hb4.size
 have G:=Lib.hid (⟨g1.ext hW5,g2.ext hW5,g3.ext hW5,g4.ext hW5,g5.ext hW5⟩:_∧_∧_∧_∧_)
 clear g1 g2 g3 g4 g5 C2
 go_upto_region 5 with (fail)
 generalize w4.alloc (.cells #[.slice b1 m.cell.length c1,.slice b2 m.stack.length c2,.slice b3 m.queue.length c3,.slice b4 m.set.length c4,.slice b5 m.table.length c5] 29)=W5 at *
 have HP:=Lib.hid hP;clear hP
 have hlt5:w4.heap.size<W5.heap.size:=by omega
 have hle5:w1.heap.size≤W5.heap.size:=by omega
 have hbw5:Below w.heap.size w W5:=hbw.trans ((hb4.mono (by omega)).trans (hW5.mono (by omega)))
 have hb5:Below (w.heap.size+3) W1 W5:=hb.trans ((hb4.mono (by omega)).trans (hW5.mono (by omega)))
 have hob:ofV 1 (.slice b1 m.cell.length c1) (.slice b2 m.stack.length c2) (.slice b3 m.queue.length c3) (.slice b4 m.set.length c4) (.slice b5 m.table.length c5) = .iface 90 (.slice b1 m.cell.length c1):=rfl
 have HOF:=Lib.hid hob
 clear hb hb4 hbw hW5 hob
 have CD:Hid (∀ wx,Below W5.heap.size W5 wx→Calls Try.prog 72 #[.slice b1 m.cell.length c1,.int .i64 op,.int .i64 arg,.int .i64 data] wx (RetDo wx w1.heap.size 90 3 eI 1 (doCell m.cell op arg))):=fun wx hx=>do_cell op arg data (Nat.le_trans hle5 hx.size) (G.out.1.ext hx)
 refine wp_region_facts_lit 13 (PhiD_cell w1.heap.size w4.heap.size op arg data (.slice b1 m.cell.length c1) (.slice b2 m.stack.length c2) (.slice b3 m.queue.length c3) (.slice b4 m.set.length c4) (.slice b5 m.table.length c5) (.slice b1 m.cell.length c1) (doCell m.cell op arg)) (fun w w'=>Below w.heap.size w w') (by kernel_rfl) (by kernel_rfl) (by simp) ext_refl ext_trans (PhiD_cell_stab _ _ _ _ _ _ _ _ _ _ _ _) ?_ ?_
 ·refine ⟨?_,?_,?_,?_,?_,?_,?_,?_,?_,?_,?_,?_,?_,trivial⟩
  all_goals intro A W hR hd hs hag hpre
  all_goals rw [if_pos (by rfl)]
  ·have t1:=hag 12 (noDst (by kernel_rfl))
   have t1' : A.tmps.getD 12 undef = .pointer (some ⟨w4.heap.size,0,none⟩):=t1
   clear t1
   obtain ⟨⟨z0,z1,z2,z3,z4⟩,_⟩:=blk5 ((hR.block w4.heap.size hlt5).trans HP.out)
   go_simp
   exact ⟨Below.refl _ _,_,rfl,rfl⟩
  ·have t1:=hag 1 (noDst (by kernel_rfl))
   have t1' : A.tmps.getD 1 undef = .int .i64 op:=t1
   clear t1
   go_simp
   exact ⟨Below.refl _ _,_,rfl,rfl⟩
  ·have p:A.tmps.getD 27 undef = .int .i64 op:=hpre ⟨1,.data⟩ (by simp) rfl _ rfl
   go_simp
   refine (mObject _ _).mono ?_
   rintro r wo ⟨rfl,rfl⟩
   rw [HO.out]
   exact ⟨Below.refl _ _,_,rfl,rfl⟩
  ·have p:A.tmps.getD 26 undef = .agg #[.slice b1 m.cell.length c1,.slice b2 m.stack.length c2,.slice b3 m.queue.length c3,.slice b4 m.set.length c4,.slice b5 m.table.length c5]:=hpre ⟨0,.data⟩ (by simp) rfl _ rfl
   have q:A.tmps.getD 28 undef = .int .i64 1:=hpre ⟨2,.data⟩ (by simp) rfl _ rfl
   go_simp
   refine (of_any _ _ _ _ _ _ _).mono ?_
   rintro r w6 ⟨rfl,hb6⟩
   rw [HOF.out]
   exact ⟨hb6,_,rfl,rfl⟩
  ·have t1:=hag 1 (noDst (by kernel_rfl))
   have t1' : A.tmps.getD 1 undef = .int .i64 op:=t1
   clear t1
   go_simp
   exact ⟨Below.refl _ _,_,rfl,rfl⟩
  ·have t1:=hag 2 (noDst (by kernel_rfl))
   have t1' : A.tmps.getD 2 undef = .int .i64 arg:=t1
   clear t1
   go_simp
   exact ⟨Below.refl _ _,_,rfl,rfl⟩
  ·have t1:=hag 3 (noDst (by kernel_rfl))
   have t1' : A.tmps.getD 3 undef = .int .i64 data:=t1
   clear t1
   go_simp
   exact ⟨Below.refl _ _,_,rfl,rfl⟩
  ·have p0:A.tmps.getD 29 undef = .iface 90 (.slice b1 m.cell.length c1):=hpre ⟨3,.data⟩ (by simp) rfl _ rfl
   have p1:A.tmps.getD 30 undef = .int .i64 op:=hpre ⟨4,.data⟩ (by simp) rfl _ rfl
   have p2:A.tmps.getD 31 undef = .int .i64 arg:=hpre ⟨5,.data⟩ (by simp) rfl _ rfl
   have p3:A.tmps.getD 32 undef = .int .i64 data:=hpre ⟨6,.data⟩ (by simp) rfl _ rfl
   have hme:=meth_cell_do b1 m.cell.length c1 W
   go_simp
   clear hme
   have hx:Below W5.heap.size W5 W:=(Below.refl _ _).drew.trans hR
   (with_reducible refine (CD.out _ hx).mono ?_)
   rintro r w7 ⟨v7,rfl,ho7,hb7⟩
   obtain ⟨b7,c7,rfl⟩:=ho7.form
   exact ⟨hb7,_,rfl,b7,c7,rfl,ho7⟩
  ·obtain ⟨b7,c7,p,ho7⟩:∃ b7 c7,A.tmps.getD 33 undef = .tuple #[.iface 90 (.slice b7 (doCell m.cell op arg).1.length c7),.agg #[.int .i64 (doCell m.cell op arg).2.1,.int .i64 (doCell m.cell op arg).2.2]]∧OwnE W w1.heap.size 3 eI 1 (.slice b7 (doCell m.cell op arg).1.length c7) (doCell m.cell op arg).1:=hpre ⟨7,.data⟩ (by simp) rfl _ rfl
   go_simp
   exact ⟨Below.refl _ _,_,rfl,b7,c7,rfl,ho7⟩
  ·obtain ⟨b7,c7,p,ho7⟩:∃ b7 c7,A.tmps.getD 25 undef = .tuple #[.iface 90 (.slice b7 (doCell m.cell op arg).1.length c7),.agg #[.int .i64 (doCell m.cell op arg).2.1,.int .i64 (doCell m.cell op arg).2.2]]∧OwnE W w1.heap.size 3 eI 1 (.slice b7 (doCell m.cell op arg).1.length c7) (doCell m.cell op arg).1:=hpre ⟨8,.data⟩ (by simp) rfl _ rfl
   go_simp
   exact ⟨Below.refl _ _,_,rfl,b7,c7,rfl,ho7⟩
  ·obtain ⟨b7,c7,p,ho7⟩:∃ b7 c7,A.tmps.getD 25 undef = .tuple #[.iface 90 (.slice b7 (doCell m.cell op arg).1.length c7),.agg #[.int .i64 (doCell m.cell op arg).2.1,.int .i64 (doCell m.cell op arg).2.2]]∧OwnE W w1.heap.size 3 eI 1 (.slice b7 (doCell m.cell op arg).1.length c7) (doCell m.cell op arg).1:=hpre ⟨8,.data⟩ (by simp) rfl _ rfl
   go_simp
   exact ⟨Below.refl _ _,_,rfl,rfl⟩
  ·go_simp
   exact ⟨below_box _ _,_,rfl,W.heap.size,rfl,Nat.lt_of_lt_of_le hlt5 hR.size,by simp,heap_alloc_new W _⟩
  ·obtain ⟨b7,c7,p,ho7⟩:∃ b7 c7,A.tmps.getD 34 undef = .iface 90 (.slice b7 (doCell m.cell op arg).1.length c7)∧OwnE W w1.heap.size 3 eI 1 (.slice b7 (doCell m.cell op arg).1.length c7) (doCell m.cell op arg).1:=hpre ⟨9,.data⟩ (by simp) rfl _ rfl
   go_simp
   exact ⟨Below.refl _ _,_,rfl,b7,c7,rfl,ho7⟩
 ·intro vs W hR hΦ
  obtain ⟨b7,c7,e12,g12⟩:=hΦ 12 (by omega)
  have e10:vs 10 = .agg #[.int .i64 (doCell m.cell op arg).2.1,.int .i64 (doCell m.cell op arg).2.2]:=hΦ 10 (by omega)
  obtain ⟨k,e11,hk1,hk2,hk3⟩:=hΦ 11 (by omega)
  simp only [putN,List.getElem?_toArray,List.getElem?_cons_succ,List.getElem?_cons_zero,Option.bind_some,Act.put,List.setIfInBounds_toArray,List.set_cons_succ,List.set_cons_zero,List.drop_succ_cons,List.drop_zero,e12,e10,e11]
  clear hΦ e12 e10 e11
  have hR5:Below W5.heap.size W5 W:=(Below.refl _ _).drew.trans hR
  obtain ⟨⟨x0,x1⟩,⟨f0,f1⟩⟩:=blk2 hk3
  have HK3:=Lib.hid hk3
  have HG12:=Lib.hid g12
  clear g12 hk3 CD HOF
  go_upto_region 6 with (fail)
  rw [set2 HK3.out]
  clear x0 x1 f0 f1
  have h58:Below W5.heap.size W5 (W.setRow k #[.int .i64 (doCell m.cell op arg).2.1,.int .i64 (doCell m.cell op arg).2.2]):=below_setRow' hR5 (by omega) _
  have hP8:=(h58.block _ hlt5).trans HP.out
  have ho8:=own_row_type HG12.out HK3.out (by decide) (cs':=#[.int .i64 (doCell m.cell op arg).2.1,.int .i64 (doCell m.cell op arg).2.2])
  have hT:=setRow_heap W k _ #[.int .i64 (doCell m.cell op arg).2.1,.int .i64 (doCell m.cell op arg).2.2] 42 (0,0) HK3.out
  have hkW:k<(W.setRow k #[.int .i64 (doCell m.cell op arg).2.1,.int .i64 (doCell m.cell op arg).2.2]).heap.size:=by simp [hk2]
  clear HK3 HG12 hR hR5
  generalize W.setRow k #[.int .i64 (doCell m.cell op arg).2.1,.int .i64 (doCell m.cell op arg).2.2]=W8 at *
  have hme:=meth_cell_put b7 (doCell m.cell op arg).1.length c7 W8
  go_wp2_with fail
  clear hme
  refine (put_cell hP8 rfl).mono ?_
  rintro r w9 ⟨rfl,hw9⟩
  have hP9:=setRow_heap W8 w4.heap.size _ #[.slice b7 (doCell m.cell op arg).1.length c7,.slice b2 m.stack.length c2,.slice b3 m.queue.length c3,.slice b4 m.set.length c4,.slice b5 m.table.length c5] 29 (0,0) hP8
  have hT9:=(setRow_other W8 w4.heap.size k #[.slice b7 (doCell m.cell op arg).1.length c7,.slice b2 m.stack.length c2,.slice b3 m.queue.length c3,.slice b4 m.set.length c4,.slice b5 m.table.length c5] (by omega)).trans hT
  have hb9:Below (w.heap.size+3) W1 (W8.setRow w4.heap.size #[.slice b7 (doCell m.cell op arg).1.length c7,.slice b2 m.stack.length c2,.slice b3 m.queue.length c3,.slice b4 m.set.length c4,.slice b5 m.table.length c5]):=below_setRow' (hb5.trans (h58.mono (by omega))) (by omega) _
  have g:=G.out
  have k1:=own_row_type (g.1.ext h58) hP8 (by decide) (cs':=#[.slice b7 (doCell m.cell op arg).1.length c7,.slice b2 m.stack.length c2,.slice b3 m.queue.length c3,.slice b4 m.set.length c4,.slice b5 m.table.length c5])
  have k2:=own_row_type (g.2.1.ext h58) hP8 (by decide) (cs':=#[.slice b7 (doCell m.cell op arg).1.length c7,.slice b2 m.stack.length c2,.slice b3 m.queue.length c3,.slice b4 m.set.length c4,.slice b5 m.table.length c5])
  have k3:=own_row_type (g.2.2.1.ext h58) hP8 (by decide) (cs':=#[.slice b7 (doCell m.cell op arg).1.length c7,.slice b2 m.stack.length c2,.slice b3 m.queue.length c3,.slice b4 m.set.length c4,.slice b5 m.table.length c5])
  have k4:=own_row_type (g.2.2.2.1.ext h58) hP8 (by decide) (cs':=#[.slice b7 (doCell m.cell op arg).1.length c7,.slice b2 m.stack.length c2,.slice b3 m.queue.length c3,.slice b4 m.set.length c4,.slice b5 m.table.length c5])
  have k5:=own_row_type (g.2.2.2.2.ext h58) hP8 (by decide) (cs':=#[.slice b7 (doCell m.cell op arg).1.length c7,.slice b2 m.stack.length c2,.slice b3 m.queue.length c3,.slice b4 m.set.length c4,.slice b5 m.table.length c5])
  have k6:=own_row_type ho8 hP8 (by decide) (cs':=#[.slice b7 (doCell m.cell op arg).1.length c7,.slice b2 m.stack.length c2,.slice b3 m.queue.length c3,.slice b4 m.set.length c4,.slice b5 m.table.length c5])
  rw [hw9] at hP9 hT9 hb9 k1 k2 k3 k4 k5 k6
  have hs9:=hb9.size
  have hY9:=(hb9.block (w.heap.size+1) (by omega)).trans HB.out
  have hZ9:=(hb9.block (w.heap.size+2) (by omega)).trans HC.out
  have hB9:Below w.heap.size w w9:=hW.trans (hb9.mono (by omega))
  have HP9:=Lib.hid hP9
  have HT9:=Lib.hid hT9
  have HY9:=Lib.hid hY9
  have HZ9:=Lib.hid hZ9
  have HB9:=Lib.hid hB9
  have KK:=Lib.hid (⟨k6,k2,k3,k4,k5⟩:_∧_∧_∧_∧_)
  clear hw9 g k1 k2 k3 k4 k5 k6 hP8 hT ho8 h58 hP9 hT9 hY9 hZ9 hB9 G
  have e2:w.heap.size+2=w.heap.size+1+1:=rfl
  rw [e2] at HZ9
  clear e2
  go_upto_region 7 with (fail)
  have hny:w.heap.size+1≠w4.heap.size:=by omega
  have hnz:w.heap.size+1+1≠w4.heap.size:=by omega
  have hky:w.heap.size+1≠k:=by omega
  have hkz:w.heap.size+1+1≠k:=by omega
  have hyz:w.heap.size+1+1≠w.heap.size+1:=by omega
  have HZ10:=Lib.hid ((setRow_other w9 (w.heap.size+1) (w.heap.size+1+1) #[.slice b7 (doCell m.cell op arg).1.length c7,.slice b2 m.stack.length c2,.slice b3 m.queue.length c3,.slice b4 m.set.length c4,.slice b5 m.table.length c5] hyz).trans HZ9.out)
  have HP10:=Lib.hid ((setRow_other w9 (w.heap.size+1) w4.heap.size #[.slice b7 (doCell m.cell op arg).1.length c7,.slice b2 m.stack.length c2,.slice b3 m.queue.length c3,.slice b4 m.set.length c4,.slice b5 m.table.length c5] (Ne.symm hny)).trans HP9.out)
  have HT10:=Lib.hid ((setRow_other w9 (w.heap.size+1) k #[.slice b7 (doCell m.cell op arg).1.length c7,.slice b2 m.stack.length c2,.slice b3 m.queue.length c3,.slice b4 m.set.length c4,.slice b5 m.table.length c5] (Ne.symm hky)).trans HT9.out)
  have HP11:=Lib.hid ((setRow_other (w9.setRow (w.heap.size+1) #[.slice b7 (doCell m.cell op arg).1.length c7,.slice b2 m.stack.length c2,.slice b3 m.queue.length c3,.slice b4 m.set.length c4,.slice b5 m.table.length c5]) (w.heap.size+1+1) w4.heap.size #[.int .i64 (doCell m.cell op arg).2.1,.int .i64 (doCell m.cell op arg).2.2] (Ne.symm hnz)).trans HP10.out)
  have HT11:=Lib.hid ((setRow_other (w9.setRow (w.heap.size+1) #[.slice b7 (doCell m.cell op arg).1.length c7,.slice b2 m.stack.length c2,.slice b3 m.queue.length c3,.slice b4 m.set.length c4,.slice b5 m.table.length c5]) (w.heap.size+1+1) k #[.int .i64 (doCell m.cell op arg).2.1,.int .i64 (doCell m.cell op arg).2.2] (Ne.symm hkz)).trans HT10.out)
  obtain ⟨⟨y0,y1,y2,y3,y4⟩,⟨f0,f1,f2,f3,f4⟩⟩:=blk5 HY9.out
  obtain ⟨⟨x0,x1⟩,⟨g0,g1⟩⟩:=blk2 HZ9.out
  go_region_held3 (fun wx=>(wx.cell? ⟨w4.heap.size,0,none⟩=some (.slice b7 (doCell m.cell op arg).1.length c7)∧wx.cell? ⟨w4.heap.size,1,none⟩=some (.slice b2 m.stack.length c2)∧wx.cell? ⟨w4.heap.size,2,none⟩=some (.slice b3 m.queue.length c3)∧wx.cell? ⟨w4.heap.size,3,none⟩=some (.slice b4 m.set.length c4)∧wx.cell? ⟨w4.heap.size,4,none⟩=some (.slice b5 m.table.length c5))∧(wx.cell? ⟨k,0,none⟩=some (.int .i64 (doCell m.cell op arg).2.1)∧wx.cell? ⟨k,1,none⟩=some (.int .i64 (doCell m.cell op arg).2.2)))
   (first | (rw [set5 HY9.out,set2 HZ10.out];exact ⟨(blk5 HP11.out).1,(blk2 HT11.out).1⟩) | (rw [set5 HY9.out];exact ⟨(blk5 HP10.out).1,(blk2 HT10.out).1⟩) | (exact ⟨(blk5 HP9.out).1,(blk2 HT9.out).1⟩))
   (fail)
  clear y0 y1 y2 y3 y4 f0 f1 f2 f3 f4 x0 x1 g0 g1
  rw [set5 HY9.out,set2 HZ10.out]
  have hYF:=(setRow_other (w9.setRow (w.heap.size+1) #[.slice b7 (doCell m.cell op arg).1.length c7,.slice b2 m.stack.length c2,.slice b3 m.queue.length c3,.slice b4 m.set.length c4,.slice b5 m.table.length c5]) (w.heap.size+1+1) (w.heap.size+1) #[.int .i64 (doCell m.cell op arg).2.1,.int .i64 (doCell m.cell op arg).2.2] (Ne.symm hyz)).trans (setRow_heap w9 (w.heap.size+1) _ #[.slice b7 (doCell m.cell op arg).1.length c7,.slice b2 m.stack.length c2,.slice b3 m.queue.length c3,.slice b4 m.set.length c4,.slice b5 m.table.length c5] 29 (0,0) HY9.out)
  have hZF:=setRow_heap (w9.setRow (w.heap.size+1) #[.slice b7 (doCell m.cell op arg).1.length c7,.slice b2 m.stack.length c2,.slice b3 m.queue.length c3,.slice b4 m.set.length c4,.slice b5 m.table.length c5]) (w.heap.size+1+1) _ #[.int .i64 (doCell m.cell op arg).2.1,.int .i64 (doCell m.cell op arg).2.2] 42 (0,0) HZ10.out
  have G1:=grownBy_setRow w9 (w.heap.size+1) #[.slice b7 (doCell m.cell op arg).1.length c7,.slice b2 m.stack.length c2,.slice b3 m.queue.length c3,.slice b4 m.set.length c4,.slice b5 m.table.length c5]
  have G2:=grownBy_setRow (w9.setRow (w.heap.size+1) #[.slice b7 (doCell m.cell op arg).1.length c7,.slice b2 m.stack.length c2,.slice b3 m.queue.length c3,.slice b4 m.set.length c4,.slice b5 m.table.length c5]) (w.heap.size+1+1) #[.int .i64 (doCell m.cell op arg).2.1,.int .i64 (doCell m.cell op arg).2.2]
  have BB:Hid (Below w.heap.size w ((w9.setRow (w.heap.size+1) #[.slice b7 (doCell m.cell op arg).1.length c7,.slice b2 m.stack.length c2,.slice b3 m.queue.length c3,.slice b4 m.set.length c4,.slice b5 m.table.length c5]).setRow (w.heap.size+1+1) #[.int .i64 (doCell m.cell op arg).2.1,.int .i64 (doCell m.cell op arg).2.2]).drew) :=
   (below_setRow' (below_setRow' HB9.out (by omega) _) (by omega) _).drew
  have hl1:w.heap.size+1<w1.heap.size:=by omega
  have hl2:w.heap.size+1+1<w1.heap.size:=by omega
  have hl0:w.heap.size≤w1.heap.size:=by omega
  have hdr:=(Below.refl ((w9.setRow (w.heap.size+1) #[.slice b7 (doCell m.cell op arg).1.length c7,.slice b2 m.stack.length c2,.slice b3 m.queue.length c3,.slice b4 m.set.length c4,.slice b5 m.table.length c5]).setRow (w.heap.size+1+1) #[.int .i64 (doCell m.cell op arg).2.1,.int .i64 (doCell m.cell op arg).2.2]).heap.size ((w9.setRow (w.heap.size+1) #[.slice b7 (doCell m.cell op arg).1.length c7,.slice b2 m.stack.length c2,.slice b3 m.queue.length c3,.slice b4 m.set.length c4,.slice b5 m.table.length c5]).setRow (w.heap.size+1+1) #[.int .i64 (doCell m.cell op arg).2.1,.int .i64 (doCell m.cell op arg).2.2])).drew
  have kk:=KK.out
  have OB:Hid (OwnD ((w9.setRow (w.heap.size+1) #[.slice b7 (doCell m.cell op arg).1.length c7,.slice b2 m.stack.length c2,.slice b3 m.queue.length c3,.slice b4 m.set.length c4,.slice b5 m.table.length c5]).setRow (w.heap.size+1+1) #[.int .i64 (doCell m.cell op arg).2.1,.int .i64 (doCell m.cell op arg).2.2]).drew w.heap.size (.agg #[.slice b7 (doCell m.cell op arg).1.length c7,.slice b2 m.stack.length c2,.slice b3 m.queue.length c3,.slice b4 m.set.length c4,.slice b5 m.table.length c5]) { m with cell:=(doCell m.cell op arg).1 }) :=
   ⟨_,_,_,_,_,rfl,(((kk.1.keep G1 hl1).keep G2 hl2).ext hdr).base hl0,(((kk.2.1.keep G1 hl1).keep G2 hl2).ext hdr).base hl0,(((kk.2.2.1.keep G1 hl1).keep G2 hl2).ext hdr).base hl0,(((kk.2.2.2.1.keep G1 hl1).keep G2 hl2).ext hdr).base hl0,(((kk.2.2.2.2.keep G1 hl1).keep G2 hl2).ext hdr).base hl0⟩
  clear G1 G2 hdr kk KK HY9 HZ9 HZ10 HP10 HT10 HP11 HT11 HB9
  obtain ⟨⟨z0,z1,z2,z3,z4⟩,_⟩:=blk5 hYF
  obtain ⟨⟨x0,x1⟩,_⟩:=blk2 hZF
  clear hYF hZF
  go_wp2
  refine bodyPost_ret (v:=.tuple #[.agg #[.slice b7 (doCell m.cell op arg).1.length c7,.slice b2 m.stack.length c2,.slice b3 m.queue.length c3,.slice b4 m.set.length c4,.slice b5 m.table.length c5],.agg #[.int .i64 (doCell m.cell op arg).2.1,.int .i64 (doCell m.cell op arg).2.2],.int .i64 0]) ?_ rfl ⟨_,rfl,OB.out,BB.out⟩
  simp [results,Try.results25,go_sem,z0,z1,z2,z3,z4,x0,x1]
def PhiD_stack (B bx:Nat) (op arg data:Int) (a b c d e cur:Value) (D:List Int×Int×Int):Nat→Value→World→Prop
 | 0,v,_=>v = .agg #[a,b,c,d,e]
 | 1,v,_=>v = .int .i64 op
 | 2,v,_=>v = .int .i64 2
 | 3,v,_=>v = .iface 91 cur
 | 4,v,_=>v = .int .i64 op
 | 5,v,_=>v = .int .i64 arg
 | 6,v,_=>v = .int .i64 data
 | 7,v,w=>∃ b7 c7,v = .tuple #[.iface 91 (.slice b7 D.1.length c7),.agg #[.int .i64 D.2.1,.int .i64 D.2.2]]∧OwnE w B 3 eI 1 (.slice b7 D.1.length c7) D.1
 | 8,v,w=>∃ b7 c7,v = .tuple #[.iface 91 (.slice b7 D.1.length c7),.agg #[.int .i64 D.2.1,.int .i64 D.2.2]]∧OwnE w B 3 eI 1 (.slice b7 D.1.length c7) D.1
 | 9,v,w=>∃ b7 c7,v = .iface 91 (.slice b7 D.1.length c7)∧OwnE w B 3 eI 1 (.slice b7 D.1.length c7) D.1
 | 12,v,w=>∃ b7 c7,v = .iface 91 (.slice b7 D.1.length c7)∧OwnE w B 3 eI 1 (.slice b7 D.1.length c7) D.1
 | 10,v,_=>v = .agg #[.int .i64 D.2.1,.int .i64 D.2.2]
 | 11,v,w=>∃ k,v = .pointer (some ⟨k,0,none⟩)∧bx<k∧k<w.heap.size∧w.heap[k]? = some (.cells #[.int .i64 0,.int .i64 0] 42 (0,0))
 | _,_,_=>True
theorem PhiD_stack_stab (B bx:Nat) (op arg data:Int) (a b c d e cur:Value) (D:List Int×Int×Int):∀ i v w w',PhiD_stack B bx op arg data a b c d e cur D i v w→Below w.heap.size w w'→PhiD_stack B bx op arg data a b c d e cur D i v w':=by
 intro i v w w' h hb
 unfold PhiD_stack at h ⊢
 split <;> simp only at h <;> first | exact h | trivial | (obtain ⟨b7,c7,h1,h2⟩:=h;exact ⟨b7,c7,h1,h2.ext hb⟩) | (obtain ⟨k,h1,h2,h3,h4⟩:=h;exact ⟨k,h1,h2,Nat.lt_of_lt_of_le h3 hb.size,(hb.block k h3).trans h4⟩)
set_option maxRecDepth 100000 in
set_option maxHeartbeats 2000000 in
theorem mDo_stack {v:Value} {m:MC} {w:World} (op arg data:Int) (h:Cont w v m) (hok:m.ok 1) (hm:mayB m=true) (ho:objOf op=2) :
  Calls Try.prog 25 #[v,.int .i64 op,.int .i64 arg,.int .i64 data] w (RetD3 w (doM m op arg data) 0):=by
 have hd:doM m op arg data=({ m with stack:=(doStack m.stack op arg).1 },(doStack m.stack op arg).2):=by simp [doM,ho]
 rw [hd]
 clear hd
 have h0:=h
 obtain ⟨a,b,c,d,e,rfl,_⟩:=h
 have hr:refN m op=0:=by simp [refN,hm,ho]
 have C1:Hid (∀ wx,Below w.heap.size w wx→Calls Try.prog 44 #[.agg #[a,b,c,d,e],.int .i64 op] wx fun r w'=>r = .returned (.int .i64 0)∧Below wx.heap.size wx w'):=fun wx hb=>by rw [← hr];exact refused_any op (h0.below hb)
 have C2:Hid (∀ wx,Below w.heap.size w wx→Calls Try.prog 42 #[.agg #[a,b,c,d,e]] wx (RetD wx m)):=fun wx hb=>mCopied (h0.below hb) (hok.le (by omega))
 have hok1:m.ok 1:=hok
 simp only [MC.ok] at hok1
 have HOK:=Lib.hid hok1
 have HM:Hid (mayB m=true):=hm
 have HO:=Lib.hid ho
 clear h0 hok hm hr hok1
 obtain ⟨hW,hS,hA,hB,hC⟩:=three_boxes w #[a,b,c,d,e] #[.slice none 0 0,.slice none 0 0,.slice none 0 0,.slice none 0 0,.slice none 0 0] #[.int .i64 0,.int .i64 0] 29 29 42
 go_enter Try.func25,Try.ntmps25
 go_wp2_with fail
 generalize ((w.alloc (.cells #[a,b,c,d,e] 29)).alloc (.cells #[.slice none 0 0,.slice none 0 0,.slice none 0 0,.slice none 0 0,.slice none 0 0] 29)).alloc (.cells #[.int .i64 0,.int .i64 0] 42)=W1 at *
 have HA:=Lib.hid hA;clear hA
 have HB:=Lib.hid hB;clear hB
 have HC:=Lib.hid hC;clear hC
 (with_reducible refine (C1.out _ hW).mono ?_)
 rintro r w1 ⟨rfl,hb1⟩
 have hb:Below (w.heap.size+3) W1 w1:=hb1.mono (by omega)
 clear hb1 C1
 have hbw:Below w.heap.size w w1:=hW.trans (hb.mono (by omega))
 have hs1:=hb.size
 obtain ⟨⟨x0,x1,x2,x3,x4⟩,_⟩:=blk5 ((hb.block w.heap.size (by omega)).trans HA.out)
 go_wp2_with fail
 clear x0 x1 x2 x3 x4
 (with_reducible refine (C2.out _ hbw).mono ?_)
 rintro r w4 ⟨v',rfl,hc,hb4⟩
 obtain ⟨a',b',c',d',e',rfl,g1,g2,g3,g4,g5⟩:=hc
 obtain ⟨b1,c1,rfl⟩:=g1.form
 obtain ⟨b2,c2,rfl⟩:=g2.form
 obtain ⟨b3,c3,rfl⟩:=g3.form
 obtain ⟨b4,c4,rfl⟩:=g4.form
 obtain ⟨b5,c5,rfl⟩:=g5.form
 obtain ⟨hW5,hS5,hP⟩:=one_box w4 #[.slice b1 m.cell.length c1,.slice b2 m.stack.length c2,.slice b3 m.queue.length c3,.slice b4 m.set.length c4,.slice b5 m.table.length c5] 29
 have hs4:=hb4.size
 have G:=Lib.hid (⟨g1.ext hW5,g2.ext hW5,g3.ext hW5,g4.ext hW5,g5.ext hW5⟩:_∧_∧_∧_∧_)
 clear g1 g2 g3 g4 g5 C2
 go_upto_region 5 with (fail)
 generalize w4.alloc (.cells #[.slice b1 m.cell.length c1,.slice b2 m.stack.length c2,.slice b3 m.queue.length c3,.slice b4 m.set.length c4,.slice b5 m.table.length c5] 29)=W5 at *
 have HP:=Lib.hid hP;clear hP
 have hlt5:w4.heap.size<W5.heap.size:=by omega
 have hle5:w1.heap.size≤W5.heap.size:=by omega
 have hbw5:Below w.heap.size w W5:=hbw.trans ((hb4.mono (by omega)).trans (hW5.mono (by omega)))
 have hb5:Below (w.heap.size+3) W1 W5:=hb.trans ((hb4.mono (by omega)).trans (hW5.mono (by omega)))
 have hob:ofV 2 (.slice b1 m.cell.length c1) (.slice b2 m.stack.length c2) (.slice b3 m.queue.length c3) (.slice b4 m.set.length c4) (.slice b5 m.table.length c5) = .iface 91 (.slice b2 m.stack.length c2):=rfl
 have HOF:=Lib.hid hob
 clear hb hb4 hbw hW5 hob
 have CD:Hid (∀ wx,Below W5.heap.size W5 wx→Calls Try.prog 76 #[.slice b2 m.stack.length c2,.int .i64 op,.int .i64 arg,.int .i64 data] wx (RetDo wx w1.heap.size 91 3 eI 1 (doStack m.stack op arg))):=fun wx hx=>do_stack op arg data (Nat.le_trans hle5 hx.size) (G.out.2.1.ext hx) (by have:=HOK.out;omega)
 refine wp_region_facts_lit 13 (PhiD_stack w1.heap.size w4.heap.size op arg data (.slice b1 m.cell.length c1) (.slice b2 m.stack.length c2) (.slice b3 m.queue.length c3) (.slice b4 m.set.length c4) (.slice b5 m.table.length c5) (.slice b2 m.stack.length c2) (doStack m.stack op arg)) (fun w w'=>Below w.heap.size w w') (by kernel_rfl) (by kernel_rfl) (by simp) ext_refl ext_trans (PhiD_stack_stab _ _ _ _ _ _ _ _ _ _ _ _) ?_ ?_
 ·refine ⟨?_,?_,?_,?_,?_,?_,?_,?_,?_,?_,?_,?_,?_,trivial⟩
  all_goals intro A W hR hd hs hag hpre
  all_goals rw [if_pos (by rfl)]
  ·have t1:=hag 12 (noDst (by kernel_rfl))
   have t1' : A.tmps.getD 12 undef = .pointer (some ⟨w4.heap.size,0,none⟩):=t1
   clear t1
   obtain ⟨⟨z0,z1,z2,z3,z4⟩,_⟩:=blk5 ((hR.block w4.heap.size hlt5).trans HP.out)
   go_simp
   exact ⟨Below.refl _ _,_,rfl,rfl⟩
  ·have t1:=hag 1 (noDst (by kernel_rfl))
   have t1' : A.tmps.getD 1 undef = .int .i64 op:=t1
   clear t1
   go_simp
   exact ⟨Below.refl _ _,_,rfl,rfl⟩
  ·have p:A.tmps.getD 27 undef = .int .i64 op:=hpre ⟨1,.data⟩ (by simp) rfl _ rfl
   go_simp
   refine (mObject _ _).mono ?_
   rintro r wo ⟨rfl,rfl⟩
   rw [HO.out]
   exact ⟨Below.refl _ _,_,rfl,rfl⟩
  ·have p:A.tmps.getD 26 undef = .agg #[.slice b1 m.cell.length c1,.slice b2 m.stack.length c2,.slice b3 m.queue.length c3,.slice b4 m.set.length c4,.slice b5 m.table.length c5]:=hpre ⟨0,.data⟩ (by simp) rfl _ rfl
   have q:A.tmps.getD 28 undef = .int .i64 2:=hpre ⟨2,.data⟩ (by simp) rfl _ rfl
   go_simp
   refine (of_any _ _ _ _ _ _ _).mono ?_
   rintro r w6 ⟨rfl,hb6⟩
   rw [HOF.out]
   exact ⟨hb6,_,rfl,rfl⟩
  ·have t1:=hag 1 (noDst (by kernel_rfl))
   have t1' : A.tmps.getD 1 undef = .int .i64 op:=t1
   clear t1
   go_simp
   exact ⟨Below.refl _ _,_,rfl,rfl⟩
  ·have t1:=hag 2 (noDst (by kernel_rfl))
   have t1' : A.tmps.getD 2 undef = .int .i64 arg:=t1
   clear t1
   go_simp
   exact ⟨Below.refl _ _,_,rfl,rfl⟩
  ·have t1:=hag 3 (noDst (by kernel_rfl))
   have t1' : A.tmps.getD 3 undef = .int .i64 data:=t1
   clear t1
   go_simp
   exact ⟨Below.refl _ _,_,rfl,rfl⟩
  ·have p0:A.tmps.getD 29 undef = .iface 91 (.slice b2 m.stack.length c2):=hpre ⟨3,.data⟩ (by simp) rfl _ rfl
   have p1:A.tmps.getD 30 undef = .int .i64 op:=hpre ⟨4,.data⟩ (by simp) rfl _ rfl
   have p2:A.tmps.getD 31 undef = .int .i64 arg:=hpre ⟨5,.data⟩ (by simp) rfl _ rfl
   have p3:A.tmps.getD 32 undef = .int .i64 data:=hpre ⟨6,.data⟩ (by simp) rfl _ rfl
   have hme:=meth_stack_do b2 m.stack.length c2 W
   go_simp
   clear hme
   have hx:Below W5.heap.size W5 W:=(Below.refl _ _).drew.trans hR
   (with_reducible refine (CD.out _ hx).mono ?_)
   rintro r w7 ⟨v7,rfl,ho7,hb7⟩
   obtain ⟨b7,c7,rfl⟩:=ho7.form
   exact ⟨hb7,_,rfl,b7,c7,rfl,ho7⟩
  ·obtain ⟨b7,c7,p,ho7⟩:∃ b7 c7,A.tmps.getD 33 undef = .tuple #[.iface 91 (.slice b7 (doStack m.stack op arg).1.length c7),.agg #[.int .i64 (doStack m.stack op arg).2.1,.int .i64 (doStack m.stack op arg).2.2]]∧OwnE W w1.heap.size 3 eI 1 (.slice b7 (doStack m.stack op arg).1.length c7) (doStack m.stack op arg).1:=hpre ⟨7,.data⟩ (by simp) rfl _ rfl
   go_simp
   exact ⟨Below.refl _ _,_,rfl,b7,c7,rfl,ho7⟩
  ·obtain ⟨b7,c7,p,ho7⟩:∃ b7 c7,A.tmps.getD 25 undef = .tuple #[.iface 91 (.slice b7 (doStack m.stack op arg).1.length c7),.agg #[.int .i64 (doStack m.stack op arg).2.1,.int .i64 (doStack m.stack op arg).2.2]]∧OwnE W w1.heap.size 3 eI 1 (.slice b7 (doStack m.stack op arg).1.length c7) (doStack m.stack op arg).1:=hpre ⟨8,.data⟩ (by simp) rfl _ rfl
   go_simp
   exact ⟨Below.refl _ _,_,rfl,b7,c7,rfl,ho7⟩
  ·obtain ⟨b7,c7,p,ho7⟩:∃ b7 c7,A.tmps.getD 25 undef = .tuple #[.iface 91 (.slice b7 (doStack m.stack op arg).1.length c7),.agg #[.int .i64 (doStack m.stack op arg).2.1,.int .i64 (doStack m.stack op arg).2.2]]∧OwnE W w1.heap.size 3 eI 1 (.slice b7 (doStack m.stack op arg).1.length c7) (doStack m.stack op arg).1:=hpre ⟨8,.data⟩ (by simp) rfl _ rfl
   go_simp
   exact ⟨Below.refl _ _,_,rfl,rfl⟩
  ·go_simp
   exact ⟨below_box _ _,_,rfl,W.heap.size,rfl,Nat.lt_of_lt_of_le hlt5 hR.size,by simp,heap_alloc_new W _⟩
  ·obtain ⟨b7,c7,p,ho7⟩:∃ b7 c7,A.tmps.getD 34 undef = .iface 91 (.slice b7 (doStack m.stack op arg).1.length c7)∧OwnE W w1.heap.size 3 eI 1 (.slice b7 (doStack m.stack op arg).1.length c7) (doStack m.stack op arg).1:=hpre ⟨9,.data⟩ (by simp) rfl _ rfl
   go_simp
   exact ⟨Below.refl _ _,_,rfl,b7,c7,rfl,ho7⟩
 ·intro vs W hR hΦ
  obtain ⟨b7,c7,e12,g12⟩:=hΦ 12 (by omega)
  have e10:vs 10 = .agg #[.int .i64 (doStack m.stack op arg).2.1,.int .i64 (doStack m.stack op arg).2.2]:=hΦ 10 (by omega)
  obtain ⟨k,e11,hk1,hk2,hk3⟩:=hΦ 11 (by omega)
  simp only [putN,List.getElem?_toArray,List.getElem?_cons_succ,List.getElem?_cons_zero,Option.bind_some,Act.put,List.setIfInBounds_toArray,List.set_cons_succ,List.set_cons_zero,List.drop_succ_cons,List.drop_zero,e12,e10,e11]
  clear hΦ e12 e10 e11
  have hR5:Below W5.heap.size W5 W:=(Below.refl _ _).drew.trans hR
  obtain ⟨⟨x0,x1⟩,⟨f0,f1⟩⟩:=blk2 hk3
  have HK3:=Lib.hid hk3
  have HG12:=Lib.hid g12
  clear g12 hk3 CD HOF
  go_upto_region 6 with (fail)
  rw [set2 HK3.out]
  clear x0 x1 f0 f1
  have h58:Below W5.heap.size W5 (W.setRow k #[.int .i64 (doStack m.stack op arg).2.1,.int .i64 (doStack m.stack op arg).2.2]):=below_setRow' hR5 (by omega) _
  have hP8:=(h58.block _ hlt5).trans HP.out
  have ho8:=own_row_type HG12.out HK3.out (by decide) (cs':=#[.int .i64 (doStack m.stack op arg).2.1,.int .i64 (doStack m.stack op arg).2.2])
  have hT:=setRow_heap W k _ #[.int .i64 (doStack m.stack op arg).2.1,.int .i64 (doStack m.stack op arg).2.2] 42 (0,0) HK3.out
  have hkW:k<(W.setRow k #[.int .i64 (doStack m.stack op arg).2.1,.int .i64 (doStack m.stack op arg).2.2]).heap.size:=by simp [hk2]
  clear HK3 HG12 hR hR5
  generalize W.setRow k #[.int .i64 (doStack m.stack op arg).2.1,.int .i64 (doStack m.stack op arg).2.2]=W8 at *
  have hme:=meth_stack_put b7 (doStack m.stack op arg).1.length c7 W8
  go_wp2_with fail
  clear hme
  refine (put_stack hP8 rfl).mono ?_
  rintro r w9 ⟨rfl,hw9⟩
  have hP9:=setRow_heap W8 w4.heap.size _ #[.slice b1 m.cell.length c1,.slice b7 (doStack m.stack op arg).1.length c7,.slice b3 m.queue.length c3,.slice b4 m.set.length c4,.slice b5 m.table.length c5] 29 (0,0) hP8
  have hT9:=(setRow_other W8 w4.heap.size k #[.slice b1 m.cell.length c1,.slice b7 (doStack m.stack op arg).1.length c7,.slice b3 m.queue.length c3,.slice b4 m.set.length c4,.slice b5 m.table.length c5] (by omega)).trans hT
  have hb9:Below (w.heap.size+3) W1 (W8.setRow w4.heap.size #[.slice b1 m.cell.length c1,.slice b7 (doStack m.stack op arg).1.length c7,.slice b3 m.queue.length c3,.slice b4 m.set.length c4,.slice b5 m.table.length c5]):=below_setRow' (hb5.trans (h58.mono (by omega))) (by omega) _
  have g:=G.out
  have k1:=own_row_type (g.1.ext h58) hP8 (by decide) (cs':=#[.slice b1 m.cell.length c1,.slice b7 (doStack m.stack op arg).1.length c7,.slice b3 m.queue.length c3,.slice b4 m.set.length c4,.slice b5 m.table.length c5])
  have k2:=own_row_type (g.2.1.ext h58) hP8 (by decide) (cs':=#[.slice b1 m.cell.length c1,.slice b7 (doStack m.stack op arg).1.length c7,.slice b3 m.queue.length c3,.slice b4 m.set.length c4,.slice b5 m.table.length c5])
  have k3:=own_row_type (g.2.2.1.ext h58) hP8 (by decide) (cs':=#[.slice b1 m.cell.length c1,.slice b7 (doStack m.stack op arg).1.length c7,.slice b3 m.queue.length c3,.slice b4 m.set.length c4,.slice b5 m.table.length c5])
  have k4:=own_row_type (g.2.2.2.1.ext h58) hP8 (by decide) (cs':=#[.slice b1 m.cell.length c1,.slice b7 (doStack m.stack op arg).1.length c7,.slice b3 m.queue.length c3,.slice b4 m.set.length c4,.slice b5 m.table.length c5])
  have k5:=own_row_type (g.2.2.2.2.ext h58) hP8 (by decide) (cs':=#[.slice b1 m.cell.length c1,.slice b7 (doStack m.stack op arg).1.length c7,.slice b3 m.queue.length c3,.slice b4 m.set.length c4,.slice b5 m.table.length c5])
  have k6:=own_row_type ho8 hP8 (by decide) (cs':=#[.slice b1 m.cell.length c1,.slice b7 (doStack m.stack op arg).1.length c7,.slice b3 m.queue.length c3,.slice b4 m.set.length c4,.slice b5 m.table.length c5])
  rw [hw9] at hP9 hT9 hb9 k1 k2 k3 k4 k5 k6
  have hs9:=hb9.size
  have hY9:=(hb9.block (w.heap.size+1) (by omega)).trans HB.out
  have hZ9:=(hb9.block (w.heap.size+2) (by omega)).trans HC.out
  have hB9:Below w.heap.size w w9:=hW.trans (hb9.mono (by omega))
  have HP9:=Lib.hid hP9
  have HT9:=Lib.hid hT9
  have HY9:=Lib.hid hY9
  have HZ9:=Lib.hid hZ9
  have HB9:=Lib.hid hB9
  have KK:=Lib.hid (⟨k1,k6,k3,k4,k5⟩:_∧_∧_∧_∧_)
  clear hw9 g k1 k2 k3 k4 k5 k6 hP8 hT ho8 h58 hP9 hT9 hY9 hZ9 hB9 G
  have e2:w.heap.size+2=w.heap.size+1+1:=rfl
  rw [e2] at HZ9
  clear e2
  go_upto_region 7 with (fail)
  have hny:w.heap.size+1≠w4.heap.size:=by omega
  have hnz:w.heap.size+1+1≠w4.heap.size:=by omega
  have hky:w.heap.size+1≠k:=by omega
  have hkz:w.heap.size+1+1≠k:=by omega
  have hyz:w.heap.size+1+1≠w.heap.size+1:=by omega
  have HZ10:=Lib.hid ((setRow_other w9 (w.heap.size+1) (w.heap.size+1+1) #[.slice b1 m.cell.length c1,.slice b7 (doStack m.stack op arg).1.length c7,.slice b3 m.queue.length c3,.slice b4 m.set.length c4,.slice b5 m.table.length c5] hyz).trans HZ9.out)
  have HP10:=Lib.hid ((setRow_other w9 (w.heap.size+1) w4.heap.size #[.slice b1 m.cell.length c1,.slice b7 (doStack m.stack op arg).1.length c7,.slice b3 m.queue.length c3,.slice b4 m.set.length c4,.slice b5 m.table.length c5] (Ne.symm hny)).trans HP9.out)
  have HT10:=Lib.hid ((setRow_other w9 (w.heap.size+1) k #[.slice b1 m.cell.length c1,.slice b7 (doStack m.stack op arg).1.length c7,.slice b3 m.queue.length c3,.slice b4 m.set.length c4,.slice b5 m.table.length c5] (Ne.symm hky)).trans HT9.out)
  have HP11:=Lib.hid ((setRow_other (w9.setRow (w.heap.size+1) #[.slice b1 m.cell.length c1,.slice b7 (doStack m.stack op arg).1.length c7,.slice b3 m.queue.length c3,.slice b4 m.set.length c4,.slice b5 m.table.length c5]) (w.heap.size+1+1) w4.heap.size #[.int .i64 (doStack m.stack op arg).2.1,.int .i64 (doStack m.stack op arg).2.2] (Ne.symm hnz)).trans HP10.out)
  have HT11:=Lib.hid ((setRow_other (w9.setRow (w.heap.size+1) #[.slice b1 m.cell.length c1,.slice b7 (doStack m.stack op arg).1.length c7,.slice b3 m.queue.length c3,.slice b4 m.set.length c4,.slice b5 m.table.length c5]) (w.heap.size+1+1) k #[.int .i64 (doStack m.stack op arg).2.1,.int .i64 (doStack m.stack op arg).2.2] (Ne.symm hkz)).trans HT10.out)
  obtain ⟨⟨y0,y1,y2,y3,y4⟩,⟨f0,f1,f2,f3,f4⟩⟩:=blk5 HY9.out
  obtain ⟨⟨x0,x1⟩,⟨g0,g1⟩⟩:=blk2 HZ9.out
  go_region_held3 (fun wx=>(wx.cell? ⟨w4.heap.size,0,none⟩=some (.slice b1 m.cell.length c1)∧wx.cell? ⟨w4.heap.size,1,none⟩=some (.slice b7 (doStack m.stack op arg).1.length c7)∧wx.cell? ⟨w4.heap.size,2,none⟩=some (.slice b3 m.queue.length c3)∧wx.cell? ⟨w4.heap.size,3,none⟩=some (.slice b4 m.set.length c4)∧wx.cell? ⟨w4.heap.size,4,none⟩=some (.slice b5 m.table.length c5))∧(wx.cell? ⟨k,0,none⟩=some (.int .i64 (doStack m.stack op arg).2.1)∧wx.cell? ⟨k,1,none⟩=some (.int .i64 (doStack m.stack op arg).2.2)))
   (first | (rw [set5 HY9.out,set2 HZ10.out];exact ⟨(blk5 HP11.out).1,(blk2 HT11.out).1⟩) | (rw [set5 HY9.out];exact ⟨(blk5 HP10.out).1,(blk2 HT10.out).1⟩) | (exact ⟨(blk5 HP9.out).1,(blk2 HT9.out).1⟩))
   (fail)
  clear y0 y1 y2 y3 y4 f0 f1 f2 f3 f4 x0 x1 g0 g1
  rw [set5 HY9.out,set2 HZ10.out]
  have hYF:=(setRow_other (w9.setRow (w.heap.size+1) #[.slice b1 m.cell.length c1,.slice b7 (doStack m.stack op arg).1.length c7,.slice b3 m.queue.length c3,.slice b4 m.set.length c4,.slice b5 m.table.length c5]) (w.heap.size+1+1) (w.heap.size+1) #[.int .i64 (doStack m.stack op arg).2.1,.int .i64 (doStack m.stack op arg).2.2] (Ne.symm hyz)).trans (setRow_heap w9 (w.heap.size+1) _ #[.slice b1 m.cell.length c1,.slice b7 (doStack m.stack op arg).1.length c7,.slice b3 m.queue.length c3,.slice b4 m.set.length c4,.slice b5 m.table.length c5] 29 (0,0) HY9.out)
  have hZF:=setRow_heap (w9.setRow (w.heap.size+1) #[.slice b1 m.cell.length c1,.slice b7 (doStack m.stack op arg).1.length c7,.slice b3 m.queue.length c3,.slice b4 m.set.length c4,.slice b5 m.table.length c5]) (w.heap.size+1+1) _ #[.int .i64 (doStack m.stack op arg).2.1,.int .i64 (doStack m.stack op arg).2.2] 42 (0,0) HZ10.out
  have G1:=grownBy_setRow w9 (w.heap.size+1) #[.slice b1 m.cell.length c1,.slice b7 (doStack m.stack op arg).1.length c7,.slice b3 m.queue.length c3,.slice b4 m.set.length c4,.slice b5 m.table.length c5]
  have G2:=grownBy_setRow (w9.setRow (w.heap.size+1) #[.slice b1 m.cell.length c1,.slice b7 (doStack m.stack op arg).1.length c7,.slice b3 m.queue.length c3,.slice b4 m.set.length c4,.slice b5 m.table.length c5]) (w.heap.size+1+1) #[.int .i64 (doStack m.stack op arg).2.1,.int .i64 (doStack m.stack op arg).2.2]
  have BB:Hid (Below w.heap.size w ((w9.setRow (w.heap.size+1) #[.slice b1 m.cell.length c1,.slice b7 (doStack m.stack op arg).1.length c7,.slice b3 m.queue.length c3,.slice b4 m.set.length c4,.slice b5 m.table.length c5]).setRow (w.heap.size+1+1) #[.int .i64 (doStack m.stack op arg).2.1,.int .i64 (doStack m.stack op arg).2.2]).drew) :=
   (below_setRow' (below_setRow' HB9.out (by omega) _) (by omega) _).drew
  have hl1:w.heap.size+1<w1.heap.size:=by omega
  have hl2:w.heap.size+1+1<w1.heap.size:=by omega
  have hl0:w.heap.size≤w1.heap.size:=by omega
  have hdr:=(Below.refl ((w9.setRow (w.heap.size+1) #[.slice b1 m.cell.length c1,.slice b7 (doStack m.stack op arg).1.length c7,.slice b3 m.queue.length c3,.slice b4 m.set.length c4,.slice b5 m.table.length c5]).setRow (w.heap.size+1+1) #[.int .i64 (doStack m.stack op arg).2.1,.int .i64 (doStack m.stack op arg).2.2]).heap.size ((w9.setRow (w.heap.size+1) #[.slice b1 m.cell.length c1,.slice b7 (doStack m.stack op arg).1.length c7,.slice b3 m.queue.length c3,.slice b4 m.set.length c4,.slice b5 m.table.length c5]).setRow (w.heap.size+1+1) #[.int .i64 (doStack m.stack op arg).2.1,.int .i64 (doStack m.stack op arg).2.2])).drew
  have kk:=KK.out
  have OB:Hid (OwnD ((w9.setRow (w.heap.size+1) #[.slice b1 m.cell.length c1,.slice b7 (doStack m.stack op arg).1.length c7,.slice b3 m.queue.length c3,.slice b4 m.set.length c4,.slice b5 m.table.length c5]).setRow (w.heap.size+1+1) #[.int .i64 (doStack m.stack op arg).2.1,.int .i64 (doStack m.stack op arg).2.2]).drew w.heap.size (.agg #[.slice b1 m.cell.length c1,.slice b7 (doStack m.stack op arg).1.length c7,.slice b3 m.queue.length c3,.slice b4 m.set.length c4,.slice b5 m.table.length c5]) { m with stack:=(doStack m.stack op arg).1 }) :=
   ⟨_,_,_,_,_,rfl,(((kk.1.keep G1 hl1).keep G2 hl2).ext hdr).base hl0,(((kk.2.1.keep G1 hl1).keep G2 hl2).ext hdr).base hl0,(((kk.2.2.1.keep G1 hl1).keep G2 hl2).ext hdr).base hl0,(((kk.2.2.2.1.keep G1 hl1).keep G2 hl2).ext hdr).base hl0,(((kk.2.2.2.2.keep G1 hl1).keep G2 hl2).ext hdr).base hl0⟩
  clear G1 G2 hdr kk KK HY9 HZ9 HZ10 HP10 HT10 HP11 HT11 HB9
  obtain ⟨⟨z0,z1,z2,z3,z4⟩,_⟩:=blk5 hYF
  obtain ⟨⟨x0,x1⟩,_⟩:=blk2 hZF
  clear hYF hZF
  go_wp2
  refine bodyPost_ret (v:=.tuple #[.agg #[.slice b1 m.cell.length c1,.slice b7 (doStack m.stack op arg).1.length c7,.slice b3 m.queue.length c3,.slice b4 m.set.length c4,.slice b5 m.table.length c5],.agg #[.int .i64 (doStack m.stack op arg).2.1,.int .i64 (doStack m.stack op arg).2.2],.int .i64 0]) ?_ rfl ⟨_,rfl,OB.out,BB.out⟩
  simp [results,Try.results25,go_sem,z0,z1,z2,z3,z4,x0,x1]
def PhiD_queue (B bx:Nat) (op arg data:Int) (a b c d e cur:Value) (D:List Int×Int×Int):Nat→Value→World→Prop
 | 0,v,_=>v = .agg #[a,b,c,d,e]
 | 1,v,_=>v = .int .i64 op
 | 2,v,_=>v = .int .i64 3
 | 3,v,_=>v = .iface 92 cur
 | 4,v,_=>v = .int .i64 op
 | 5,v,_=>v = .int .i64 arg
 | 6,v,_=>v = .int .i64 data
 | 7,v,w=>∃ b7 c7,v = .tuple #[.iface 92 (.slice b7 D.1.length c7),.agg #[.int .i64 D.2.1,.int .i64 D.2.2]]∧OwnE w B 3 eI 1 (.slice b7 D.1.length c7) D.1
 | 8,v,w=>∃ b7 c7,v = .tuple #[.iface 92 (.slice b7 D.1.length c7),.agg #[.int .i64 D.2.1,.int .i64 D.2.2]]∧OwnE w B 3 eI 1 (.slice b7 D.1.length c7) D.1
 | 9,v,w=>∃ b7 c7,v = .iface 92 (.slice b7 D.1.length c7)∧OwnE w B 3 eI 1 (.slice b7 D.1.length c7) D.1
 | 12,v,w=>∃ b7 c7,v = .iface 92 (.slice b7 D.1.length c7)∧OwnE w B 3 eI 1 (.slice b7 D.1.length c7) D.1
 | 10,v,_=>v = .agg #[.int .i64 D.2.1,.int .i64 D.2.2]
 | 11,v,w=>∃ k,v = .pointer (some ⟨k,0,none⟩)∧bx<k∧k<w.heap.size∧w.heap[k]? = some (.cells #[.int .i64 0,.int .i64 0] 42 (0,0))
 | _,_,_=>True
theorem PhiD_queue_stab (B bx:Nat) (op arg data:Int) (a b c d e cur:Value) (D:List Int×Int×Int):∀ i v w w',PhiD_queue B bx op arg data a b c d e cur D i v w→Below w.heap.size w w'→PhiD_queue B bx op arg data a b c d e cur D i v w':=by
 intro i v w w' h hb
 unfold PhiD_queue at h ⊢
 split <;> simp only at h <;> first | exact h | trivial | (obtain ⟨b7,c7,h1,h2⟩:=h;exact ⟨b7,c7,h1,h2.ext hb⟩) | (obtain ⟨k,h1,h2,h3,h4⟩:=h;exact ⟨k,h1,h2,Nat.lt_of_lt_of_le h3 hb.size,(hb.block k h3).trans h4⟩)
set_option maxRecDepth 100000 in
set_option maxHeartbeats 2000000 in
theorem mDo_queue {v:Value} {m:MC} {w:World} (op arg data:Int) (h:Cont w v m) (hok:m.ok 1) (hm:mayB m=true) (ho:objOf op=3) :
  Calls Try.prog 25 #[v,.int .i64 op,.int .i64 arg,.int .i64 data] w (RetD3 w (doM m op arg data) 0):=by
 have hd:doM m op arg data=({ m with queue:=(doQueue m.queue op arg).1 },(doQueue m.queue op arg).2):=by simp [doM,ho]
 rw [hd]
 clear hd
 have h0:=h
 obtain ⟨a,b,c,d,e,rfl,_⟩:=h
 have hr:refN m op=0:=by simp [refN,hm,ho]
 have C1:Hid (∀ wx,Below w.heap.size w wx→Calls Try.prog 44 #[.agg #[a,b,c,d,e],.int .i64 op] wx fun r w'=>r = .returned (.int .i64 0)∧Below wx.heap.size wx w'):=fun wx hb=>by rw [← hr];exact refused_any op (h0.below hb)
 have C2:Hid (∀ wx,Below w.heap.size w wx→Calls Try.prog 42 #[.agg #[a,b,c,d,e]] wx (RetD wx m)):=fun wx hb=>mCopied (h0.below hb) (hok.le (by omega))
 have hok1:m.ok 1:=hok
 simp only [MC.ok] at hok1
 have HOK:=Lib.hid hok1
 have HM:Hid (mayB m=true):=hm
 have HO:=Lib.hid ho
 clear h0 hok hm hr hok1
 obtain ⟨hW,hS,hA,hB,hC⟩:=three_boxes w #[a,b,c,d,e] #[.slice none 0 0,.slice none 0 0,.slice none 0 0,.slice none 0 0,.slice none 0 0] #[.int .i64 0,.int .i64 0] 29 29 42
 go_enter Try.func25,Try.ntmps25
 go_wp2_with fail
 generalize ((w.alloc (.cells #[a,b,c,d,e] 29)).alloc (.cells #[.slice none 0 0,.slice none 0 0,.slice none 0 0,.slice none 0 0,.slice none 0 0] 29)).alloc (.cells #[.int .i64 0,.int .i64 0] 42)=W1 at *
 have HA:=Lib.hid hA;clear hA
 have HB:=Lib.hid hB;clear hB
 have HC:=Lib.hid hC;clear hC
 (with_reducible refine (C1.out _ hW).mono ?_)
 rintro r w1 ⟨rfl,hb1⟩
 have hb:Below (w.heap.size+3) W1 w1:=hb1.mono (by omega)
 clear hb1 C1
 have hbw:Below w.heap.size w w1:=hW.trans (hb.mono (by omega))
 have hs1:=hb.size
 obtain ⟨⟨x0,x1,x2,x3,x4⟩,_⟩:=blk5 ((hb.block w.heap.size (by omega)).trans HA.out)
 go_wp2_with fail
 clear x0 x1 x2 x3 x4
 (with_reducible refine (C2.out _ hbw).mono ?_)
 rintro r w4 ⟨v',rfl,hc,hb4⟩
 obtain ⟨a',b',c',d',e',rfl,g1,g2,g3,g4,g5⟩:=hc
 obtain ⟨b1,c1,rfl⟩:=g1.form
 obtain ⟨b2,c2,rfl⟩:=g2.form
 obtain ⟨b3,c3,rfl⟩:=g3.form
 obtain ⟨b4,c4,rfl⟩:=g4.form
 obtain ⟨b5,c5,rfl⟩:=g5.form
 obtain ⟨hW5,hS5,hP⟩:=one_box w4 #[.slice b1 m.cell.length c1,.slice b2 m.stack.length c2,.slice b3 m.queue.length c3,.slice b4 m.set.length c4,.slice b5 m.table.length c5] 29
 have hs4:=hb4.size
 have G:=Lib.hid (⟨g1.ext hW5,g2.ext hW5,g3.ext hW5,g4.ext hW5,g5.ext hW5⟩:_∧_∧_∧_∧_)
 clear g1 g2 g3 g4 g5 C2
 go_upto_region 5 with (fail)
 generalize w4.alloc (.cells #[.slice b1 m.cell.length c1,.slice b2 m.stack.length c2,.slice b3 m.queue.length c3,.slice b4 m.set.length c4,.slice b5 m.table.length c5] 29)=W5 at *
 have HP:=Lib.hid hP;clear hP
 have hlt5:w4.heap.size<W5.heap.size:=by omega
 have hle5:w1.heap.size≤W5.heap.size:=by omega
 have hbw5:Below w.heap.size w W5:=hbw.trans ((hb4.mono (by omega)).trans (hW5.mono (by omega)))
 have hb5:Below (w.heap.size+3) W1 W5:=hb.trans ((hb4.mono (by omega)).trans (hW5.mono (by omega)))
 have hob:ofV 3 (.slice b1 m.cell.length c1) (.slice b2 m.stack.length c2) (.slice b3 m.queue.length c3) (.slice b4 m.set.length c4) (.slice b5 m.table.length c5) = .iface 92 (.slice b3 m.queue.length c3):=rfl
 have HOF:=Lib.hid hob
 clear hb hb4 hbw hW5 hob
 have CD:Hid (∀ wx,Below W5.heap.size W5 wx→Calls Try.prog 79 #[.slice b3 m.queue.length c3,.int .i64 op,.int .i64 arg,.int .i64 data] wx (RetDo wx w1.heap.size 92 3 eI 1 (doQueue m.queue op arg))):=fun wx hx=>do_queue op arg data (Nat.le_trans hle5 hx.size) (G.out.2.2.1.ext hx) (by have:=HOK.out;omega)
 refine wp_region_facts_lit 13 (PhiD_queue w1.heap.size w4.heap.size op arg data (.slice b1 m.cell.length c1) (.slice b2 m.stack.length c2) (.slice b3 m.queue.length c3) (.slice b4 m.set.length c4) (.slice b5 m.table.length c5) (.slice b3 m.queue.length c3) (doQueue m.queue op arg)) (fun w w'=>Below w.heap.size w w') (by kernel_rfl) (by kernel_rfl) (by simp) ext_refl ext_trans (PhiD_queue_stab _ _ _ _ _ _ _ _ _ _ _ _) ?_ ?_
 ·refine ⟨?_,?_,?_,?_,?_,?_,?_,?_,?_,?_,?_,?_,?_,trivial⟩
  all_goals intro A W hR hd hs hag hpre
  all_goals rw [if_pos (by rfl)]
  ·have t1:=hag 12 (noDst (by kernel_rfl))
   have t1' : A.tmps.getD 12 undef = .pointer (some ⟨w4.heap.size,0,none⟩):=t1
   clear t1
   obtain ⟨⟨z0,z1,z2,z3,z4⟩,_⟩:=blk5 ((hR.block w4.heap.size hlt5).trans HP.out)
   go_simp
   exact ⟨Below.refl _ _,_,rfl,rfl⟩
  ·have t1:=hag 1 (noDst (by kernel_rfl))
   have t1' : A.tmps.getD 1 undef = .int .i64 op:=t1
   clear t1
   go_simp
   exact ⟨Below.refl _ _,_,rfl,rfl⟩
  ·have p:A.tmps.getD 27 undef = .int .i64 op:=hpre ⟨1,.data⟩ (by simp) rfl _ rfl
   go_simp
   refine (mObject _ _).mono ?_
   rintro r wo ⟨rfl,rfl⟩
   rw [HO.out]
   exact ⟨Below.refl _ _,_,rfl,rfl⟩
  ·have p:A.tmps.getD 26 undef = .agg #[.slice b1 m.cell.length c1,.slice b2 m.stack.length c2,.slice b3 m.queue.length c3,.slice b4 m.set.length c4,.slice b5 m.table.length c5]:=hpre ⟨0,.data⟩ (by simp) rfl _ rfl
   have q:A.tmps.getD 28 undef = .int .i64 3:=hpre ⟨2,.data⟩ (by simp) rfl _ rfl
   go_simp
   refine (of_any _ _ _ _ _ _ _).mono ?_
   rintro r w6 ⟨rfl,hb6⟩
   rw [HOF.out]
   exact ⟨hb6,_,rfl,rfl⟩
  ·have t1:=hag 1 (noDst (by kernel_rfl))
   have t1' : A.tmps.getD 1 undef = .int .i64 op:=t1
   clear t1
   go_simp
   exact ⟨Below.refl _ _,_,rfl,rfl⟩
  ·have t1:=hag 2 (noDst (by kernel_rfl))
   have t1' : A.tmps.getD 2 undef = .int .i64 arg:=t1
   clear t1
   go_simp
   exact ⟨Below.refl _ _,_,rfl,rfl⟩
  ·have t1:=hag 3 (noDst (by kernel_rfl))
   have t1' : A.tmps.getD 3 undef = .int .i64 data:=t1
   clear t1
   go_simp
   exact ⟨Below.refl _ _,_,rfl,rfl⟩
  ·have p0:A.tmps.getD 29 undef = .iface 92 (.slice b3 m.queue.length c3):=hpre ⟨3,.data⟩ (by simp) rfl _ rfl
   have p1:A.tmps.getD 30 undef = .int .i64 op:=hpre ⟨4,.data⟩ (by simp) rfl _ rfl
   have p2:A.tmps.getD 31 undef = .int .i64 arg:=hpre ⟨5,.data⟩ (by simp) rfl _ rfl
   have p3:A.tmps.getD 32 undef = .int .i64 data:=hpre ⟨6,.data⟩ (by simp) rfl _ rfl
   have hme:=meth_queue_do b3 m.queue.length c3 W
   go_simp
   clear hme
   have hx:Below W5.heap.size W5 W:=(Below.refl _ _).drew.trans hR
   (with_reducible refine (CD.out _ hx).mono ?_)
   rintro r w7 ⟨v7,rfl,ho7,hb7⟩
   obtain ⟨b7,c7,rfl⟩:=ho7.form
   exact ⟨hb7,_,rfl,b7,c7,rfl,ho7⟩
  ·obtain ⟨b7,c7,p,ho7⟩:∃ b7 c7,A.tmps.getD 33 undef = .tuple #[.iface 92 (.slice b7 (doQueue m.queue op arg).1.length c7),.agg #[.int .i64 (doQueue m.queue op arg).2.1,.int .i64 (doQueue m.queue op arg).2.2]]∧OwnE W w1.heap.size 3 eI 1 (.slice b7 (doQueue m.queue op arg).1.length c7) (doQueue m.queue op arg).1:=hpre ⟨7,.data⟩ (by simp) rfl _ rfl
   go_simp
   exact ⟨Below.refl _ _,_,rfl,b7,c7,rfl,ho7⟩
  ·obtain ⟨b7,c7,p,ho7⟩:∃ b7 c7,A.tmps.getD 25 undef = .tuple #[.iface 92 (.slice b7 (doQueue m.queue op arg).1.length c7),.agg #[.int .i64 (doQueue m.queue op arg).2.1,.int .i64 (doQueue m.queue op arg).2.2]]∧OwnE W w1.heap.size 3 eI 1 (.slice b7 (doQueue m.queue op arg).1.length c7) (doQueue m.queue op arg).1:=hpre ⟨8,.data⟩ (by simp) rfl _ rfl
   go_simp
   exact ⟨Below.refl _ _,_,rfl,b7,c7,rfl,ho7⟩
  ·obtain ⟨b7,c7,p,ho7⟩:∃ b7 c7,A.tmps.getD 25 undef = .tuple #[.iface 92 (.slice b7 (doQueue m.queue op arg).1.length c7),.agg #[.int .i64 (doQueue m.queue op arg).2.1,.int .i64 (doQueue m.queue op arg).2.2]]∧OwnE W w1.heap.size 3 eI 1 (.slice b7 (doQueue m.queue op arg).1.length c7) (doQueue m.queue op arg).1:=hpre ⟨8,.data⟩ (by simp) rfl _ rfl
   go_simp
   exact ⟨Below.refl _ _,_,rfl,rfl⟩
  ·go_simp
   exact ⟨below_box _ _,_,rfl,W.heap.size,rfl,Nat.lt_of_lt_of_le hlt5 hR.size,by simp,heap_alloc_new W _⟩
  ·obtain ⟨b7,c7,p,ho7⟩:∃ b7 c7,A.tmps.getD 34 undef = .iface 92 (.slice b7 (doQueue m.queue op arg).1.length c7)∧OwnE W w1.heap.size 3 eI 1 (.slice b7 (doQueue m.queue op arg).1.length c7) (doQueue m.queue op arg).1:=hpre ⟨9,.data⟩ (by simp) rfl _ rfl
   go_simp
   exact ⟨Below.refl _ _,_,rfl,b7,c7,rfl,ho7⟩
 ·intro vs W hR hΦ
  obtain ⟨b7,c7,e12,g12⟩:=hΦ 12 (by omega)
  have e10:vs 10 = .agg #[.int .i64 (doQueue m.queue op arg).2.1,.int .i64 (doQueue m.queue op arg).2.2]:=hΦ 10 (by omega)
  obtain ⟨k,e11,hk1,hk2,hk3⟩:=hΦ 11 (by omega)
  simp only [putN,List.getElem?_toArray,List.getElem?_cons_succ,List.getElem?_cons_zero,Option.bind_some,Act.put,List.setIfInBounds_toArray,List.set_cons_succ,List.set_cons_zero,List.drop_succ_cons,List.drop_zero,e12,e10,e11]
  clear hΦ e12 e10 e11
  have hR5:Below W5.heap.size W5 W:=(Below.refl _ _).drew.trans hR
  obtain ⟨⟨x0,x1⟩,⟨f0,f1⟩⟩:=blk2 hk3
  have HK3:=Lib.hid hk3
  have HG12:=Lib.hid g12
  clear g12 hk3 CD HOF
  go_upto_region 6 with (fail)
  rw [set2 HK3.out]
  clear x0 x1 f0 f1
  have h58:Below W5.heap.size W5 (W.setRow k #[.int .i64 (doQueue m.queue op arg).2.1,.int .i64 (doQueue m.queue op arg).2.2]):=below_setRow' hR5 (by omega) _
  have hP8:=(h58.block _ hlt5).trans HP.out
  have ho8:=own_row_type HG12.out HK3.out (by decide) (cs':=#[.int .i64 (doQueue m.queue op arg).2.1,.int .i64 (doQueue m.queue op arg).2.2])
  have hT:=setRow_heap W k _ #[.int .i64 (doQueue m.queue op arg).2.1,.int .i64 (doQueue m.queue op arg).2.2] 42 (0,0) HK3.out
  have hkW:k<(W.setRow k #[.int .i64 (doQueue m.queue op arg).2.1,.int .i64 (doQueue m.queue op arg).2.2]).heap.size:=by simp [hk2]
  clear HK3 HG12 hR hR5
  generalize W.setRow k #[.int .i64 (doQueue m.queue op arg).2.1,.int .i64 (doQueue m.queue op arg).2.2]=W8 at *
  have hme:=meth_queue_put b7 (doQueue m.queue op arg).1.length c7 W8
  go_wp2_with fail
  clear hme
  refine (put_queue hP8 rfl).mono ?_
  rintro r w9 ⟨rfl,hw9⟩
  have hP9:=setRow_heap W8 w4.heap.size _ #[.slice b1 m.cell.length c1,.slice b2 m.stack.length c2,.slice b7 (doQueue m.queue op arg).1.length c7,.slice b4 m.set.length c4,.slice b5 m.table.length c5] 29 (0,0) hP8
  have hT9:=(setRow_other W8 w4.heap.size k #[.slice b1 m.cell.length c1,.slice b2 m.stack.length c2,.slice b7 (doQueue m.queue op arg).1.length c7,.slice b4 m.set.length c4,.slice b5 m.table.length c5] (by omega)).trans hT
  have hb9:Below (w.heap.size+3) W1 (W8.setRow w4.heap.size #[.slice b1 m.cell.length c1,.slice b2 m.stack.length c2,.slice b7 (doQueue m.queue op arg).1.length c7,.slice b4 m.set.length c4,.slice b5 m.table.length c5]):=below_setRow' (hb5.trans (h58.mono (by omega))) (by omega) _
  have g:=G.out
  have k1:=own_row_type (g.1.ext h58) hP8 (by decide) (cs':=#[.slice b1 m.cell.length c1,.slice b2 m.stack.length c2,.slice b7 (doQueue m.queue op arg).1.length c7,.slice b4 m.set.length c4,.slice b5 m.table.length c5])
  have k2:=own_row_type (g.2.1.ext h58) hP8 (by decide) (cs':=#[.slice b1 m.cell.length c1,.slice b2 m.stack.length c2,.slice b7 (doQueue m.queue op arg).1.length c7,.slice b4 m.set.length c4,.slice b5 m.table.length c5])
  have k3:=own_row_type (g.2.2.1.ext h58) hP8 (by decide) (cs':=#[.slice b1 m.cell.length c1,.slice b2 m.stack.length c2,.slice b7 (doQueue m.queue op arg).1.length c7,.slice b4 m.set.length c4,.slice b5 m.table.length c5])
  have k4:=own_row_type (g.2.2.2.1.ext h58) hP8 (by decide) (cs':=#[.slice b1 m.cell.length c1,.slice b2 m.stack.length c2,.slice b7 (doQueue m.queue op arg).1.length c7,.slice b4 m.set.length c4,.slice b5 m.table.length c5])
  have k5:=own_row_type (g.2.2.2.2.ext h58) hP8 (by decide) (cs':=#[.slice b1 m.cell.length c1,.slice b2 m.stack.length c2,.slice b7 (doQueue m.queue op arg).1.length c7,.slice b4 m.set.length c4,.slice b5 m.table.length c5])
  have k6:=own_row_type ho8 hP8 (by decide) (cs':=#[.slice b1 m.cell.length c1,.slice b2 m.stack.length c2,.slice b7 (doQueue m.queue op arg).1.length c7,.slice b4 m.set.length c4,.slice b5 m.table.length c5])
  rw [hw9] at hP9 hT9 hb9 k1 k2 k3 k4 k5 k6
  have hs9:=hb9.size
  have hY9:=(hb9.block (w.heap.size+1) (by omega)).trans HB.out
  have hZ9:=(hb9.block (w.heap.size+2) (by omega)).trans HC.out
  have hB9:Below w.heap.size w w9:=hW.trans (hb9.mono (by omega))
  have HP9:=Lib.hid hP9
  have HT9:=Lib.hid hT9
  have HY9:=Lib.hid hY9
  have HZ9:=Lib.hid hZ9
  have HB9:=Lib.hid hB9
  have KK:=Lib.hid (⟨k1,k2,k6,k4,k5⟩:_∧_∧_∧_∧_)
  clear hw9 g k1 k2 k3 k4 k5 k6 hP8 hT ho8 h58 hP9 hT9 hY9 hZ9 hB9 G
  have e2:w.heap.size+2=w.heap.size+1+1:=rfl
  rw [e2] at HZ9
  clear e2
  go_upto_region 7 with (fail)
  have hny:w.heap.size+1≠w4.heap.size:=by omega
  have hnz:w.heap.size+1+1≠w4.heap.size:=by omega
  have hky:w.heap.size+1≠k:=by omega
  have hkz:w.heap.size+1+1≠k:=by omega
  have hyz:w.heap.size+1+1≠w.heap.size+1:=by omega
  have HZ10:=Lib.hid ((setRow_other w9 (w.heap.size+1) (w.heap.size+1+1) #[.slice b1 m.cell.length c1,.slice b2 m.stack.length c2,.slice b7 (doQueue m.queue op arg).1.length c7,.slice b4 m.set.length c4,.slice b5 m.table.length c5] hyz).trans HZ9.out)
  have HP10:=Lib.hid ((setRow_other w9 (w.heap.size+1) w4.heap.size #[.slice b1 m.cell.length c1,.slice b2 m.stack.length c2,.slice b7 (doQueue m.queue op arg).1.length c7,.slice b4 m.set.length c4,.slice b5 m.table.length c5] (Ne.symm hny)).trans HP9.out)
  have HT10:=Lib.hid ((setRow_other w9 (w.heap.size+1) k #[.slice b1 m.cell.length c1,.slice b2 m.stack.length c2,.slice b7 (doQueue m.queue op arg).1.length c7,.slice b4 m.set.length c4,.slice b5 m.table.length c5] (Ne.symm hky)).trans HT9.out)
  have HP11:=Lib.hid ((setRow_other (w9.setRow (w.heap.size+1) #[.slice b1 m.cell.length c1,.slice b2 m.stack.length c2,.slice b7 (doQueue m.queue op arg).1.length c7,.slice b4 m.set.length c4,.slice b5 m.table.length c5]) (w.heap.size+1+1) w4.heap.size #[.int .i64 (doQueue m.queue op arg).2.1,.int .i64 (doQueue m.queue op arg).2.2] (Ne.symm hnz)).trans HP10.out)
  have HT11:=Lib.hid ((setRow_other (w9.setRow (w.heap.size+1) #[.slice b1 m.cell.length c1,.slice b2 m.stack.length c2,.slice b7 (doQueue m.queue op arg).1.length c7,.slice b4 m.set.length c4,.slice b5 m.table.length c5]) (w.heap.size+1+1) k #[.int .i64 (doQueue m.queue op arg).2.1,.int .i64 (doQueue m.queue op arg).2.2] (Ne.symm hkz)).trans HT10.out)
  obtain ⟨⟨y0,y1,y2,y3,y4⟩,⟨f0,f1,f2,f3,f4⟩⟩:=blk5 HY9.out
  obtain ⟨⟨x0,x1⟩,⟨g0,g1⟩⟩:=blk2 HZ9.out
  go_region_held3 (fun wx=>(wx.cell? ⟨w4.heap.size,0,none⟩=some (.slice b1 m.cell.length c1)∧wx.cell? ⟨w4.heap.size,1,none⟩=some (.slice b2 m.stack.length c2)∧wx.cell? ⟨w4.heap.size,2,none⟩=some (.slice b7 (doQueue m.queue op arg).1.length c7)∧wx.cell? ⟨w4.heap.size,3,none⟩=some (.slice b4 m.set.length c4)∧wx.cell? ⟨w4.heap.size,4,none⟩=some (.slice b5 m.table.length c5))∧(wx.cell? ⟨k,0,none⟩=some (.int .i64 (doQueue m.queue op arg).2.1)∧wx.cell? ⟨k,1,none⟩=some (.int .i64 (doQueue m.queue op arg).2.2)))
   (first | (rw [set5 HY9.out,set2 HZ10.out];exact ⟨(blk5 HP11.out).1,(blk2 HT11.out).1⟩) | (rw [set5 HY9.out];exact ⟨(blk5 HP10.out).1,(blk2 HT10.out).1⟩) | (exact ⟨(blk5 HP9.out).1,(blk2 HT9.out).1⟩))
   (fail)
  clear y0 y1 y2 y3 y4 f0 f1 f2 f3 f4 x0 x1 g0 g1
  rw [set5 HY9.out,set2 HZ10.out]
  have hYF:=(setRow_other (w9.setRow (w.heap.size+1) #[.slice b1 m.cell.length c1,.slice b2 m.stack.length c2,.slice b7 (doQueue m.queue op arg).1.length c7,.slice b4 m.set.length c4,.slice b5 m.table.length c5]) (w.heap.size+1+1) (w.heap.size+1) #[.int .i64 (doQueue m.queue op arg).2.1,.int .i64 (doQueue m.queue op arg).2.2] (Ne.symm hyz)).trans (setRow_heap w9 (w.heap.size+1) _ #[.slice b1 m.cell.length c1,.slice b2 m.stack.length c2,.slice b7 (doQueue m.queue op arg).1.length c7,.slice b4 m.set.length c4,.slice b5 m.table.length c5] 29 (0,0) HY9.out)
  have hZF:=setRow_heap (w9.setRow (w.heap.size+1) #[.slice b1 m.cell.length c1,.slice b2 m.stack.length c2,.slice b7 (doQueue m.queue op arg).1.length c7,.slice b4 m.set.length c4,.slice b5 m.table.length c5]) (w.heap.size+1+1) _ #[.int .i64 (doQueue m.queue op arg).2.1,.int .i64 (doQueue m.queue op arg).2.2] 42 (0,0) HZ10.out
  have G1:=grownBy_setRow w9 (w.heap.size+1) #[.slice b1 m.cell.length c1,.slice b2 m.stack.length c2,.slice b7 (doQueue m.queue op arg).1.length c7,.slice b4 m.set.length c4,.slice b5 m.table.length c5]
  have G2:=grownBy_setRow (w9.setRow (w.heap.size+1) #[.slice b1 m.cell.length c1,.slice b2 m.stack.length c2,.slice b7 (doQueue m.queue op arg).1.length c7,.slice b4 m.set.length c4,.slice b5 m.table.length c5]) (w.heap.size+1+1) #[.int .i64 (doQueue m.queue op arg).2.1,.int .i64 (doQueue m.queue op arg).2.2]
  have BB:Hid (Below w.heap.size w ((w9.setRow (w.heap.size+1) #[.slice b1 m.cell.length c1,.slice b2 m.stack.length c2,.slice b7 (doQueue m.queue op arg).1.length c7,.slice b4 m.set.length c4,.slice b5 m.table.length c5]).setRow (w.heap.size+1+1) #[.int .i64 (doQueue m.queue op arg).2.1,.int .i64 (doQueue m.queue op arg).2.2]).drew) :=
   (below_setRow' (below_setRow' HB9.out (by omega) _) (by omega) _).drew
  have hl1:w.heap.size+1<w1.heap.size:=by omega
  have hl2:w.heap.size+1+1<w1.heap.size:=by omega
  have hl0:w.heap.size≤w1.heap.size:=by omega
  have hdr:=(Below.refl ((w9.setRow (w.heap.size+1) #[.slice b1 m.cell.length c1,.slice b2 m.stack.length c2,.slice b7 (doQueue m.queue op arg).1.length c7,.slice b4 m.set.length c4,.slice b5 m.table.length c5]).setRow (w.heap.size+1+1) #[.int .i64 (doQueue m.queue op arg).2.1,.int .i64 (doQueue m.queue op arg).2.2]).heap.size ((w9.setRow (w.heap.size+1) #[.slice b1 m.cell.length c1,.slice b2 m.stack.length c2,.slice b7 (doQueue m.queue op arg).1.length c7,.slice b4 m.set.length c4,.slice b5 m.table.length c5]).setRow (w.heap.size+1+1) #[.int .i64 (doQueue m.queue op arg).2.1,.int .i64 (doQueue m.queue op arg).2.2])).drew
  have kk:=KK.out
  have OB:Hid (OwnD ((w9.setRow (w.heap.size+1) #[.slice b1 m.cell.length c1,.slice b2 m.stack.length c2,.slice b7 (doQueue m.queue op arg).1.length c7,.slice b4 m.set.length c4,.slice b5 m.table.length c5]).setRow (w.heap.size+1+1) #[.int .i64 (doQueue m.queue op arg).2.1,.int .i64 (doQueue m.queue op arg).2.2]).drew w.heap.size (.agg #[.slice b1 m.cell.length c1,.slice b2 m.stack.length c2,.slice b7 (doQueue m.queue op arg).1.length c7,.slice b4 m.set.length c4,.slice b5 m.table.length c5]) { m with queue:=(doQueue m.queue op arg).1 }) :=
   ⟨_,_,_,_,_,rfl,(((kk.1.keep G1 hl1).keep G2 hl2).ext hdr).base hl0,(((kk.2.1.keep G1 hl1).keep G2 hl2).ext hdr).base hl0,(((kk.2.2.1.keep G1 hl1).keep G2 hl2).ext hdr).base hl0,(((kk.2.2.2.1.keep G1 hl1).keep G2 hl2).ext hdr).base hl0,(((kk.2.2.2.2.keep G1 hl1).keep G2 hl2).ext hdr).base hl0⟩
  clear G1 G2 hdr kk KK HY9 HZ9 HZ10 HP10 HT10 HP11 HT11 HB9
  obtain ⟨⟨z0,z1,z2,z3,z4⟩,_⟩:=blk5 hYF
  obtain ⟨⟨x0,x1⟩,_⟩:=blk2 hZF
  clear hYF hZF
  go_wp2
  refine bodyPost_ret (v:=.tuple #[.agg #[.slice b1 m.cell.length c1,.slice b2 m.stack.length c2,.slice b7 (doQueue m.queue op arg).1.length c7,.slice b4 m.set.length c4,.slice b5 m.table.length c5],.agg #[.int .i64 (doQueue m.queue op arg).2.1,.int .i64 (doQueue m.queue op arg).2.2],.int .i64 0]) ?_ rfl ⟨_,rfl,OB.out,BB.out⟩
  simp [results,Try.results25,go_sem,z0,z1,z2,z3,z4,x0,x1]
def PhiD_set (B bx:Nat) (op arg data:Int) (a b c d e cur:Value) (D:List Int×Int×Int):Nat→Value→World→Prop
 | 0,v,_=>v = .agg #[a,b,c,d,e]
 | 1,v,_=>v = .int .i64 op
 | 2,v,_=>v = .int .i64 4
 | 3,v,_=>v = .iface 93 cur
 | 4,v,_=>v = .int .i64 op
 | 5,v,_=>v = .int .i64 arg
 | 6,v,_=>v = .int .i64 data
 | 7,v,w=>∃ b7 c7,v = .tuple #[.iface 93 (.slice b7 D.1.length c7),.agg #[.int .i64 D.2.1,.int .i64 D.2.2]]∧OwnE w B 3 eI 1 (.slice b7 D.1.length c7) D.1
 | 8,v,w=>∃ b7 c7,v = .tuple #[.iface 93 (.slice b7 D.1.length c7),.agg #[.int .i64 D.2.1,.int .i64 D.2.2]]∧OwnE w B 3 eI 1 (.slice b7 D.1.length c7) D.1
 | 9,v,w=>∃ b7 c7,v = .iface 93 (.slice b7 D.1.length c7)∧OwnE w B 3 eI 1 (.slice b7 D.1.length c7) D.1
 | 12,v,w=>∃ b7 c7,v = .iface 93 (.slice b7 D.1.length c7)∧OwnE w B 3 eI 1 (.slice b7 D.1.length c7) D.1
 | 10,v,_=>v = .agg #[.int .i64 D.2.1,.int .i64 D.2.2]
 | 11,v,w=>∃ k,v = .pointer (some ⟨k,0,none⟩)∧bx<k∧k<w.heap.size∧w.heap[k]? = some (.cells #[.int .i64 0,.int .i64 0] 42 (0,0))
 | _,_,_=>True
theorem PhiD_set_stab (B bx:Nat) (op arg data:Int) (a b c d e cur:Value) (D:List Int×Int×Int):∀ i v w w',PhiD_set B bx op arg data a b c d e cur D i v w→Below w.heap.size w w'→PhiD_set B bx op arg data a b c d e cur D i v w':=by
 intro i v w w' h hb
 unfold PhiD_set at h ⊢
 split <;> simp only at h <;> first | exact h | trivial | (obtain ⟨b7,c7,h1,h2⟩:=h;exact ⟨b7,c7,h1,h2.ext hb⟩) | (obtain ⟨k,h1,h2,h3,h4⟩:=h;exact ⟨k,h1,h2,Nat.lt_of_lt_of_le h3 hb.size,(hb.block k h3).trans h4⟩)
set_option maxRecDepth 100000 in
set_option maxHeartbeats 2000000 in
theorem mDo_set {v:Value} {m:MC} {w:World} (op arg data:Int) (h:Cont w v m) (hok:m.ok 1) (hm:mayB m=true) (ho:objOf op=4) :
  Calls Try.prog 25 #[v,.int .i64 op,.int .i64 arg,.int .i64 data] w (RetD3 w (doM m op arg data) 0):=by
 have hd:doM m op arg data=({ m with set:=(doSet m.set op arg).1 },(doSet m.set op arg).2):=by simp [doM,ho]
 rw [hd]
 clear hd
 have h0:=h
 obtain ⟨a,b,c,d,e,rfl,_⟩:=h
 have hr:refN m op=0:=by simp [refN,hm,ho]
 have C1:Hid (∀ wx,Below w.heap.size w wx→Calls Try.prog 44 #[.agg #[a,b,c,d,e],.int .i64 op] wx fun r w'=>r = .returned (.int .i64 0)∧Below wx.heap.size wx w'):=fun wx hb=>by rw [← hr];exact refused_any op (h0.below hb)
 have C2:Hid (∀ wx,Below w.heap.size w wx→Calls Try.prog 42 #[.agg #[a,b,c,d,e]] wx (RetD wx m)):=fun wx hb=>mCopied (h0.below hb) (hok.le (by omega))
 have hok1:m.ok 1:=hok
 simp only [MC.ok] at hok1
 have HOK:=Lib.hid hok1
 have HM:Hid (mayB m=true):=hm
 have HO:=Lib.hid ho
 clear h0 hok hm hr hok1
 obtain ⟨hW,hS,hA,hB,hC⟩:=three_boxes w #[a,b,c,d,e] #[.slice none 0 0,.slice none 0 0,.slice none 0 0,.slice none 0 0,.slice none 0 0] #[.int .i64 0,.int .i64 0] 29 29 42
 go_enter Try.func25,Try.ntmps25
 go_wp2_with fail
 generalize ((w.alloc (.cells #[a,b,c,d,e] 29)).alloc (.cells #[.slice none 0 0,.slice none 0 0,.slice none 0 0,.slice none 0 0,.slice none 0 0] 29)).alloc (.cells #[.int .i64 0,.int .i64 0] 42)=W1 at *
 have HA:=Lib.hid hA;clear hA
 have HB:=Lib.hid hB;clear hB
 have HC:=Lib.hid hC;clear hC
 (with_reducible refine (C1.out _ hW).mono ?_)
 rintro r w1 ⟨rfl,hb1⟩
 have hb:Below (w.heap.size+3) W1 w1:=hb1.mono (by omega)
 clear hb1 C1
 have hbw:Below w.heap.size w w1:=hW.trans (hb.mono (by omega))
 have hs1:=hb.size
 obtain ⟨⟨x0,x1,x2,x3,x4⟩,_⟩:=blk5 ((hb.block w.heap.size (by omega)).trans HA.out)
 go_wp2_with fail
 clear x0 x1 x2 x3 x4
 (with_reducible refine (C2.out _ hbw).mono ?_)
 rintro r w4 ⟨v',rfl,hc,hb4⟩
 obtain ⟨a',b',c',d',e',rfl,g1,g2,g3,g4,g5⟩:=hc
 obtain ⟨b1,c1,rfl⟩:=g1.form
 obtain ⟨b2,c2,rfl⟩:=g2.form
 obtain ⟨b3,c3,rfl⟩:=g3.form
 obtain ⟨b4,c4,rfl⟩:=g4.form
 obtain ⟨b5,c5,rfl⟩:=g5.form
 obtain ⟨hW5,hS5,hP⟩:=one_box w4 #[.slice b1 m.cell.length c1,.slice b2 m.stack.length c2,.slice b3 m.queue.length c3,.slice b4 m.set.length c4,.slice b5 m.table.length c5] 29
 have hs4:=hb4.size
 have G:=Lib.hid (⟨g1.ext hW5,g2.ext hW5,g3.ext hW5,g4.ext hW5,g5.ext hW5⟩:_∧_∧_∧_∧_)
 clear g1 g2 g3 g4 g5 C2
 go_upto_region 5 with (fail)
 generalize w4.alloc (.cells #[.slice b1 m.cell.length c1,.slice b2 m.stack.length c2,.slice b3 m.queue.length c3,.slice b4 m.set.length c4,.slice b5 m.table.length c5] 29)=W5 at *
 have HINC:Hid (incB m.set=true):=by have:=HM.out;simp only [mayB,Bool.and_eq_true] at this;exact this.1.2
 have HP:=Lib.hid hP;clear hP
 have hlt5:w4.heap.size<W5.heap.size:=by omega
 have hle5:w1.heap.size≤W5.heap.size:=by omega
 have hbw5:Below w.heap.size w W5:=hbw.trans ((hb4.mono (by omega)).trans (hW5.mono (by omega)))
 have hb5:Below (w.heap.size+3) W1 W5:=hb.trans ((hb4.mono (by omega)).trans (hW5.mono (by omega)))
 have hob:ofV 4 (.slice b1 m.cell.length c1) (.slice b2 m.stack.length c2) (.slice b3 m.queue.length c3) (.slice b4 m.set.length c4) (.slice b5 m.table.length c5) = .iface 93 (.slice b4 m.set.length c4):=rfl
 have HOF:=Lib.hid hob
 clear hb hb4 hbw hW5 hob
 have CD:Hid (∀ wx,Below W5.heap.size W5 wx→Calls Try.prog 82 #[.slice b4 m.set.length c4,.int .i64 op,.int .i64 arg,.int .i64 data] wx (RetDo wx w1.heap.size 93 3 eI 1 (doSet m.set op arg))):=fun wx hx=>do_set op arg data (Nat.le_trans hle5 hx.size) (G.out.2.2.2.1.ext hx) HINC.out (by have:=HOK.out;omega)
 refine wp_region_facts_lit 13 (PhiD_set w1.heap.size w4.heap.size op arg data (.slice b1 m.cell.length c1) (.slice b2 m.stack.length c2) (.slice b3 m.queue.length c3) (.slice b4 m.set.length c4) (.slice b5 m.table.length c5) (.slice b4 m.set.length c4) (doSet m.set op arg)) (fun w w'=>Below w.heap.size w w') (by kernel_rfl) (by kernel_rfl) (by simp) ext_refl ext_trans (PhiD_set_stab _ _ _ _ _ _ _ _ _ _ _ _) ?_ ?_
 ·refine ⟨?_,?_,?_,?_,?_,?_,?_,?_,?_,?_,?_,?_,?_,trivial⟩
  all_goals intro A W hR hd hs hag hpre
  all_goals rw [if_pos (by rfl)]
  ·have t1:=hag 12 (noDst (by kernel_rfl))
   have t1' : A.tmps.getD 12 undef = .pointer (some ⟨w4.heap.size,0,none⟩):=t1
   clear t1
   obtain ⟨⟨z0,z1,z2,z3,z4⟩,_⟩:=blk5 ((hR.block w4.heap.size hlt5).trans HP.out)
   go_simp
   exact ⟨Below.refl _ _,_,rfl,rfl⟩
  ·have t1:=hag 1 (noDst (by kernel_rfl))
   have t1' : A.tmps.getD 1 undef = .int .i64 op:=t1
   clear t1
   go_simp
   exact ⟨Below.refl _ _,_,rfl,rfl⟩
  ·have p:A.tmps.getD 27 undef = .int .i64 op:=hpre ⟨1,.data⟩ (by simp) rfl _ rfl
   go_simp
   refine (mObject _ _).mono ?_
   rintro r wo ⟨rfl,rfl⟩
   rw [HO.out]
   exact ⟨Below.refl _ _,_,rfl,rfl⟩
  ·have p:A.tmps.getD 26 undef = .agg #[.slice b1 m.cell.length c1,.slice b2 m.stack.length c2,.slice b3 m.queue.length c3,.slice b4 m.set.length c4,.slice b5 m.table.length c5]:=hpre ⟨0,.data⟩ (by simp) rfl _ rfl
   have q:A.tmps.getD 28 undef = .int .i64 4:=hpre ⟨2,.data⟩ (by simp) rfl _ rfl
   go_simp
   refine (of_any _ _ _ _ _ _ _).mono ?_
   rintro r w6 ⟨rfl,hb6⟩
   rw [HOF.out]
   exact ⟨hb6,_,rfl,rfl⟩
  ·have t1:=hag 1 (noDst (by kernel_rfl))
   have t1' : A.tmps.getD 1 undef = .int .i64 op:=t1
   clear t1
   go_simp
   exact ⟨Below.refl _ _,_,rfl,rfl⟩
  ·have t1:=hag 2 (noDst (by kernel_rfl))
   have t1' : A.tmps.getD 2 undef = .int .i64 arg:=t1
   clear t1
   go_simp
   exact ⟨Below.refl _ _,_,rfl,rfl⟩
  ·have t1:=hag 3 (noDst (by kernel_rfl))
   have t1' : A.tmps.getD 3 undef = .int .i64 data:=t1
   clear t1
   go_simp
   exact ⟨Below.refl _ _,_,rfl,rfl⟩
  ·have p0:A.tmps.getD 29 undef = .iface 93 (.slice b4 m.set.length c4):=hpre ⟨3,.data⟩ (by simp) rfl _ rfl
   have p1:A.tmps.getD 30 undef = .int .i64 op:=hpre ⟨4,.data⟩ (by simp) rfl _ rfl
   have p2:A.tmps.getD 31 undef = .int .i64 arg:=hpre ⟨5,.data⟩ (by simp) rfl _ rfl
   have p3:A.tmps.getD 32 undef = .int .i64 data:=hpre ⟨6,.data⟩ (by simp) rfl _ rfl
   have hme:=meth_set_do b4 m.set.length c4 W
   go_simp
   clear hme
   have hx:Below W5.heap.size W5 W:=(Below.refl _ _).drew.trans hR
   (with_reducible refine (CD.out _ hx).mono ?_)
   rintro r w7 ⟨v7,rfl,ho7,hb7⟩
   obtain ⟨b7,c7,rfl⟩:=ho7.form
   exact ⟨hb7,_,rfl,b7,c7,rfl,ho7⟩
  ·obtain ⟨b7,c7,p,ho7⟩:∃ b7 c7,A.tmps.getD 33 undef = .tuple #[.iface 93 (.slice b7 (doSet m.set op arg).1.length c7),.agg #[.int .i64 (doSet m.set op arg).2.1,.int .i64 (doSet m.set op arg).2.2]]∧OwnE W w1.heap.size 3 eI 1 (.slice b7 (doSet m.set op arg).1.length c7) (doSet m.set op arg).1:=hpre ⟨7,.data⟩ (by simp) rfl _ rfl
   go_simp
   exact ⟨Below.refl _ _,_,rfl,b7,c7,rfl,ho7⟩
  ·obtain ⟨b7,c7,p,ho7⟩:∃ b7 c7,A.tmps.getD 25 undef = .tuple #[.iface 93 (.slice b7 (doSet m.set op arg).1.length c7),.agg #[.int .i64 (doSet m.set op arg).2.1,.int .i64 (doSet m.set op arg).2.2]]∧OwnE W w1.heap.size 3 eI 1 (.slice b7 (doSet m.set op arg).1.length c7) (doSet m.set op arg).1:=hpre ⟨8,.data⟩ (by simp) rfl _ rfl
   go_simp
   exact ⟨Below.refl _ _,_,rfl,b7,c7,rfl,ho7⟩
  ·obtain ⟨b7,c7,p,ho7⟩:∃ b7 c7,A.tmps.getD 25 undef = .tuple #[.iface 93 (.slice b7 (doSet m.set op arg).1.length c7),.agg #[.int .i64 (doSet m.set op arg).2.1,.int .i64 (doSet m.set op arg).2.2]]∧OwnE W w1.heap.size 3 eI 1 (.slice b7 (doSet m.set op arg).1.length c7) (doSet m.set op arg).1:=hpre ⟨8,.data⟩ (by simp) rfl _ rfl
   go_simp
   exact ⟨Below.refl _ _,_,rfl,rfl⟩
  ·go_simp
   exact ⟨below_box _ _,_,rfl,W.heap.size,rfl,Nat.lt_of_lt_of_le hlt5 hR.size,by simp,heap_alloc_new W _⟩
  ·obtain ⟨b7,c7,p,ho7⟩:∃ b7 c7,A.tmps.getD 34 undef = .iface 93 (.slice b7 (doSet m.set op arg).1.length c7)∧OwnE W w1.heap.size 3 eI 1 (.slice b7 (doSet m.set op arg).1.length c7) (doSet m.set op arg).1:=hpre ⟨9,.data⟩ (by simp) rfl _ rfl
   go_simp
   exact ⟨Below.refl _ _,_,rfl,b7,c7,rfl,ho7⟩
 ·intro vs W hR hΦ
  obtain ⟨b7,c7,e12,g12⟩:=hΦ 12 (by omega)
  have e10:vs 10 = .agg #[.int .i64 (doSet m.set op arg).2.1,.int .i64 (doSet m.set op arg).2.2]:=hΦ 10 (by omega)
  obtain ⟨k,e11,hk1,hk2,hk3⟩:=hΦ 11 (by omega)
  simp only [putN,List.getElem?_toArray,List.getElem?_cons_succ,List.getElem?_cons_zero,Option.bind_some,Act.put,List.setIfInBounds_toArray,List.set_cons_succ,List.set_cons_zero,List.drop_succ_cons,List.drop_zero,e12,e10,e11]
  clear hΦ e12 e10 e11
  have hR5:Below W5.heap.size W5 W:=(Below.refl _ _).drew.trans hR
  obtain ⟨⟨x0,x1⟩,⟨f0,f1⟩⟩:=blk2 hk3
  have HK3:=Lib.hid hk3
  have HG12:=Lib.hid g12
  clear g12 hk3 CD HOF
  go_upto_region 6 with (fail)
  rw [set2 HK3.out]
  clear x0 x1 f0 f1
  have h58:Below W5.heap.size W5 (W.setRow k #[.int .i64 (doSet m.set op arg).2.1,.int .i64 (doSet m.set op arg).2.2]):=below_setRow' hR5 (by omega) _
  have hP8:=(h58.block _ hlt5).trans HP.out
  have ho8:=own_row_type HG12.out HK3.out (by decide) (cs':=#[.int .i64 (doSet m.set op arg).2.1,.int .i64 (doSet m.set op arg).2.2])
  have hT:=setRow_heap W k _ #[.int .i64 (doSet m.set op arg).2.1,.int .i64 (doSet m.set op arg).2.2] 42 (0,0) HK3.out
  have hkW:k<(W.setRow k #[.int .i64 (doSet m.set op arg).2.1,.int .i64 (doSet m.set op arg).2.2]).heap.size:=by simp [hk2]
  clear HK3 HG12 hR hR5
  generalize W.setRow k #[.int .i64 (doSet m.set op arg).2.1,.int .i64 (doSet m.set op arg).2.2]=W8 at *
  have hme:=meth_set_put b7 (doSet m.set op arg).1.length c7 W8
  go_wp2_with fail
  clear hme
  refine (put_set hP8 rfl).mono ?_
  rintro r w9 ⟨rfl,hw9⟩
  have hP9:=setRow_heap W8 w4.heap.size _ #[.slice b1 m.cell.length c1,.slice b2 m.stack.length c2,.slice b3 m.queue.length c3,.slice b7 (doSet m.set op arg).1.length c7,.slice b5 m.table.length c5] 29 (0,0) hP8
  have hT9:=(setRow_other W8 w4.heap.size k #[.slice b1 m.cell.length c1,.slice b2 m.stack.length c2,.slice b3 m.queue.length c3,.slice b7 (doSet m.set op arg).1.length c7,.slice b5 m.table.length c5] (by omega)).trans hT
  have hb9:Below (w.heap.size+3) W1 (W8.setRow w4.heap.size #[.slice b1 m.cell.length c1,.slice b2 m.stack.length c2,.slice b3 m.queue.length c3,.slice b7 (doSet m.set op arg).1.length c7,.slice b5 m.table.length c5]):=below_setRow' (hb5.trans (h58.mono (by omega))) (by omega) _
  have g:=G.out
  have k1:=own_row_type (g.1.ext h58) hP8 (by decide) (cs':=#[.slice b1 m.cell.length c1,.slice b2 m.stack.length c2,.slice b3 m.queue.length c3,.slice b7 (doSet m.set op arg).1.length c7,.slice b5 m.table.length c5])
  have k2:=own_row_type (g.2.1.ext h58) hP8 (by decide) (cs':=#[.slice b1 m.cell.length c1,.slice b2 m.stack.length c2,.slice b3 m.queue.length c3,.slice b7 (doSet m.set op arg).1.length c7,.slice b5 m.table.length c5])
  have k3:=own_row_type (g.2.2.1.ext h58) hP8 (by decide) (cs':=#[.slice b1 m.cell.length c1,.slice b2 m.stack.length c2,.slice b3 m.queue.length c3,.slice b7 (doSet m.set op arg).1.length c7,.slice b5 m.table.length c5])
  have k4:=own_row_type (g.2.2.2.1.ext h58) hP8 (by decide) (cs':=#[.slice b1 m.cell.length c1,.slice b2 m.stack.length c2,.slice b3 m.queue.length c3,.slice b7 (doSet m.set op arg).1.length c7,.slice b5 m.table.length c5])
  have k5:=own_row_type (g.2.2.2.2.ext h58) hP8 (by decide) (cs':=#[.slice b1 m.cell.length c1,.slice b2 m.stack.length c2,.slice b3 m.queue.length c3,.slice b7 (doSet m.set op arg).1.length c7,.slice b5 m.table.length c5])
  have k6:=own_row_type ho8 hP8 (by decide) (cs':=#[.slice b1 m.cell.length c1,.slice b2 m.stack.length c2,.slice b3 m.queue.length c3,.slice b7 (doSet m.set op arg).1.length c7,.slice b5 m.table.length c5])
  rw [hw9] at hP9 hT9 hb9 k1 k2 k3 k4 k5 k6
  have hs9:=hb9.size
  have hY9:=(hb9.block (w.heap.size+1) (by omega)).trans HB.out
  have hZ9:=(hb9.block (w.heap.size+2) (by omega)).trans HC.out
  have hB9:Below w.heap.size w w9:=hW.trans (hb9.mono (by omega))
  have HP9:=Lib.hid hP9
  have HT9:=Lib.hid hT9
  have HY9:=Lib.hid hY9
  have HZ9:=Lib.hid hZ9
  have HB9:=Lib.hid hB9
  have KK:=Lib.hid (⟨k1,k2,k3,k6,k5⟩:_∧_∧_∧_∧_)
  clear hw9 g k1 k2 k3 k4 k5 k6 hP8 hT ho8 h58 hP9 hT9 hY9 hZ9 hB9 G
  have e2:w.heap.size+2=w.heap.size+1+1:=rfl
  rw [e2] at HZ9
  clear e2
  go_upto_region 7 with (fail)
  have hny:w.heap.size+1≠w4.heap.size:=by omega
  have hnz:w.heap.size+1+1≠w4.heap.size:=by omega
  have hky:w.heap.size+1≠k:=by omega
  have hkz:w.heap.size+1+1≠k:=by omega
  have hyz:w.heap.size+1+1≠w.heap.size+1:=by omega
  have HZ10:=Lib.hid ((setRow_other w9 (w.heap.size+1) (w.heap.size+1+1) #[.slice b1 m.cell.length c1,.slice b2 m.stack.length c2,.slice b3 m.queue.length c3,.slice b7 (doSet m.set op arg).1.length c7,.slice b5 m.table.length c5] hyz).trans HZ9.out)
  have HP10:=Lib.hid ((setRow_other w9 (w.heap.size+1) w4.heap.size #[.slice b1 m.cell.length c1,.slice b2 m.stack.length c2,.slice b3 m.queue.length c3,.slice b7 (doSet m.set op arg).1.length c7,.slice b5 m.table.length c5] (Ne.symm hny)).trans HP9.out)
  have HT10:=Lib.hid ((setRow_other w9 (w.heap.size+1) k #[.slice b1 m.cell.length c1,.slice b2 m.stack.length c2,.slice b3 m.queue.length c3,.slice b7 (doSet m.set op arg).1.length c7,.slice b5 m.table.length c5] (Ne.symm hky)).trans HT9.out)
  have HP11:=Lib.hid ((setRow_other (w9.setRow (w.heap.size+1) #[.slice b1 m.cell.length c1,.slice b2 m.stack.length c2,.slice b3 m.queue.length c3,.slice b7 (doSet m.set op arg).1.length c7,.slice b5 m.table.length c5]) (w.heap.size+1+1) w4.heap.size #[.int .i64 (doSet m.set op arg).2.1,.int .i64 (doSet m.set op arg).2.2] (Ne.symm hnz)).trans HP10.out)
  have HT11:=Lib.hid ((setRow_other (w9.setRow (w.heap.size+1) #[.slice b1 m.cell.length c1,.slice b2 m.stack.length c2,.slice b3 m.queue.length c3,.slice b7 (doSet m.set op arg).1.length c7,.slice b5 m.table.length c5]) (w.heap.size+1+1) k #[.int .i64 (doSet m.set op arg).2.1,.int .i64 (doSet m.set op arg).2.2] (Ne.symm hkz)).trans HT10.out)
  obtain ⟨⟨y0,y1,y2,y3,y4⟩,⟨f0,f1,f2,f3,f4⟩⟩:=blk5 HY9.out
  obtain ⟨⟨x0,x1⟩,⟨g0,g1⟩⟩:=blk2 HZ9.out
  go_region_held3 (fun wx=>(wx.cell? ⟨w4.heap.size,0,none⟩=some (.slice b1 m.cell.length c1)∧wx.cell? ⟨w4.heap.size,1,none⟩=some (.slice b2 m.stack.length c2)∧wx.cell? ⟨w4.heap.size,2,none⟩=some (.slice b3 m.queue.length c3)∧wx.cell? ⟨w4.heap.size,3,none⟩=some (.slice b7 (doSet m.set op arg).1.length c7)∧wx.cell? ⟨w4.heap.size,4,none⟩=some (.slice b5 m.table.length c5))∧(wx.cell? ⟨k,0,none⟩=some (.int .i64 (doSet m.set op arg).2.1)∧wx.cell? ⟨k,1,none⟩=some (.int .i64 (doSet m.set op arg).2.2)))
   (first | (rw [set5 HY9.out,set2 HZ10.out];exact ⟨(blk5 HP11.out).1,(blk2 HT11.out).1⟩) | (rw [set5 HY9.out];exact ⟨(blk5 HP10.out).1,(blk2 HT10.out).1⟩) | (exact ⟨(blk5 HP9.out).1,(blk2 HT9.out).1⟩))
   (fail)
  clear y0 y1 y2 y3 y4 f0 f1 f2 f3 f4 x0 x1 g0 g1
  rw [set5 HY9.out,set2 HZ10.out]
  have hYF:=(setRow_other (w9.setRow (w.heap.size+1) #[.slice b1 m.cell.length c1,.slice b2 m.stack.length c2,.slice b3 m.queue.length c3,.slice b7 (doSet m.set op arg).1.length c7,.slice b5 m.table.length c5]) (w.heap.size+1+1) (w.heap.size+1) #[.int .i64 (doSet m.set op arg).2.1,.int .i64 (doSet m.set op arg).2.2] (Ne.symm hyz)).trans (setRow_heap w9 (w.heap.size+1) _ #[.slice b1 m.cell.length c1,.slice b2 m.stack.length c2,.slice b3 m.queue.length c3,.slice b7 (doSet m.set op arg).1.length c7,.slice b5 m.table.length c5] 29 (0,0) HY9.out)
  have hZF:=setRow_heap (w9.setRow (w.heap.size+1) #[.slice b1 m.cell.length c1,.slice b2 m.stack.length c2,.slice b3 m.queue.length c3,.slice b7 (doSet m.set op arg).1.length c7,.slice b5 m.table.length c5]) (w.heap.size+1+1) _ #[.int .i64 (doSet m.set op arg).2.1,.int .i64 (doSet m.set op arg).2.2] 42 (0,0) HZ10.out
  have G1:=grownBy_setRow w9 (w.heap.size+1) #[.slice b1 m.cell.length c1,.slice b2 m.stack.length c2,.slice b3 m.queue.length c3,.slice b7 (doSet m.set op arg).1.length c7,.slice b5 m.table.length c5]
  have G2:=grownBy_setRow (w9.setRow (w.heap.size+1) #[.slice b1 m.cell.length c1,.slice b2 m.stack.length c2,.slice b3 m.queue.length c3,.slice b7 (doSet m.set op arg).1.length c7,.slice b5 m.table.length c5]) (w.heap.size+1+1) #[.int .i64 (doSet m.set op arg).2.1,.int .i64 (doSet m.set op arg).2.2]
  have BB:Hid (Below w.heap.size w ((w9.setRow (w.heap.size+1) #[.slice b1 m.cell.length c1,.slice b2 m.stack.length c2,.slice b3 m.queue.length c3,.slice b7 (doSet m.set op arg).1.length c7,.slice b5 m.table.length c5]).setRow (w.heap.size+1+1) #[.int .i64 (doSet m.set op arg).2.1,.int .i64 (doSet m.set op arg).2.2]).drew) :=
   (below_setRow' (below_setRow' HB9.out (by omega) _) (by omega) _).drew
  have hl1:w.heap.size+1<w1.heap.size:=by omega
  have hl2:w.heap.size+1+1<w1.heap.size:=by omega
  have hl0:w.heap.size≤w1.heap.size:=by omega
  have hdr:=(Below.refl ((w9.setRow (w.heap.size+1) #[.slice b1 m.cell.length c1,.slice b2 m.stack.length c2,.slice b3 m.queue.length c3,.slice b7 (doSet m.set op arg).1.length c7,.slice b5 m.table.length c5]).setRow (w.heap.size+1+1) #[.int .i64 (doSet m.set op arg).2.1,.int .i64 (doSet m.set op arg).2.2]).heap.size ((w9.setRow (w.heap.size+1) #[.slice b1 m.cell.length c1,.slice b2 m.stack.length c2,.slice b3 m.queue.length c3,.slice b7 (doSet m.set op arg).1.length c7,.slice b5 m.table.length c5]).setRow (w.heap.size+1+1) #[.int .i64 (doSet m.set op arg).2.1,.int .i64 (doSet m.set op arg).2.2])).drew
  have kk:=KK.out
  have OB:Hid (OwnD ((w9.setRow (w.heap.size+1) #[.slice b1 m.cell.length c1,.slice b2 m.stack.length c2,.slice b3 m.queue.length c3,.slice b7 (doSet m.set op arg).1.length c7,.slice b5 m.table.length c5]).setRow (w.heap.size+1+1) #[.int .i64 (doSet m.set op arg).2.1,.int .i64 (doSet m.set op arg).2.2]).drew w.heap.size (.agg #[.slice b1 m.cell.length c1,.slice b2 m.stack.length c2,.slice b3 m.queue.length c3,.slice b7 (doSet m.set op arg).1.length c7,.slice b5 m.table.length c5]) { m with set:=(doSet m.set op arg).1 }) :=
   ⟨_,_,_,_,_,rfl,(((kk.1.keep G1 hl1).keep G2 hl2).ext hdr).base hl0,(((kk.2.1.keep G1 hl1).keep G2 hl2).ext hdr).base hl0,(((kk.2.2.1.keep G1 hl1).keep G2 hl2).ext hdr).base hl0,(((kk.2.2.2.1.keep G1 hl1).keep G2 hl2).ext hdr).base hl0,(((kk.2.2.2.2.keep G1 hl1).keep G2 hl2).ext hdr).base hl0⟩
  clear G1 G2 hdr kk KK HY9 HZ9 HZ10 HP10 HT10 HP11 HT11 HB9
  obtain ⟨⟨z0,z1,z2,z3,z4⟩,_⟩:=blk5 hYF
  obtain ⟨⟨x0,x1⟩,_⟩:=blk2 hZF
  clear hYF hZF
  go_wp2
  refine bodyPost_ret (v:=.tuple #[.agg #[.slice b1 m.cell.length c1,.slice b2 m.stack.length c2,.slice b3 m.queue.length c3,.slice b7 (doSet m.set op arg).1.length c7,.slice b5 m.table.length c5],.agg #[.int .i64 (doSet m.set op arg).2.1,.int .i64 (doSet m.set op arg).2.2],.int .i64 0]) ?_ rfl ⟨_,rfl,OB.out,BB.out⟩
  simp [results,Try.results25,go_sem,z0,z1,z2,z3,z4,x0,x1]
def PhiD_table (B bx:Nat) (op arg data:Int) (a b c d e cur:Value) (D:List (Int×Int)×Int×Int):Nat→Value→World→Prop
 | 0,v,_=>v = .agg #[a,b,c,d,e]
 | 1,v,_=>v = .int .i64 op
 | 2,v,_=>v = .int .i64 5
 | 3,v,_=>v = .iface 94 cur
 | 4,v,_=>v = .int .i64 op
 | 5,v,_=>v = .int .i64 arg
 | 6,v,_=>v = .int .i64 data
 | 7,v,w=>∃ b7 c7,v = .tuple #[.iface 94 (.slice b7 D.1.length c7),.agg #[.int .i64 D.2.1,.int .i64 D.2.2]]∧OwnE w B 76 eP 2 (.slice b7 D.1.length c7) D.1
 | 8,v,w=>∃ b7 c7,v = .tuple #[.iface 94 (.slice b7 D.1.length c7),.agg #[.int .i64 D.2.1,.int .i64 D.2.2]]∧OwnE w B 76 eP 2 (.slice b7 D.1.length c7) D.1
 | 9,v,w=>∃ b7 c7,v = .iface 94 (.slice b7 D.1.length c7)∧OwnE w B 76 eP 2 (.slice b7 D.1.length c7) D.1
 | 12,v,w=>∃ b7 c7,v = .iface 94 (.slice b7 D.1.length c7)∧OwnE w B 76 eP 2 (.slice b7 D.1.length c7) D.1
 | 10,v,_=>v = .agg #[.int .i64 D.2.1,.int .i64 D.2.2]
 | 11,v,w=>∃ k,v = .pointer (some ⟨k,0,none⟩)∧bx<k∧k<w.heap.size∧w.heap[k]? = some (.cells #[.int .i64 0,.int .i64 0] 42 (0,0))
 | _,_,_=>True
theorem PhiD_table_stab (B bx:Nat) (op arg data:Int) (a b c d e cur:Value) (D:List (Int×Int)×Int×Int):∀ i v w w',PhiD_table B bx op arg data a b c d e cur D i v w→Below w.heap.size w w'→PhiD_table B bx op arg data a b c d e cur D i v w':=by
 intro i v w w' h hb
 unfold PhiD_table at h ⊢
 split <;> simp only at h <;> first | exact h | trivial | (obtain ⟨b7,c7,h1,h2⟩:=h;exact ⟨b7,c7,h1,h2.ext hb⟩) | (obtain ⟨k,h1,h2,h3,h4⟩:=h;exact ⟨k,h1,h2,Nat.lt_of_lt_of_le h3 hb.size,(hb.block k h3).trans h4⟩)
set_option maxRecDepth 100000 in
set_option maxHeartbeats 2000000 in
theorem mDo_table {v:Value} {m:MC} {w:World} (op arg data:Int) (h:Cont w v m) (hok:m.ok 1) (hm:mayB m=true) (ho:objOf op=5) :
  Calls Try.prog 25 #[v,.int .i64 op,.int .i64 arg,.int .i64 data] w (RetD3 w (doM m op arg data) 0):=by
 have hd:doM m op arg data=({ m with table:=(doTable m.table op arg data).1 },(doTable m.table op arg data).2):=by simp [doM,ho]
 rw [hd]
 clear hd
 have h0:=h
 obtain ⟨a,b,c,d,e,rfl,_⟩:=h
 have hr:refN m op=0:=by simp [refN,hm,ho]
 have C1:Hid (∀ wx,Below w.heap.size w wx→Calls Try.prog 44 #[.agg #[a,b,c,d,e],.int .i64 op] wx fun r w'=>r = .returned (.int .i64 0)∧Below wx.heap.size wx w'):=fun wx hb=>by rw [← hr];exact refused_any op (h0.below hb)
 have C2:Hid (∀ wx,Below w.heap.size w wx→Calls Try.prog 42 #[.agg #[a,b,c,d,e]] wx (RetD wx m)):=fun wx hb=>mCopied (h0.below hb) (hok.le (by omega))
 have hok1:m.ok 1:=hok
 simp only [MC.ok] at hok1
 have HOK:=Lib.hid hok1
 have HM:Hid (mayB m=true):=hm
 have HO:=Lib.hid ho
 clear h0 hok hm hr hok1
 obtain ⟨hW,hS,hA,hB,hC⟩:=three_boxes w #[a,b,c,d,e] #[.slice none 0 0,.slice none 0 0,.slice none 0 0,.slice none 0 0,.slice none 0 0] #[.int .i64 0,.int .i64 0] 29 29 42
 go_enter Try.func25,Try.ntmps25
 go_wp2_with fail
 generalize ((w.alloc (.cells #[a,b,c,d,e] 29)).alloc (.cells #[.slice none 0 0,.slice none 0 0,.slice none 0 0,.slice none 0 0,.slice none 0 0] 29)).alloc (.cells #[.int .i64 0,.int .i64 0] 42)=W1 at *
 have HA:=Lib.hid hA;clear hA
 have HB:=Lib.hid hB;clear hB
 have HC:=Lib.hid hC;clear hC
 (with_reducible refine (C1.out _ hW).mono ?_)
 rintro r w1 ⟨rfl,hb1⟩
 have hb:Below (w.heap.size+3) W1 w1:=hb1.mono (by omega)
 clear hb1 C1
 have hbw:Below w.heap.size w w1:=hW.trans (hb.mono (by omega))
 have hs1:=hb.size
 obtain ⟨⟨x0,x1,x2,x3,x4⟩,_⟩:=blk5 ((hb.block w.heap.size (by omega)).trans HA.out)
 go_wp2_with fail
 clear x0 x1 x2 x3 x4
 (with_reducible refine (C2.out _ hbw).mono ?_)
 rintro r w4 ⟨v',rfl,hc,hb4⟩
 obtain ⟨a',b',c',d',e',rfl,g1,g2,g3,g4,g5⟩:=hc
 obtain ⟨b1,c1,rfl⟩:=g1.form
 obtain ⟨b2,c2,rfl⟩:=g2.form
 obtain ⟨b3,c3,rfl⟩:=g3.form
 obtain ⟨b4,c4,rfl⟩:=g4.form
 obtain ⟨b5,c5,rfl⟩:=g5.form
 obtain ⟨hW5,hS5,hP⟩:=one_box w4 #[.slice b1 m.cell.length c1,.slice b2 m.stack.length c2,.slice b3 m.queue.length c3,.slice b4 m.set.length c4,.slice b5 m.table.length c5] 29
 have hs4:=hb4.size
 have G:=Lib.hid (⟨g1.ext hW5,g2.ext hW5,g3.ext hW5,g4.ext hW5,g5.ext hW5⟩:_∧_∧_∧_∧_)
 clear g1 g2 g3 g4 g5 C2
 go_upto_region 5 with (fail)
 generalize w4.alloc (.cells #[.slice b1 m.cell.length c1,.slice b2 m.stack.length c2,.slice b3 m.queue.length c3,.slice b4 m.set.length c4,.slice b5 m.table.length c5] 29)=W5 at *
 have HINC:Hid (incB (keys m.table)=true):=by have:=HM.out;simp only [mayB,Bool.and_eq_true] at this;exact this.2
 have HP:=Lib.hid hP;clear hP
 have hlt5:w4.heap.size<W5.heap.size:=by omega
 have hle5:w1.heap.size≤W5.heap.size:=by omega
 have hbw5:Below w.heap.size w W5:=hbw.trans ((hb4.mono (by omega)).trans (hW5.mono (by omega)))
 have hb5:Below (w.heap.size+3) W1 W5:=hb.trans ((hb4.mono (by omega)).trans (hW5.mono (by omega)))
 have hob:ofV 5 (.slice b1 m.cell.length c1) (.slice b2 m.stack.length c2) (.slice b3 m.queue.length c3) (.slice b4 m.set.length c4) (.slice b5 m.table.length c5) = .iface 94 (.slice b5 m.table.length c5):=rfl
 have HOF:=Lib.hid hob
 clear hb hb4 hbw hW5 hob
 have CD:Hid (∀ wx,Below W5.heap.size W5 wx→Calls Try.prog 97 #[.slice b5 m.table.length c5,.int .i64 op,.int .i64 arg,.int .i64 data] wx (RetDo wx w1.heap.size 94 76 eP 2 (doTable m.table op arg data))):=fun wx hx=>do_table op arg data (Nat.le_trans hle5 hx.size) (G.out.2.2.2.2.ext hx) HINC.out (by have:=HOK.out;omega)
 refine wp_region_facts_lit 13 (PhiD_table w1.heap.size w4.heap.size op arg data (.slice b1 m.cell.length c1) (.slice b2 m.stack.length c2) (.slice b3 m.queue.length c3) (.slice b4 m.set.length c4) (.slice b5 m.table.length c5) (.slice b5 m.table.length c5) (doTable m.table op arg data)) (fun w w'=>Below w.heap.size w w') (by kernel_rfl) (by kernel_rfl) (by simp) ext_refl ext_trans (PhiD_table_stab _ _ _ _ _ _ _ _ _ _ _ _) ?_ ?_
 ·refine ⟨?_,?_,?_,?_,?_,?_,?_,?_,?_,?_,?_,?_,?_,trivial⟩
  all_goals intro A W hR hd hs hag hpre
  all_goals rw [if_pos (by rfl)]
  ·have t1:=hag 12 (noDst (by kernel_rfl))
   have t1' : A.tmps.getD 12 undef = .pointer (some ⟨w4.heap.size,0,none⟩):=t1
   clear t1
   obtain ⟨⟨z0,z1,z2,z3,z4⟩,_⟩:=blk5 ((hR.block w4.heap.size hlt5).trans HP.out)
   go_simp
   exact ⟨Below.refl _ _,_,rfl,rfl⟩
  ·have t1:=hag 1 (noDst (by kernel_rfl))
   have t1' : A.tmps.getD 1 undef = .int .i64 op:=t1
   clear t1
   go_simp
   exact ⟨Below.refl _ _,_,rfl,rfl⟩
  ·have p:A.tmps.getD 27 undef = .int .i64 op:=hpre ⟨1,.data⟩ (by simp) rfl _ rfl
   go_simp
   refine (mObject _ _).mono ?_
   rintro r wo ⟨rfl,rfl⟩
   rw [HO.out]
   exact ⟨Below.refl _ _,_,rfl,rfl⟩
  ·have p:A.tmps.getD 26 undef = .agg #[.slice b1 m.cell.length c1,.slice b2 m.stack.length c2,.slice b3 m.queue.length c3,.slice b4 m.set.length c4,.slice b5 m.table.length c5]:=hpre ⟨0,.data⟩ (by simp) rfl _ rfl
   have q:A.tmps.getD 28 undef = .int .i64 5:=hpre ⟨2,.data⟩ (by simp) rfl _ rfl
   go_simp
   refine (of_any _ _ _ _ _ _ _).mono ?_
   rintro r w6 ⟨rfl,hb6⟩
   rw [HOF.out]
   exact ⟨hb6,_,rfl,rfl⟩
  ·have t1:=hag 1 (noDst (by kernel_rfl))
   have t1' : A.tmps.getD 1 undef = .int .i64 op:=t1
   clear t1
   go_simp
   exact ⟨Below.refl _ _,_,rfl,rfl⟩
  ·have t1:=hag 2 (noDst (by kernel_rfl))
   have t1' : A.tmps.getD 2 undef = .int .i64 arg:=t1
   clear t1
   go_simp
   exact ⟨Below.refl _ _,_,rfl,rfl⟩
  ·have t1:=hag 3 (noDst (by kernel_rfl))
   have t1' : A.tmps.getD 3 undef = .int .i64 data:=t1
   clear t1
   go_simp
   exact ⟨Below.refl _ _,_,rfl,rfl⟩
  ·have p0:A.tmps.getD 29 undef = .iface 94 (.slice b5 m.table.length c5):=hpre ⟨3,.data⟩ (by simp) rfl _ rfl
   have p1:A.tmps.getD 30 undef = .int .i64 op:=hpre ⟨4,.data⟩ (by simp) rfl _ rfl
   have p2:A.tmps.getD 31 undef = .int .i64 arg:=hpre ⟨5,.data⟩ (by simp) rfl _ rfl
   have p3:A.tmps.getD 32 undef = .int .i64 data:=hpre ⟨6,.data⟩ (by simp) rfl _ rfl
   have hme:=meth_table_do b5 m.table.length c5 W
   go_simp
   clear hme
   have hx:Below W5.heap.size W5 W:=(Below.refl _ _).drew.trans hR
   (with_reducible refine (CD.out _ hx).mono ?_)
   rintro r w7 ⟨v7,rfl,ho7,hb7⟩
   obtain ⟨b7,c7,rfl⟩:=ho7.form
   exact ⟨hb7,_,rfl,b7,c7,rfl,ho7⟩
  ·obtain ⟨b7,c7,p,ho7⟩:∃ b7 c7,A.tmps.getD 33 undef = .tuple #[.iface 94 (.slice b7 (doTable m.table op arg data).1.length c7),.agg #[.int .i64 (doTable m.table op arg data).2.1,.int .i64 (doTable m.table op arg data).2.2]]∧OwnE W w1.heap.size 76 eP 2 (.slice b7 (doTable m.table op arg data).1.length c7) (doTable m.table op arg data).1:=hpre ⟨7,.data⟩ (by simp) rfl _ rfl
   go_simp
   exact ⟨Below.refl _ _,_,rfl,b7,c7,rfl,ho7⟩
  ·obtain ⟨b7,c7,p,ho7⟩:∃ b7 c7,A.tmps.getD 25 undef = .tuple #[.iface 94 (.slice b7 (doTable m.table op arg data).1.length c7),.agg #[.int .i64 (doTable m.table op arg data).2.1,.int .i64 (doTable m.table op arg data).2.2]]∧OwnE W w1.heap.size 76 eP 2 (.slice b7 (doTable m.table op arg data).1.length c7) (doTable m.table op arg data).1:=hpre ⟨8,.data⟩ (by simp) rfl _ rfl
   go_simp
   exact ⟨Below.refl _ _,_,rfl,b7,c7,rfl,ho7⟩
  ·obtain ⟨b7,c7,p,ho7⟩:∃ b7 c7,A.tmps.getD 25 undef = .tuple #[.iface 94 (.slice b7 (doTable m.table op arg data).1.length c7),.agg #[.int .i64 (doTable m.table op arg data).2.1,.int .i64 (doTable m.table op arg data).2.2]]∧OwnE W w1.heap.size 76 eP 2 (.slice b7 (doTable m.table op arg data).1.length c7) (doTable m.table op arg data).1:=hpre ⟨8,.data⟩ (by simp) rfl _ rfl
   go_simp
   exact ⟨Below.refl _ _,_,rfl,rfl⟩
  ·go_simp
   exact ⟨below_box _ _,_,rfl,W.heap.size,rfl,Nat.lt_of_lt_of_le hlt5 hR.size,by simp,heap_alloc_new W _⟩
  ·obtain ⟨b7,c7,p,ho7⟩:∃ b7 c7,A.tmps.getD 34 undef = .iface 94 (.slice b7 (doTable m.table op arg data).1.length c7)∧OwnE W w1.heap.size 76 eP 2 (.slice b7 (doTable m.table op arg data).1.length c7) (doTable m.table op arg data).1:=hpre ⟨9,.data⟩ (by simp) rfl _ rfl
   go_simp
   exact ⟨Below.refl _ _,_,rfl,b7,c7,rfl,ho7⟩
 ·intro vs W hR hΦ
  obtain ⟨b7,c7,e12,g12⟩:=hΦ 12 (by omega)
  have e10:vs 10 = .agg #[.int .i64 (doTable m.table op arg data).2.1,.int .i64 (doTable m.table op arg data).2.2]:=hΦ 10 (by omega)
  obtain ⟨k,e11,hk1,hk2,hk3⟩:=hΦ 11 (by omega)
  simp only [putN,List.getElem?_toArray,List.getElem?_cons_succ,List.getElem?_cons_zero,Option.bind_some,Act.put,List.setIfInBounds_toArray,List.set_cons_succ,List.set_cons_zero,List.drop_succ_cons,List.drop_zero,e12,e10,e11]
  clear hΦ e12 e10 e11
  have hR5:Below W5.heap.size W5 W:=(Below.refl _ _).drew.trans hR
  obtain ⟨⟨x0,x1⟩,⟨f0,f1⟩⟩:=blk2 hk3
  have HK3:=Lib.hid hk3
  have HG12:=Lib.hid g12
  clear g12 hk3 CD HOF
  go_upto_region 6 with (fail)
  rw [set2 HK3.out]
  clear x0 x1 f0 f1
  have h58:Below W5.heap.size W5 (W.setRow k #[.int .i64 (doTable m.table op arg data).2.1,.int .i64 (doTable m.table op arg data).2.2]):=below_setRow' hR5 (by omega) _
  have hP8:=(h58.block _ hlt5).trans HP.out
  have ho8:=own_row_type HG12.out HK3.out (by decide) (cs':=#[.int .i64 (doTable m.table op arg data).2.1,.int .i64 (doTable m.table op arg data).2.2])
  have hT:=setRow_heap W k _ #[.int .i64 (doTable m.table op arg data).2.1,.int .i64 (doTable m.table op arg data).2.2] 42 (0,0) HK3.out
  have hkW:k<(W.setRow k #[.int .i64 (doTable m.table op arg data).2.1,.int .i64 (doTable m.table op arg data).2.2]).heap.size:=by simp [hk2]
  clear HK3 HG12 hR hR5
  generalize W.setRow k #[.int .i64 (doTable m.table op arg data).2.1,.int .i64 (doTable m.table op arg data).2.2]=W8 at *
  have hme:=meth_table_put b7 (doTable m.table op arg data).1.length c7 W8
  go_wp2_with fail
  clear hme
  refine (put_table hP8 rfl).mono ?_
  rintro r w9 ⟨rfl,hw9⟩
  have hP9:=setRow_heap W8 w4.heap.size _ #[.slice b1 m.cell.length c1,.slice b2 m.stack.length c2,.slice b3 m.queue.length c3,.slice b4 m.set.length c4,.slice b7 (doTable m.table op arg data).1.length c7] 29 (0,0) hP8
  have hT9:=(setRow_other W8 w4.heap.size k #[.slice b1 m.cell.length c1,.slice b2 m.stack.length c2,.slice b3 m.queue.length c3,.slice b4 m.set.length c4,.slice b7 (doTable m.table op arg data).1.length c7] (by omega)).trans hT
  have hb9:Below (w.heap.size+3) W1 (W8.setRow w4.heap.size #[.slice b1 m.cell.length c1,.slice b2 m.stack.length c2,.slice b3 m.queue.length c3,.slice b4 m.set.length c4,.slice b7 (doTable m.table op arg data).1.length c7]):=below_setRow' (hb5.trans (h58.mono (by omega))) (by omega) _
  have g:=G.out
  have k1:=own_row_type (g.1.ext h58) hP8 (by decide) (cs':=#[.slice b1 m.cell.length c1,.slice b2 m.stack.length c2,.slice b3 m.queue.length c3,.slice b4 m.set.length c4,.slice b7 (doTable m.table op arg data).1.length c7])
  have k2:=own_row_type (g.2.1.ext h58) hP8 (by decide) (cs':=#[.slice b1 m.cell.length c1,.slice b2 m.stack.length c2,.slice b3 m.queue.length c3,.slice b4 m.set.length c4,.slice b7 (doTable m.table op arg data).1.length c7])
  have k3:=own_row_type (g.2.2.1.ext h58) hP8 (by decide) (cs':=#[.slice b1 m.cell.length c1,.slice b2 m.stack.length c2,.slice b3 m.queue.length c3,.slice b4 m.set.length c4,.slice b7 (doTable m.table op arg data).1.length c7])
  have k4:=own_row_type (g.2.2.2.1.ext h58) hP8 (by decide) (cs':=#[.slice b1 m.cell.length c1,.slice b2 m.stack.length c2,.slice b3 m.queue.length c3,.slice b4 m.set.length c4,.slice b7 (doTable m.table op arg data).1.length c7])
  have k5:=own_row_type (g.2.2.2.2.ext h58) hP8 (by decide) (cs':=#[.slice b1 m.cell.length c1,.slice b2 m.stack.length c2,.slice b3 m.queue.length c3,.slice b4 m.set.length c4,.slice b7 (doTable m.table op arg data).1.length c7])
  have k6:=own_row_type ho8 hP8 (by decide) (cs':=#[.slice b1 m.cell.length c1,.slice b2 m.stack.length c2,.slice b3 m.queue.length c3,.slice b4 m.set.length c4,.slice b7 (doTable m.table op arg data).1.length c7])
  rw [hw9] at hP9 hT9 hb9 k1 k2 k3 k4 k5 k6
  have hs9:=hb9.size
  have hY9:=(hb9.block (w.heap.size+1) (by omega)).trans HB.out
  have hZ9:=(hb9.block (w.heap.size+2) (by omega)).trans HC.out
  have hB9:Below w.heap.size w w9:=hW.trans (hb9.mono (by omega))
  have HP9:=Lib.hid hP9
  have HT9:=Lib.hid hT9
  have HY9:=Lib.hid hY9
  have HZ9:=Lib.hid hZ9
  have HB9:=Lib.hid hB9
  have KK:=Lib.hid (⟨k1,k2,k3,k4,k6⟩:_∧_∧_∧_∧_)
  clear hw9 g k1 k2 k3 k4 k5 k6 hP8 hT ho8 h58 hP9 hT9 hY9 hZ9 hB9 G
  have e2:w.heap.size+2=w.heap.size+1+1:=rfl
  rw [e2] at HZ9
  clear e2
  go_upto_region 7 with (fail)
  have hny:w.heap.size+1≠w4.heap.size:=by omega
  have hnz:w.heap.size+1+1≠w4.heap.size:=by omega
  have hky:w.heap.size+1≠k:=by omega
  have hkz:w.heap.size+1+1≠k:=by omega
  have hyz:w.heap.size+1+1≠w.heap.size+1:=by omega
  have HZ10:=Lib.hid ((setRow_other w9 (w.heap.size+1) (w.heap.size+1+1) #[.slice b1 m.cell.length c1,.slice b2 m.stack.length c2,.slice b3 m.queue.length c3,.slice b4 m.set.length c4,.slice b7 (doTable m.table op arg data).1.length c7] hyz).trans HZ9.out)
  have HP10:=Lib.hid ((setRow_other w9 (w.heap.size+1) w4.heap.size #[.slice b1 m.cell.length c1,.slice b2 m.stack.length c2,.slice b3 m.queue.length c3,.slice b4 m.set.length c4,.slice b7 (doTable m.table op arg data).1.length c7] (Ne.symm hny)).trans HP9.out)
  have HT10:=Lib.hid ((setRow_other w9 (w.heap.size+1) k #[.slice b1 m.cell.length c1,.slice b2 m.stack.length c2,.slice b3 m.queue.length c3,.slice b4 m.set.length c4,.slice b7 (doTable m.table op arg data).1.length c7] (Ne.symm hky)).trans HT9.out)
  have HP11:=Lib.hid ((setRow_other (w9.setRow (w.heap.size+1) #[.slice b1 m.cell.length c1,.slice b2 m.stack.length c2,.slice b3 m.queue.length c3,.slice b4 m.set.length c4,.slice b7 (doTable m.table op arg data).1.length c7]) (w.heap.size+1+1) w4.heap.size #[.int .i64 (doTable m.table op arg data).2.1,.int .i64 (doTable m.table op arg data).2.2] (Ne.symm hnz)).trans HP10.out)
  have HT11:=Lib.hid ((setRow_other (w9.setRow (w.heap.size+1) #[.slice b1 m.cell.length c1,.slice b2 m.stack.length c2,.slice b3 m.queue.length c3,.slice b4 m.set.length c4,.slice b7 (doTable m.table op arg data).1.length c7]) (w.heap.size+1+1) k #[.int .i64 (doTable m.table op arg data).2.1,.int .i64 (doTable m.table op arg data).2.2] (Ne.symm hkz)).trans HT10.out)
  obtain ⟨⟨y0,y1,y2,y3,y4⟩,⟨f0,f1,f2,f3,f4⟩⟩:=blk5 HY9.out
  obtain ⟨⟨x0,x1⟩,⟨g0,g1⟩⟩:=blk2 HZ9.out
  go_region_held3 (fun wx=>(wx.cell? ⟨w4.heap.size,0,none⟩=some (.slice b1 m.cell.length c1)∧wx.cell? ⟨w4.heap.size,1,none⟩=some (.slice b2 m.stack.length c2)∧wx.cell? ⟨w4.heap.size,2,none⟩=some (.slice b3 m.queue.length c3)∧wx.cell? ⟨w4.heap.size,3,none⟩=some (.slice b4 m.set.length c4)∧wx.cell? ⟨w4.heap.size,4,none⟩=some (.slice b7 (doTable m.table op arg data).1.length c7))∧(wx.cell? ⟨k,0,none⟩=some (.int .i64 (doTable m.table op arg data).2.1)∧wx.cell? ⟨k,1,none⟩=some (.int .i64 (doTable m.table op arg data).2.2)))
   (first | (rw [set5 HY9.out,set2 HZ10.out];exact ⟨(blk5 HP11.out).1,(blk2 HT11.out).1⟩) | (rw [set5 HY9.out];exact ⟨(blk5 HP10.out).1,(blk2 HT10.out).1⟩) | (exact ⟨(blk5 HP9.out).1,(blk2 HT9.out).1⟩))
   (fail)
  clear y0 y1 y2 y3 y4 f0 f1 f2 f3 f4 x0 x1 g0 g1
  rw [set5 HY9.out,set2 HZ10.out]
  have hYF:=(setRow_other (w9.setRow (w.heap.size+1) #[.slice b1 m.cell.length c1,.slice b2 m.stack.length c2,.slice b3 m.queue.length c3,.slice b4 m.set.length c4,.slice b7 (doTable m.table op arg data).1.length c7]) (w.heap.size+1+1) (w.heap.size+1) #[.int .i64 (doTable m.table op arg data).2.1,.int .i64 (doTable m.table op arg data).2.2] (Ne.symm hyz)).trans (setRow_heap w9 (w.heap.size+1) _ #[.slice b1 m.cell.length c1,.slice b2 m.stack.length c2,.slice b3 m.queue.length c3,.slice b4 m.set.length c4,.slice b7 (doTable m.table op arg data).1.length c7] 29 (0,0) HY9.out)
  have hZF:=setRow_heap (w9.setRow (w.heap.size+1) #[.slice b1 m.cell.length c1,.slice b2 m.stack.length c2,.slice b3 m.queue.length c3,.slice b4 m.set.length c4,.slice b7 (doTable m.table op arg data).1.length c7]) (w.heap.size+1+1) _ #[.int .i64 (doTable m.table op arg data).2.1,.int .i64 (doTable m.table op arg data).2.2] 42 (0,0) HZ10.out
  have G1:=grownBy_setRow w9 (w.heap.size+1) #[.slice b1 m.cell.length c1,.slice b2 m.stack.length c2,.slice b3 m.queue.length c3,.slice b4 m.set.length c4,.slice b7 (doTable m.table op arg data).1.length c7]
  have G2:=grownBy_setRow (w9.setRow (w.heap.size+1) #[.slice b1 m.cell.length c1,.slice b2 m.stack.length c2,.slice b3 m.queue.length c3,.slice b4 m.set.length c4,.slice b7 (doTable m.table op arg data).1.length c7]) (w.heap.size+1+1) #[.int .i64 (doTable m.table op arg data).2.1,.int .i64 (doTable m.table op arg data).2.2]
  have BB:Hid (Below w.heap.size w ((w9.setRow (w.heap.size+1) #[.slice b1 m.cell.length c1,.slice b2 m.stack.length c2,.slice b3 m.queue.length c3,.slice b4 m.set.length c4,.slice b7 (doTable m.table op arg data).1.length c7]).setRow (w.heap.size+1+1) #[.int .i64 (doTable m.table op arg data).2.1,.int .i64 (doTable m.table op arg data).2.2]).drew) :=
   (below_setRow' (below_setRow' HB9.out (by omega) _) (by omega) _).drew
  have hl1:w.heap.size+1<w1.heap.size:=by omega
  have hl2:w.heap.size+1+1<w1.heap.size:=by omega
  have hl0:w.heap.size≤w1.heap.size:=by omega
  have hdr:=(Below.refl ((w9.setRow (w.heap.size+1) #[.slice b1 m.cell.length c1,.slice b2 m.stack.length c2,.slice b3 m.queue.length c3,.slice b4 m.set.length c4,.slice b7 (doTable m.table op arg data).1.length c7]).setRow (w.heap.size+1+1) #[.int .i64 (doTable m.table op arg data).2.1,.int .i64 (doTable m.table op arg data).2.2]).heap.size ((w9.setRow (w.heap.size+1) #[.slice b1 m.cell.length c1,.slice b2 m.stack.length c2,.slice b3 m.queue.length c3,.slice b4 m.set.length c4,.slice b7 (doTable m.table op arg data).1.length c7]).setRow (w.heap.size+1+1) #[.int .i64 (doTable m.table op arg data).2.1,.int .i64 (doTable m.table op arg data).2.2])).drew
  have kk:=KK.out
  have OB:Hid (OwnD ((w9.setRow (w.heap.size+1) #[.slice b1 m.cell.length c1,.slice b2 m.stack.length c2,.slice b3 m.queue.length c3,.slice b4 m.set.length c4,.slice b7 (doTable m.table op arg data).1.length c7]).setRow (w.heap.size+1+1) #[.int .i64 (doTable m.table op arg data).2.1,.int .i64 (doTable m.table op arg data).2.2]).drew w.heap.size (.agg #[.slice b1 m.cell.length c1,.slice b2 m.stack.length c2,.slice b3 m.queue.length c3,.slice b4 m.set.length c4,.slice b7 (doTable m.table op arg data).1.length c7]) { m with table:=(doTable m.table op arg data).1 }) :=
   ⟨_,_,_,_,_,rfl,(((kk.1.keep G1 hl1).keep G2 hl2).ext hdr).base hl0,(((kk.2.1.keep G1 hl1).keep G2 hl2).ext hdr).base hl0,(((kk.2.2.1.keep G1 hl1).keep G2 hl2).ext hdr).base hl0,(((kk.2.2.2.1.keep G1 hl1).keep G2 hl2).ext hdr).base hl0,(((kk.2.2.2.2.keep G1 hl1).keep G2 hl2).ext hdr).base hl0⟩
  clear G1 G2 hdr kk KK HY9 HZ9 HZ10 HP10 HT10 HP11 HT11 HB9
  obtain ⟨⟨z0,z1,z2,z3,z4⟩,_⟩:=blk5 hYF
  obtain ⟨⟨x0,x1⟩,_⟩:=blk2 hZF
  clear hYF hZF
  go_wp2
  refine bodyPost_ret (v:=.tuple #[.agg #[.slice b1 m.cell.length c1,.slice b2 m.stack.length c2,.slice b3 m.queue.length c3,.slice b4 m.set.length c4,.slice b7 (doTable m.table op arg data).1.length c7],.agg #[.int .i64 (doTable m.table op arg data).2.1,.int .i64 (doTable m.table op arg data).2.2],.int .i64 0]) ?_ rfl ⟨_,rfl,OB.out,BB.out⟩
  simp [results,Try.results25,go_sem,z0,z1,z2,z3,z4,x0,x1]
theorem objOf_six (n:Int):objOf n=0∨objOf n=1∨objOf n=2∨objOf n=3∨objOf n=4∨objOf n=5:=by
 unfold objOf
 (repeat' split) <;> simp
theorem mDo {v:Value} {m:MC} {w:World} (op arg data:Int) (h:Cont w v m) (hok:m.ok 1) (hm:mayB m=true) (ho:objOf op≠0) :
  Calls Try.prog 25 #[v,.int .i64 op,.int .i64 arg,.int .i64 data] w (RetD3 w (doM m op arg data) 0):=by
 have hr:objOf op=1∨objOf op=2∨objOf op=3∨objOf op=4∨objOf op=5:=by
  rcases objOf_six op with h | h
  ·exact absurd h ho
  ·exact h
 rcases hr with h1 | h1 | h1 | h1 | h1
 ·exact mDo_cell op arg data h hok hm h1
 ·exact mDo_stack op arg data h hok hm h1
 ·exact mDo_queue op arg data h hok hm h1
 ·exact mDo_set op arg data h hok hm h1
 ·exact mDo_table op arg data h hok hm h1
end Go.Proofs.Ytgljbdcamagdbaa
