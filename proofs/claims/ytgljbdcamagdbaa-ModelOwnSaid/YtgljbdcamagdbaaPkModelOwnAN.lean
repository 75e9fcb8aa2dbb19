/- ModelOwnSaid: what its proof is made of. No condition. -/
import Derived.Test.YtgljbdcamagdbaaPkModelOwnAM
set_option linter.unusedSimpArgs false
set_option linter.unusedVariables false
namespace Go.Proofs.Ytgljbdcamagdbaa.Z
open Go Go.RowKit
def mcA (i:Nat) (m:MC) (l:Nat:=0):List (Nat×Fm ArrF):=[(i,.one (arrOf eI 1 m.cell 0 l)),(i+1,.one (arrOf eI 1 m.stack 0 l)),(i+2,.one (arrOf eI 1 m.queue 0 l)),(i+3,.one (arrOf eI 1 m.set 0 l)),(i+4,.one (arrOf eP 2 m.table (0,0) l))]
def mcS (i:Nat):List SC:=[.xv (i,0,0),.xv (i+1,0,0),.xv (i+2,0,0),.xv (i+3,0,0),.xv (i+4,0,0)]
def mcR (m:MC) (b:Nat):List (Nat×Fm ArrF):=mcA b m
def mc0:MC:=⟨[],[],[],[],[]⟩
theorem cont_at {C:Ctx} {S:St} {E:Env} {a:Act} {w:World} (hs:Sat C.B C.W C.w0 E S a w) (i:Nat) {m:MC} {l0 l1 l2 l3 l4:Nat} (h0:look S.arrs i=some (.one (arrOf eI 1 m.cell 0 l0))) (h1:look S.arrs (i+1)=some (.one (arrOf eI 1 m.stack 0 l1))) (h2:look S.arrs (i+2)=some (.one (arrOf eI 1 m.queue 0 l2)))
  (h3:look S.arrs (i+3)=some (.one (arrOf eI 1 m.set 0 l3))) (h4:look S.arrs (i+4)=some (.one (arrOf eP 2 m.table (0,0) l4))):Cont w (.agg ((mcS i).map (SC.den E)).toArray) m:=by
 have f:∀ {α:Type} {enc:α→List Value} {s:Nat} {xs:List α} {d:α} {l:Nat} (j:Nat),look S.arrs j=some (.one (arrOf enc s xs d l))→Arr w enc s (E.χ (j,0,0)) xs:=fun {α enc s xs d l} j hj=>arr_at (d:=d) (l:=l) hs j (by simp [atN,hj,Fm.get])
 exact ⟨_,_,_,_,_,by simp [mcS,SC.den],f i h0,f (i+1) h1,f (i+2) h2,f (i+3) h3,f (i+4) h4⟩
theorem ownE_stays {α:Type} {w w' : World} {base:Nat} {e:TypeId} {enc:α→List Value} {size:Nat} {v:Value} {xs:List α} (h:OwnE w base e enc size v xs) (hb:∀ n,base≤n→n<w.heap.size→w'.heap[n]? = w.heap[n]?):OwnE w' base e enc size v xs:=by
 rcases h with h | ⟨h1,h⟩
 ·exact Or.inl h
 ·refine Or.inr ⟨h1,?_⟩
  rcases h with h | ⟨g,cap,cur,r1,r2,r3,r4⟩
  ·exact Or.inl h
  ·exact Or.inr ⟨g,cap,cur,r1,r2,(hb g r2 (Array.getElem?_eq_some_iff.1 r3).1).trans r3,r4⟩
def fiv (a b c d e:Value) (i:Nat):Value:=match i with | 0=>a | 1=>b | 2=>c | 3=>d | _=>e
theorem retB_D {w w' : World} {v:Value} {m:MC} (h:OwnD w' w.heap.size v m) (b:Nat):∃ N:Env,OneC N∧∀ E2,AgreeD (NewIds b 5) N E2→v=(SV.agg (mcS b)).den E2 ∧
  ∀ w'' : World,(∀ n,w.heap.size≤n→n<w'.heap.size→w''.heap[n]? = w'.heap[n]?)→∀ x A',atN (mcA b m) x=some A'→ArrAt E2 w'' x A':=by
 obtain ⟨v0,v1,v2,v3,v4,rfl,g0,g1,g2,g3,g4⟩:=h
 have o0:=arr_one (g0.arr eI_ok)
 have o1:=arr_one (g1.arr eI_ok)
 have o2:=arr_one (g2.arr eI_ok)
 have o3:=arr_one (g3.arr eI_ok)
 have o4:=arr_one (g4.arr eP_ok)
 refine ⟨⟨fun _=>0,fun _=>0,fun _=>false,fun x=>fiv v0 v1 v2 v3 v4 (x.1 - b)⟩,fun x=>?_,fun E2 hE=>?_⟩
 ·simp only [fiv]
  split <;> assumption
 have e0:E2.χ (b,0,0)=v0:=by have:=(hE (b,0,0) ⟨by simp,by simp⟩).2.2.2;simpa [fiv] using this
 have e1:E2.χ (b+1,0,0)=v1:=by have:=(hE (b+1,0,0) ⟨by simp,by simp⟩).2.2.2;simpa [fiv] using this
 have e2:E2.χ (b+2,0,0)=v2:=by have:=(hE (b+2,0,0) ⟨by simp,by simp⟩).2.2.2;simpa [fiv] using this
 have e3:E2.χ (b+3,0,0)=v3:=by have:=(hE (b+3,0,0) ⟨by simp,by simp⟩).2.2.2;simpa [fiv] using this
 have e4:E2.χ (b+4,0,0)=v4:=by have:=(hE (b+4,0,0) ⟨by simp,by simp⟩).2.2.2;simpa [fiv] using this
 refine ⟨by simp [mcS,SV.den,SC.den,e0,e1,e2,e3,e4],fun w'' hw'' x A hA=>?_⟩
 rcases atN_one hA with ⟨rfl,rfl⟩ | hA
 ·exact arrAt_of eI_ok (by rw [e0];exact (ownE_stays g0 hw'').arr eI_ok)
 rcases atN_one hA with ⟨rfl,rfl⟩ | hA
 ·exact arrAt_of eI_ok (by rw [e1];exact (ownE_stays g1 hw'').arr eI_ok)
 rcases atN_one hA with ⟨rfl,rfl⟩ | hA
 ·exact arrAt_of eI_ok (by rw [e2];exact (ownE_stays g2 hw'').arr eI_ok)
 rcases atN_one hA with ⟨rfl,rfl⟩ | hA
 ·exact arrAt_of eI_ok (by rw [e3];exact (ownE_stays g3 hw'').arr eI_ok)
 rcases atN_one hA with ⟨rfl,rfl⟩ | hA
 ·exact arrAt_of eP_ok (by rw [e4];exact (ownE_stays g4 hw'').arr eP_ok)
 exact (atN_nil hA).elim
theorem ownC_D' {w:World} {base:Nat} {v:Value} {m:MC} (h:OwnC w base v m):OwnD w base v m:=by
 obtain ⟨a,b,c,d,e,rfl,h1,h2,h3,h4,h5,_⟩:=h
 exact ⟨a,b,c,d,e,rfl,Or.inr h1,Or.inr h2,Or.inr h3,Or.inr h4,Or.inr h5⟩
def cT (b:Nat):SV:=.agg (mcS b)
def d3T (d:MC×Int×Int) (n:Int) (b:Nat):SV:=.tup [(true,mcS b),(true,[.v (.int .i64 d.2.1),.v (.int .i64 d.2.2)]),(false,[.v (.int .i64 n)])]
theorem do_Z {v:Value} {m:MC} {w:World} (op arg data:Int) (h:Cont w v m) (hok:m.ok 1) (hm:mayB m=true) (ho:objOf op≠0) :
  Calls Try.prog 25 #[v,.int .i64 op,.int .i64 arg,.int .i64 data] w (RetB w (fun _=>True) 5 (d3T (doM m op arg data) 0) (mcR (doM m op arg data).1)):=by
 refine (mDo op arg data h hok hm ho).mono ?_
 rintro e w' ⟨v',rfl,hown,hb⟩
 refine ⟨_,rfl,hb,fun b=>?_⟩
 obtain ⟨N,h1,h2⟩:=retB_D hown b
 refine ⟨N,h1,fun E2 hE=>?_⟩
 obtain ⟨h3,h4⟩:=h2 E2 hE
 exact ⟨by rw [h3];simp [d3T,SV.den,den1,SC.den],fun w'' _ hw''=>h4 w'' hw''⟩
theorem copy_Z {v:Value} {m:MC} {w:World} (h:Cont w v m) (hok:m.ok 0):Calls Try.prog 22 #[v] w (RetB w (fun _=>True) 5 cT (mcR m)):=by
 refine (rCopy h hok).mono ?_
 rintro e w' ⟨v',rfl,hown,hb⟩
 refine ⟨_,rfl,hb,fun b=>?_⟩
 obtain ⟨N,h1,h2⟩:=retB_D (ownC_D' hown) b
 refine ⟨N,h1,fun E2 hE=>?_⟩
 obtain ⟨h3,h4⟩:=h2 E2 hE
 exact ⟨h3,fun w'' _ hw''=>h4 w'' hw''⟩
theorem rsame_Z {v v' : Value} {m m' : MC} {w:World} (h:Cont w v m) (h' : Cont w v' m'):Calls Try.prog 21 #[v,v'] w (RetV w (.bool (decide (m=m')))):=rSame h h'
theorem may_Z {v:Value} {m:MC} {w:World} (h:Cont w v m):Calls Try.prog 18 #[v] w (RetV w (.bool (mayB m))):=mMay h
theorem rmay_Z {v:Value} {m:MC} {w:World} (h:Cont w v m):Calls Try.prog 20 #[v] w (RetV w (.bool (mayB m))):=rMay h
theorem obj_Z (op:Int) (w:World):Calls Try.prog 16 #[.int .i64 op] w (RetV w (.int .i64 (objOf op))):=by
 refine (mObject op w).mono ?_
 rintro e w' ⟨rfl,rfl⟩
 exact ⟨rfl,Below.refl _ _⟩
theorem cr_valN {C:Ctx} {S:St} {f:Nat} {vs:List SV} (tmpl:SV) (ks:List Nat) (hok:tmpl.okN (·∈ks)) (hc:∀ E a w,Sat C.B C.W C.w0 E S a w→Calls C.P f (vs.map (SV.den E)).toArray w fun e w'=>e = .returned (tmpl.den E)∧Below w.heap.size w w'):CR C f vs S ks tmpl 0 [] []:=by
 intro E a w hs
 refine (hc E a w hs).mono ?_
 rintro e w' ⟨rfl,hb⟩
 exact ⟨_,rfl,E,hs.one,fun E2 _ hk _=>⟨(den_same (p:=(·∈ks)) (fun x hx=>hk x hx) hok).symm,Fits.G ⟨fun H _=>effOk_below hb,fun _ _ x A h=>by simp [atN,look] at h⟩⟩⟩
def RdN (C:Ctx) (S:St) (c:SC) (A:ArrF):Prop:=∀ E a w',SatA C.B C.W C.w0 E S a w'→(c.den E).oneCell' = true ∧
 ∀ w'' : World,(∀ n,C.B≤n→n<w'.heap.size→w''.heap[n]? = w'.heap[n]?)→∀ (E2:Env) (x:Nm),E2.χ x=c.den E→ArrAt E2 w'' x A
theorem rdN_nil {C:Ctx} {S:St} {α:Type} {enc:α→List Value} {s:Nat} {d:α}:RdN C S (.v (.slice none 0 0)) (arrOf enc s [] d):=fun E a w' hs =>
 ⟨by simp [SC.den,Value.oneCell'],fun w'' _ E2 x hx=>⟨none,0,by rw [hx];simp [SC.den,arrOf],Nat.le_refl _,by simp [maxLen],Or.inl rfl⟩⟩
theorem rdN_lo {C:Ctx} {S:St} {α:Type} {enc:α→List Value} {s:Nat} {xs:List α} {d:α} {l:Nat} (i:Nat) (hi:look S.arrs i=some (.one (arrOf enc s xs d l))) (hl:C.B≤l):RdN C S (.xv (i,0,0)) (arrOf enc s xs d):=fun E a w' hs=>by
 obtain ⟨ba,cap,h1,h2,h3,h4⟩:=(holds_of hs.sat).1 (i,0,0) (arrOf enc s xs d l) (by simp [atN,hi,Fm.get])
 refine ⟨by rw [den_xv,h1];rfl,fun w'' hw'' E2 x hx=>?_⟩
 rw [den_xv] at hx
 refine ⟨ba,cap,hx.trans h1,h2,h3,?_⟩
 rcases h4 with h4 | ⟨b,off,h5,h7,h6⟩
 ·exact Or.inl h4
 ·refine Or.inr ⟨b,off,h5,Nat.zero_le _,fun k hk=>⟨(h6 k hk).1,fun j u hu=>?_⟩⟩
  have:=(h6 k hk).2 j u hu
  simp only [arrOf,List.getElem?_map,Option.map_eq_some_iff] at hu
  obtain ⟨u',_,rfl⟩:=hu
  rw [den_v] at this ⊢
  refine ⟨?_,this.2⟩
  have hc:=this.1
  have hlt:b<w'.heap.size:=by
   unfold World.cell? at hc
   cases hh:w'.heap[b]? with
   | none=>rw [hh] at hc;simp at hc
   | some o=>exact (Array.getElem?_eq_some_iff.1 hh).1
  have hge:C.B≤b:=Nat.le_trans hl h7
  unfold World.cell? at hc ⊢
  simp only at hc ⊢
  rw [hw'' b hge hlt]
  exact hc
theorem mcR_sz (m:MC) (b:Nat):∀ x A',atN (mcR m b) x=some A'→0<A'.size:=fun x A' hx=>by
 simp only [mcR,mcA] at hx
 rcases atN_one hx with ⟨_,rfl⟩ | hx
 ·exact Nat.one_pos
 rcases atN_one hx with ⟨_,rfl⟩ | hx
 ·exact Nat.one_pos
 rcases atN_one hx with ⟨_,rfl⟩ | hx
 ·exact Nat.one_pos
 rcases atN_one hx with ⟨_,rfl⟩ | hx
 ·exact Nat.one_pos
 rcases atN_one hx with ⟨_,rfl⟩ | hx
 ·exact Nat.two_pos
 exact (atN_nil hx).elim
theorem low_mcR (l b:Nat) (m:MC):lowL l (mcR m b)=mcA b m l:=rfl
theorem retB5 {P:Program} {A:List Nat} {w:World} {rs:List RS} {Pre:World→Prop} {S:St} {m:MC} {T:Nat→SV} {v:SV} (c0 c1 c2 c3 c4:SC)
  (h0:RdN (mkC P A w rs (RetB w Pre 5 T (mcR m))) S c0 (arrOf eI 1 m.cell 0)) (h1:RdN (mkC P A w rs (RetB w Pre 5 T (mcR m))) S c1 (arrOf eI 1 m.stack 0)) (h2:RdN (mkC P A w rs (RetB w Pre 5 T (mcR m))) S c2 (arrOf eI 1 m.queue 0))
  (h3:RdN (mkC P A w rs (RetB w Pre 5 T (mcR m))) S c3 (arrOf eI 1 m.set 0)) (h4:RdN (mkC P A w rs (RetB w Pre 5 T (mcR m))) S c4 (arrOf eP 2 m.table (0,0)))
  (hT:∀ b (E E2:Env),E2.χ (b,0,0)=c0.den E→E2.χ (b+1,0,0)=c1.den E→E2.χ (b+2,0,0)=c2.den E→E2.χ (b+3,0,0)=c3.den E→E2.χ (b+4,0,0)=c4.den E→v.den E=(T b).den E2) :
  RetVC (mkC P A w rs (RetB w Pre 5 T (mcR m))) v S:=by
 intro E a w' hs
 obtain ⟨o0,r0⟩:=h0 E a w' hs
 obtain ⟨o1,r1⟩:=h1 E a w' hs
 obtain ⟨o2,r2⟩:=h2 E a w' hs
 obtain ⟨o3,r3⟩:=h3 E a w' hs
 obtain ⟨o4,r4⟩:=h4 E a w' hs
 refine ⟨_,rfl,below_of hs.sat,fun b=>⟨⟨fun _=>0,fun _=>0,fun _=>false,fun x=>fiv (c0.den E) (c1.den E) (c2.den E) (c3.den E) (c4.den E) (x.1 - b)⟩,fun x=>?_,fun E2 hE=>?_⟩⟩
 ·simp only [fiv]
  split <;> assumption
 have e0:E2.χ (b,0,0)=c0.den E:=by have:=(hE (b,0,0) ⟨by simp,by simp⟩).2.2.2;simpa [fiv] using this
 have e1:E2.χ (b+1,0,0)=c1.den E:=by have:=(hE (b+1,0,0) ⟨by simp,by simp⟩).2.2.2;simpa [fiv] using this
 have e2:E2.χ (b+2,0,0)=c2.den E:=by have:=(hE (b+2,0,0) ⟨by simp,by simp⟩).2.2.2;simpa [fiv] using this
 have e3:E2.χ (b+3,0,0)=c3.den E:=by have:=(hE (b+3,0,0) ⟨by simp,by simp⟩).2.2.2;simpa [fiv] using this
 have e4:E2.χ (b+4,0,0)=c4.den E:=by have:=(hE (b+4,0,0) ⟨by simp,by simp⟩).2.2.2;simpa [fiv] using this
 refine ⟨hT b E E2 e0 e1 e2 e3 e4,fun w'' _ hw'' x A hA=>?_⟩
 rcases atN_one hA with ⟨rfl,rfl⟩ | hA
 ·exact r0 w'' hw'' E2 _ e0
 rcases atN_one hA with ⟨rfl,rfl⟩ | hA
 ·exact r1 w'' hw'' E2 _ e1
 rcases atN_one hA with ⟨rfl,rfl⟩ | hA
 ·exact r2 w'' hw'' E2 _ e2
 rcases atN_one hA with ⟨rfl,rfl⟩ | hA
 ·exact r3 w'' hw'' E2 _ e3
 rcases atN_one hA with ⟨rfl,rfl⟩ | hA
 ·exact r4 w'' hw'' E2 _ e4
 exact (atN_nil hA).elim
end Go.Proofs.Ytgljbdcamagdbaa.Z
namespace Go.Proofs.Ytgljbdcamagdbaa
open Go.RowKit
@[go_sem] theorem as_cell_cell (v:Value) (w:World):(Instr.typeAssert (.iface 90 v) 79 90 true).run Try.prog w = .ok (.tuple #[v,.bool true]) w:=by kernel_rfl
@[go_sem] theorem as_cell_stack (v:Value) (w:World):(Instr.typeAssert (.iface 90 v) 79 91 true).run Try.prog w = .ok (.tuple #[.slice none 0 0,.bool false]) w:=by kernel_rfl
@[go_sem] theorem as_cell_queue (v:Value) (w:World):(Instr.typeAssert (.iface 90 v) 79 92 true).run Try.prog w = .ok (.tuple #[.slice none 0 0,.bool false]) w:=by kernel_rfl
@[go_sem] theorem as_stack_cell (v:Value) (w:World):(Instr.typeAssert (.iface 91 v) 79 90 true).run Try.prog w = .ok (.tuple #[.slice none 0 0,.bool false]) w:=by kernel_rfl
@[go_sem] theorem as_stack_stack (v:Value) (w:World):(Instr.typeAssert (.iface 91 v) 79 91 true).run Try.prog w = .ok (.tuple #[v,.bool true]) w:=by kernel_rfl
@[go_sem] theorem as_stack_queue (v:Value) (w:World):(Instr.typeAssert (.iface 91 v) 79 92 true).run Try.prog w = .ok (.tuple #[.slice none 0 0,.bool false]) w:=by kernel_rfl
@[go_sem] theorem as_queue_cell (v:Value) (w:World):(Instr.typeAssert (.iface 92 v) 79 90 true).run Try.prog w = .ok (.tuple #[.slice none 0 0,.bool false]) w:=by kernel_rfl
@[go_sem] theorem as_queue_stack (v:Value) (w:World):(Instr.typeAssert (.iface 92 v) 79 91 true).run Try.prog w = .ok (.tuple #[.slice none 0 0,.bool false]) w:=by kernel_rfl
@[go_sem] theorem as_queue_queue (v:Value) (w:World):(Instr.typeAssert (.iface 92 v) 79 92 true).run Try.prog w = .ok (.tuple #[v,.bool true]) w:=by kernel_rfl
@[go_sem] theorem as_set_cell (v:Value) (w:World):(Instr.typeAssert (.iface 93 v) 79 90 true).run Try.prog w = .ok (.tuple #[.slice none 0 0,.bool false]) w:=by kernel_rfl
@[go_sem] theorem as_set_stack (v:Value) (w:World):(Instr.typeAssert (.iface 93 v) 79 91 true).run Try.prog w = .ok (.tuple #[.slice none 0 0,.bool false]) w:=by kernel_rfl
@[go_sem] theorem as_set_queue (v:Value) (w:World):(Instr.typeAssert (.iface 93 v) 79 92 true).run Try.prog w = .ok (.tuple #[.slice none 0 0,.bool false]) w:=by kernel_rfl
@[go_sem] theorem as_set_keyed (v:Value) (w:World):(Instr.typeAssert (.iface 93 v) 79 97 true).run Try.prog w = .ok (.tuple #[.iface 93 v,.bool true]) w:=by kernel_rfl
@[go_sem] theorem as_table_cell (v:Value) (w:World):(Instr.typeAssert (.iface 94 v) 79 90 true).run Try.prog w = .ok (.tuple #[.slice none 0 0,.bool false]) w:=by kernel_rfl
@[go_sem] theorem as_table_stack (v:Value) (w:World):(Instr.typeAssert (.iface 94 v) 79 91 true).run Try.prog w = .ok (.tuple #[.slice none 0 0,.bool false]) w:=by kernel_rfl
@[go_sem] theorem as_table_queue (v:Value) (w:World):(Instr.typeAssert (.iface 94 v) 79 92 true).run Try.prog w = .ok (.tuple #[.slice none 0 0,.bool false]) w:=by kernel_rfl
@[go_sem] theorem as_table_keyed (v:Value) (w:World):(Instr.typeAssert (.iface 94 v) 79 97 true).run Try.prog w = .ok (.tuple #[.iface 94 v,.bool true]) w:=by kernel_rfl
set_option maxRecDepth 100000 in
set_option maxHeartbeats 1000000 in
theorem full_stack (ba:Option Addr) (n cp:Nat) (op:Int) (w:World):Calls Try.prog 46 #[.iface 91 (.slice ba n cp),.int .i64 op] w fun r w'=>r = .returned (.bool (op == 30))∧Below w.heap.size w w':=by
 go_enter Try.func46,Try.ntmps46
 go_wp2
 all_goals go_ret
 all_goals refine ⟨?_,Below.refl _ _⟩
 all_goals simp_all
end Go.Proofs.Ytgljbdcamagdbaa
namespace Go.Proofs.Ytgljbdcamagdbaa.Z
open Go Go.RowKit
attribute [go_sem] ex_nil ex_skip ex_ops ex_draw ex_seq ex_cond ex_blk ex_loop ex_exit ex_ret ex_mark ex_kill ex_pop ex_onil ex_op ex_opg thenS stepOut St.ev look setL mergeL dropL memB atN pkN setN Fm.get Fm.pk Fm.set St.app St.putT St.skipT St.setB St.kill St.call St.setA St.resS specS specO specC chain chainP inCh resV rsvP resT slot1 slotL pureSlots St.evW resA1 resAP resA gB specD specDO recG pure1 pureO SV.cells SC.one allOne fillP put take' drop' len' nth binI eqCells SC.bool? SC.nil? neg? evs evC popTo resL resP resSV oneSV finS retS dr_nil thenD recOf skipR wrOk wrFree wkImp St.weak thenW recW fimp_mpe newOk outOk St.appN St.hid St.only keepK useO idX idC tchs keyss Rec.tch keysL ltAll enumT slSrc slB slM SV.int? segs keyOf intsOf Value.oneCell' and_self and_true true_and and_false false_and not_true_eq_false not_false_eq_true List.map_cons List.map_nil List.cons_append List.nil_append List.append_nil Option.bind_some Option.bind_none Bool.true_and Bool.and_true Bool.false_and Bool.and_false Bool.not_true Bool.not_false Bool.not_not Bool.true_beq Bool.false_beq Bool.bne_true Bool.bne_false Bool.true_bne Bool.false_bne Option.map_some Option.map_none beq_self_eq_true bne_self_eq_false Bool.false_eq_true Bool.true_eq_false Nat.zero_add Nat.add_zero forall_const implies_true true_implies false_implies Int.cast_ofNat_Int Int.natCast_nonneg Int.ofNat_lt Int.toNat_natCast mkC_rs decide_true decide_false List.length_cons List.length_nil Prod.mk.injEq Option.some.injEq arrOf_len arrOf_size arrOf_at wr_lit wr_litu Nat.sub_zero ex_back mkI_rs
attribute [go_sem ↓] condS exitS gateS runOp gateD altC runD imp_ft imp_tf imp_tt imp_ff imp_fn imp_tn imp_fy imp_ty
end Go.Proofs.Ytgljbdcamagdbaa.Z
namespace Go.Proofs.Ytgljbdcamagdbaa.Z
open Go Go.RowKit
section
variable {P:Program} {T:TT} {B:Nat} {W:Nat→Prop} {w0:World} {E:Env} {S:St} {a:Act} {w w1:World}
theorem fits_put {b b' : Blk} {y:Nm} {p:Prop} (hy:pkN S.own y=some (p,b)) (hp:p) (h0:w1.os=w.os∧w1.tape=w.tape∧w1.output=w.output) (hsz:w.heap.size≤w1.heap.size)
  (h:∀ H,HeapOk B W E S.own H w→∃ h',b'.den E y h'∧(∀ n,n<w.heap.size→H y n=none→w1.heap[n]? = w.heap[n]?)∧∀ n o,h' n=some o→w1.heap[n]? = some o∧(w.heap.size≤n∨H y n≠none)):Fits B W E S w w1 (setN S.own y b') []:=by
 refine ⟨fun H hH=>?_,fun _ _ x A h=>by simp [atN,look] at h⟩
 have hat:=pkN_at hy hp
 obtain ⟨h',hb,hk,hs⟩:=h H hH
 have hother:∀ x c,x≠y→atN S.own x=some c→∀ n o,H x n=some o→w1.heap[n]? = some o∧H y n=none∧n<w.heap.size:=by
  intro x c hne hx n o hn
  have h1:=(hH.sub x c hx n o hn).1
  have hlt:=hH.lt hx hn
  have hyn:H y n=none:=by
   rcases hH.disj y x b c hat hx (Ne.symm hne) n with h | h
   ·exact h
   ·rw [h] at hn;cases hn
  exact ⟨by rw [hk n hlt hyn];exact h1,hyn,hlt⟩
 have hget:∀ x c,atN (setN S.own y b') x=some c→(x=y∧c=b')∨(x≠y∧x.1=y.1∧atN S.own x=some c):=by
  intro x c hc
  rw [atN_setN hy hp] at hc
  split at hc
  ·next e1 =>
   split at hc
   ·next e2=>cases hc;exact Or.inl ⟨e2,rfl⟩
   ·next e2=>exact Or.inr ⟨e2,e1,hc⟩
  ·cases hc
 have key:∀ z d,z≠y→atN S.own z=some d→∀ n,h' n=none∨H z n=none:=by
  intro z d hz hd n
  cases e1:h' n with
  | none=>exact Or.inl rfl
  | some o =>
   right
   cases e2:H z n with
   | none=>rfl
   | some o' =>
    obtain ⟨_,h3,h4⟩:=hother z d hz hd n o' e2
    rcases (hs n o e1).2 with h5 | h5
    ·omega
    ·exact absurd h3 h5
 refine ⟨h0.1,h0.2.1,h0.2.2,hsz,fun n hn h=>hk n hn (h y b ((setN_look hy b' y.1).2 rfl) hat),fun x=>if x=y then h' else H x,?_,?_,?_⟩
 ·intro x c hc
  rcases hget x c hc with ⟨rfl,rfl⟩ | ⟨e1,e2,h⟩
  ·simpa using hb
  ·simp only [e1,if_false];exact hH.den x c h
 ·intro x z c d hc hd hne n
  rcases hget x c hc with ⟨rfl,rfl⟩ | ⟨e1,e2,h⟩
  ·rcases hget z d hd with ⟨rfl,rfl⟩ | ⟨f1,f2,h2⟩
   ·exact absurd rfl hne
   ·simp only [f1,if_true,if_false];exact key z d f1 h2 n
  ·rcases hget z d hd with ⟨rfl,rfl⟩ | ⟨f1,f2,h2⟩
   ·simp only [e1,if_true,if_false];exact (key x c e1 ‹_› n).symm
   ·simp only [e1,f1,if_false];exact hH.disj x z c d h h2 hne n
 ·intro x c hc n o hn
  rcases hget x c hc with ⟨rfl,rfl⟩ | ⟨e1,e2,h⟩
  ·simp only [if_true] at hn
   obtain ⟨g1,g2⟩:=hs n o hn
   exact ⟨g1,g2.imp id fun h=>⟨x,b,(setN_look hy c x.1).2 rfl,hat,h⟩⟩
  ·simp only [e1,if_false] at hn
   obtain ⟨g1,g2,g3⟩:=hother x c e1 h n o hn
   exact ⟨g1,Or.inr ⟨x,c,(setN_look hy b' x.1).2 e2,h,by rw [hn];simp⟩⟩
def KeepP (y z:Nm) (k s:Nat) (f:Nat→List SC) (t L:Nat) (E:Env) (h:PH):Prop :=
  k≤L ∧
  ((∃ F:Nat→List SC,(∀ e,e<k→F e=f e)∧E.χ z=(SC.sl y s 0 L none).den E∧(Blk.ar L s F t).den E y h) ∨
   (∃ (b cap:Nat) (cells:Array Value) (t' : Nat) (h1:PH) (F:Nat→List SC),E.χ z = .slice (some ⟨b,0,none⟩) L cap∧(Blk.ar k s f t).den E y h1∧h1 b=none∧L≤cap∧cap≤maxLen∧cells.size=cap * s∧ArCells E L s F cells∧h=fun n=>if n=b then some (.cells cells t' (0,0)) else h1 n) ∨
   (L=0∧E.κ y=0∧(Blk.ar k s f t).den E y h∧∃ ba,E.χ z = .slice ba 0 0))
theorem ar_weak {y:Nm} {L k s t:Nat} {F f:Nat→List SC} {h:PH} (hd:(Blk.ar L s F t).den E y h) (hk:k≤L) (hf:∀ e,e<k→F e=f e):(Blk.ar k s f t).den E y h:=by
 simp only [Blk.den] at hd ⊢
 rcases hd with ⟨_,h1,h2,h3⟩ | ⟨h1,h2,h3,cells,h4,h5,h6⟩
 ·exact Or.inl ⟨trivial,h1,by omega,h3⟩
 ·refine Or.inr ⟨h1,⟨by omega,h2.2⟩,h3,cells,h4,h5,fun e he=>?_⟩
  rw [← hf e he]
  exact h6 e (by omega)
theorem room_cells {n m k s:Nat} {f g:Nat→List SC} {cells:Array Value} {xv:Value} (g2:cells.size=k * s) (hroom:n+m≤k) (g3:ArCells E n s f cells) (rd:RdAt E w xv s m g) :
  (cells.toList.take (n * s)++cellsOf E m g++cells.toList.drop (n * s+(cellsOf E m g).length)).toArray.size=k * s ∧
  ArCells E (n+m) s (appAt n f g) (cells.toList.take (n * s)++cellsOf E m g++cells.toList.drop (n * s+(cellsOf E m g).length)).toArray:=by
 have hlen:(cellsOf E m g).length=m * s:=cellsOf_len rd.lens
 have hle:(n+m) * s≤k * s:=Nat.mul_le_mul_right _ hroom
 rw [Nat.add_mul] at hle
 refine ⟨?_,?_⟩
 ·simp only [List.size_toArray,List.length_append,List.length_take,List.length_drop,Array.length_toList,hlen]
  omega
 ·have hfl:∀ e,e<n→(f e).length=s:=fun e he=>(g3 e (by omega)).1
  have hcl:=cellsOf_len (E:=E) hfl
  refine arCells_of (appAt_len hfl rd.lens) (fun r hr j c hc=>?_) (fun r c hc=>?_)
  ·unfold appAt at hc
   split at hc
   ·next h=>exact ((g3 r (by omega)).2 j c hc).2
   ·exact rd.one _ (by omega) j c hc
  ·rw [cellsOf_app] at hc
   have hlt:=(List.getElem?_eq_some_iff.1 hc).1
   rw [List.length_append,hcl,hlen] at hlt
   simp only [List.getElem?_toArray]
   rw [List.getElem?_append_left (by simp only [List.length_append,List.length_take,Array.length_toList,hlen];omega)]
   by_cases hr:r<n * s
   ·rw [List.getElem?_append_left (by rw [hcl];exact hr)] at hc
    obtain ⟨e1,j,c1,he1,hj,rfl,hc1,rfl⟩:=cellsOf_inv hfl hc
    rw [List.getElem?_append_left (by simp only [List.length_take,Array.length_toList];omega),List.getElem?_take,if_pos hr,Array.getElem?_toList]
    exact ((g3 e1 (by omega)).2 j c1 hc1).1
   ·rw [List.getElem?_append_right (by rw [hcl];omega),hcl] at hc
    rw [List.getElem?_append_right (by simp only [List.length_take,Array.length_toList];omega)]
    simp only [List.length_take,Array.length_toList]
    rw [Nat.min_eq_left (by omega)]
    exact hc
theorem rd_cells {b n s t cap:Nat} {f:Nat→List SC} {cells:Array Value} (hb:w.heap[b]? = some (.cells cells t (0,0))) (hc:ArCells E n s f cells):RdAt E w (.slice (some ⟨b,0,none⟩) n cap) s n f:=by
 refine ⟨_,_,rfl,Or.inr ⟨b,0,rfl,fun e he=>⟨(hc e he).1,fun j u hu=>?_⟩⟩⟩
 rw [Nat.zero_add,cell_of_row w _ _ _ _ (0,0) hb]
 exact (hc e he).2 j u hu
theorem keep_run {t u ty e e' : Nat} {i:TypeInfo} {zv xv:Value} {y z:Nm} {k L m ty0:Nat} {f g:Nat→List SC} {own:Own} {H:Nm→PH} {z' : Nm} (hut:P.underlying t=some (.slice e)) (huu:P.underlying u=some (.slice e')) (hi:P.info? e=some i) (hz:i.zero=some zv) (hzc:zv.cells.size=i.size)
  (hH:HeapOk B W E own H w) (hat:atN own y=some (.pr (KeepP y z k i.size f ty0 L))) (rd:RdAt E w xv i.size m g) (hm:0<m) (hb:(L+m+(L+m) / 4+192) * i.bytes≤281474976710656) (hml:L+m≤maxLen) :
  ∃ v2 w2,(Builtin.append_ #[t,u] ty #[E.χ z,xv]).run P w = .ok v2 w2∧v2.oneCell' = true∧(w2.os=w.os∧w2.tape=w.tape∧w2.output=w.output)∧w.heap.size≤w2.heap.size ∧
   (E.χ z' = v2→∃ h',KeepP y z' k i.size f ty0 (L+m) E h'∧(∀ n,n<w.heap.size→H y n=none→w2.heap[n]? = w.heap[n]?)∧∀ n o,h' n=some o→w2.heap[n]? = some o∧(w.heap.size≤n∨H y n≠none)):=by
 have hden:=hH.den _ _ hat
 simp only [Blk.den] at hden
 obtain ⟨hkL,hden⟩:=hden
 have hsub:=hH.sub _ _ hat
 have hlt:∀ n o,H y n=some o→n<w.heap.size:=fun n o hn=>hH.lt hat hn
 have hnew:H y w.heap.size=none:=by
  cases hq:H y w.heap.size with
  | none=>rfl
  | some o=>exact absurd (hlt _ o hq) (Nat.lt_irrefl _)
 -- a new block
 have grow:∀ (cap:Nat) (ba:Option Addr) (F:Nat→List SC),E.χ z = .slice ba L cap→RdAt E w (.slice ba L cap) i.size L F→cap<L+m→(∃ h1:PH,(Blk.ar k i.size f ty0).den E y h1∧∀ n o,h1 n=some o→H y n=some o) →
   ∃ v2 w2,(Builtin.append_ #[t,u] ty #[E.χ z,xv]).run P w = .ok v2 w2∧v2.oneCell' = true∧(w2.os=w.os∧w2.tape=w.tape∧w2.output=w.output)∧w.heap.size≤w2.heap.size ∧
   (E.χ z' = v2→∃ h',KeepP y z' k i.size f ty0 (L+m) E h'∧(∀ n,n<w.heap.size→H y n=none→w2.heap[n]? = w.heap[n]?)∧∀ n o,h' n=some o→w2.heap[n]? = some o∧(w.heap.size≤n∨H y n≠none)):=by
  rintro cap ba F hχ hr hroom ⟨h1,hd1,hs1⟩
  obtain ⟨cells,hrun,hcs,hat2⟩:=app_grow (E:=E) (w:=w) (ty:=ty) (u:=u) hut huu hi hz hr rd (by omega) (Or.inl hb) hml
  rw [← hχ] at hrun
  have hge:=grownCap_ge w (L+m) cap e
  have hcm:=grownCap_le_maxLen w (L+m) cap e (by omega)
  have hh:∀ n,n<w.heap.size→(w.drew.alloc (.cells cells e)).heap[n]? = w.heap[n]?:=fun n hn=>Below.heap_alloc w.drew _ _ hn
  have hl1:∀ n o,h1 n=some o→n<w.heap.size:=fun n o hn=>hlt n o (hs1 n o hn)
  refine ⟨_,_,hrun,rfl,⟨rfl,rfl,rfl⟩,by simp,fun hz'=>⟨fun n=>if n=w.heap.size then some (.cells cells e (0,0)) else h1 n,⟨by omega,Or.inr (Or.inl ⟨w.heap.size,_,cells,e,h1,appAt L F g,hz',hd1,?_,hge,hcm,hcs hzc,hat2,rfl⟩)⟩,fun n hn _=>hh n hn,fun n o hn=>?_⟩⟩
  ·cases hq:h1 w.heap.size with
   | none=>rfl
   | some o=>exact absurd (hl1 _ o hq) (Nat.lt_irrefl _)
  ·simp only at hn
   split at hn
   ·next e1 =>
    subst e1
    cases hn
    exact ⟨heap_alloc_new w.drew _,Or.inl (Nat.le_refl _)⟩
   ·have h2:=hs1 n o hn
    refine ⟨?_,Or.inr (by rw [h2];simp)⟩
    rw [hh n (hlt n o h2)]
    exact (hsub n o h2).1
 rcases hden with ⟨F,hF,hχ,hd⟩ | ⟨b,cap,cells,t',h1,F,hχ,hd,hb1,hLc,hcm,hsz,hcells,hh⟩ | ⟨hL0,_,hd,ba,hχ⟩
 ·have hw:(Blk.ar k i.size f ty0).den E y (H y):=ar_weak hd hkL hF
  rw [den_sl] at hχ
  simp only [Nat.zero_mul,Option.getD_none,Nat.sub_zero] at hχ
  simp only [Blk.den] at hd
  rcases hd with ⟨_,g1,g2,g3⟩ | ⟨hν,⟨g1,g1'⟩,g2,cells,g3,g4,g5⟩
  ·refine grow _ _ F hχ ⟨_,_,rfl,Or.inl g2⟩ (by omega) ⟨_,hw,fun _ _ h=>h⟩
  ·have hb0:w.heap[E.ρ y]? = some (.cells cells ty0 (0,0)):=(hsub (E.ρ y) _ (by rw [g3];simp [sing])).1
   rw [hν] at hχ
   simp only [Bool.false_eq_true,if_false] at hχ
   by_cases hroom:L+m≤E.κ y
   ·have hrun:=app_room (E:=E) (ty:=ty) hut huu hi hb0 g4 rd hroom
    obtain ⟨q1,q2⟩:=room_cells g4 hroom g5 rd
    generalize (cells.toList.take (L * i.size)++cellsOf E m g++cells.toList.drop (L * i.size+(cellsOf E m g).length)).toArray=cn at hrun q1 q2
    rw [← hχ] at hrun
    refine ⟨_,_,hrun,rfl,⟨rfl,rfl,rfl⟩,by simp [World.setRow],fun hz'=>⟨sing (E.ρ y) (.cells cn ty0 (0,0)),⟨by omega,Or.inl ⟨appAt L F g,fun e he=>?_,?_,?_⟩⟩,fun n hn hyn=>?_,fun n o hn=>?_⟩⟩
    ·simp only [appAt,if_pos (show e<L by omega)];exact hF e he
    ·rw [hz',den_sl,hν];simp
    ·simp only [Blk.den];exact Or.inr ⟨hν,⟨by omega,g1'⟩,g2,_,rfl,q1,q2⟩
    ·refine setRow_other _ _ _ _ fun e2=>?_
     rw [g3,e2] at hyn
     simp [sing] at hyn
    ·obtain ⟨rfl,rfl⟩:=sing_some hn
     exact ⟨setRow_heap w _ _ _ _ _ hb0,Or.inr (by rw [g3];simp [sing])⟩
   ·exact grow _ _ F hχ (rd_cells hb0 g5) (by omega) ⟨_,hw,fun _ _ h=>h⟩
 ·have hyb:H y b=some (.cells cells t' (0,0)):=by rw [hh];simp
  have hb0:=(hsub b _ hyb).1
  have h1s:∀ n o,h1 n=some o→n≠b∧H y n=some o:=fun n o hn=>by
   have hne:n≠b:=fun e=>by subst e;rw [hb1] at hn;cases hn
   refine ⟨hne,?_⟩
   rw [hh]
   simp only [if_neg hne]
   exact hn
  by_cases hroom:L+m≤cap
  ·have hrun:=app_room (E:=E) (ty:=ty) hut huu hi hb0 hsz rd hroom
   obtain ⟨q1,q2⟩:=room_cells hsz hroom hcells rd
   generalize (cells.toList.take (L * i.size)++cellsOf E m g++cells.toList.drop (L * i.size+(cellsOf E m g).length)).toArray=cn at hrun q1 q2
   rw [← hχ] at hrun
   refine ⟨_,_,hrun,rfl,⟨rfl,rfl,rfl⟩,by simp [World.setRow],fun hz'=>⟨fun n=>if n=b then some (.cells cn t' (0,0)) else h1 n,⟨by omega,Or.inr (Or.inl ⟨b,cap,cn,t',h1,appAt L F g,hz',hd,hb1,hroom,hcm,q1,q2,rfl⟩)⟩,fun n hn hyn=>?_,fun n o hn=>?_⟩⟩
   ·refine setRow_other _ _ _ _ fun e2=>?_
    rw [e2,hyb] at hyn
    cases hyn
   ·simp only at hn
    split at hn
    ·next e1 =>
     subst e1
     cases hn
     exact ⟨setRow_heap w _ _ _ _ _ hb0,Or.inr (by rw [hyb];simp)⟩
    ·obtain ⟨p1,p2⟩:=h1s n o hn
     exact ⟨by rw [setRow_other _ _ _ _ p1];exact (hsub n o p2).1,Or.inr (by rw [p2];simp)⟩
  ·exact grow _ _ F hχ (rd_cells hb0 hcells) (by omega) ⟨h1,hd,fun n o hn=>(h1s n o hn).2⟩
 ·subst hL0
  exact grow 0 ba f hχ ⟨_,_,rfl,Or.inl rfl⟩ (by omega) ⟨_,hd,fun _ _ h=>h⟩
theorem compOp_app {op:Op} {t size bytes:Nat} {z0:List SC} {is ix:IX} {iop:IOp} (hc:compOp T op=some iop) (hi:iop = .app t size bytes z0 is ix) :
  ∃ c s x t' u ti tu e' te,op = .call c∧c.callee = .builtin .append∧c.args.toList=[s,x]∧c.argTypes.toList=[t',u]∧look T t' = some ti∧look T u=some tu∧ti.desc = .slice t∧tu.desc = .slice e'∧look T t=some te∧opd s=some is∧opd x=some ix ∧
   size=te.size∧bytes=te.bytes∧z0=scs te.zero.cells:=by
 cases op
 case call c =>
  simp only [compOp] at hc
  split at hc
  case h_5 hcl =>
   split at hc
   ·next s x t' u hxs hts =>
    simp only [Option.bind_eq_some_iff] at hc
    obtain ⟨ti,hti,tu,htu,hc⟩:=hc
    split at hc
    ·next e e' he he' =>
     simp only [Option.bind_eq_some_iff,Option.map_eq_some_iff] at hc
     obtain ⟨te,hte,is',his,ix',hx,hc⟩:=hc
     subst hc
     cases hi
     exact ⟨c,s,x,t',u,ti,tu,e',te,rfl,hcl,hxs,hts,hti,htu,he,he',hte,his,hx,rfl,rfl,rfl⟩
    ·cases hc
   ·cases hc
  all_goals
   exfalso
   try (repeat' (first | (split at hc) | (simp only [Option.bind_eq_some_iff,Option.map_eq_some_iff] at hc) | (obtain ⟨_,_,hc⟩:=hc)))
   all_goals first | (cases hc;done) | (subst hc;cases hi;done) | (simp only [Option.some.injEq] at hc;subst hc;cases hi;done) | (cases hi;done)
 case makeMap t r =>
  exfalso
  cases r with
  | some _=>cases hc
  | none =>
   simp only [compOp,Option.map_eq_some_iff] at hc
   obtain ⟨_,_,rfl⟩:=hc
   cases hi
 all_goals
  exfalso
  simp only [compOp,reduceCtorEq] at hc
  try (repeat' (first | (split at hc) | (simp only [Option.bind_eq_some_iff,Option.map_eq_some_iff] at hc) | (obtain ⟨_,_,hc⟩:=hc)))
  all_goals first | (cases hc;done) | (subst hc;cases hi;done) | (simp only [Option.some.injEq] at hc;subst hc;cases hi;done) | (cases hi;done)
theorem keep_after {o:Oper} {t size bytes:Nat} {z0:List SC} {is ix:IX} {y z:Nm} {k L m ty0:Nat} {f g:Nat→List SC} {xv:SV} {q p:Prop} (hT:TOk P T) (hop:compOp T o.op=some (.app t size bytes z0 is ix)) (hs:Sat B W w0 E S a w)
  (hsv:S.ev is=some (.c (.xv z))) (hxv:S.ev ix=some xv) (hsrc:slSrc S size xv=some (q,m,g)) (hq:q) (hy:pkN S.own y=some (p,.pr (KeepP y z k size f ty0 L))) (hp:p)
  (hm:0<m) (hz0:len' z0=size) (hb:(L+m+(L+m) / 4+192) * bytes≤281474976710656) (hml:L+m≤maxLen) :
  ∃ v w',RunsTo ((execOp a.eval o).run P w) v w'∧After B W w0 E [] S a w (.c (.xv (S.nid,0,0))) 1 (setN S.own y (.pr (KeepP y (S.nid,0,0) k size f ty0 (L+m)))) [] v w':=by
 obtain ⟨c,s,x,t',u,ti,tu,e',te,hcall,hcl,hxs,hts,hti,htu,he,he',hte,hsi,hxi,rfl,rfl,rfl⟩:=compOp_app hop rfl
 obtain ⟨hut,_⟩:=ti_parts hT hti
 obtain ⟨huu,_⟩:=ti_parts hT htu
 obtain ⟨_,i,hi,hz,hsz,hby⟩:=ti_parts hT hte
 rw [he] at hut
 rw [he'] at huu
 have hzl:te.zero.cells.size=i.size:=by rw [len'_eq] at hz0;rw [hsz];simpa [scs] using hz0
 have ea:c.args.map a.eval = #[a.eval s,a.eval x]:=by apply Array.ext';simp [hxs]
 have et:c.argTypes = #[t',u]:=by apply Array.ext';simp [hts]
 have hrun:(execOp a.eval o).run P w=(do pure (Next.value (← Builtin.append_ #[t',u] o.type #[a.eval s,a.eval x])):Sem Next).run P w:=by
  have bi:(do let d ← resolve a.eval c o.type;invoke d.target d.args:Sem Next).run P w=(builtin .append c.argTypes o.type (c.args.map fun | .const _=>true | _=>false) (c.args.map a.eval)).run P w:=by
   simp only [resolve,hcl,Sem.run_bind,Sem.run_pure,Result.andThen_ok,invoke]
   rfl
  unfold execOp
  rw [hcall]
  refine bi.trans ?_
  rw [ea,et]
  rfl
 rw [hrun]
 rw [← hsz] at hsrc hy ⊢
 rw [← hby] at hb
 have key:∀ E2,Sat B W w0 E2 S a w→∀ H,HeapOk B W E2 S.own H w→_:=fun E2 hs2 H hH =>
  keep_run (z':=(S.nid,0,0)) (ty:=o.type) hut huu hi hz hzl hH (pkN_at hy hp) (slSrc_ok hsrc hq hs2) hm hb hml
 have ev:∀ E2,Sat B W w0 E2 S a w→a.eval s=E2.χ z∧a.eval x=xv.den E2:=fun E2 hs2=>⟨by rw [opd_den hs2 hsi hsv,den_c];simp only [SC.den],opd_den hs2 hxi hxv⟩
 obtain ⟨H,hH,_⟩:=hs.mem
 obtain ⟨v,w',h1,h2,h3,h4,_⟩:=key E hs H hH
 rw [← (ev E hs).1,← (ev E hs).2] at h1
 refine det_after ⟨fun _=>0,fun _=>0,fun _=>false,fun _=>v⟩ (fun _=>h2) ⟨v,w',Or.inl (run_val h1)⟩ fun E2 hs2 hag=>⟨w',Or.inl ?_,?_⟩
 ·rw [run_val h1,den_c]
  simp only [SC.den]
  rw [(hag (S.nid,0,0) ⟨Nat.le_refl _,by simp⟩).2.2.2]
 ·refine fits_put hy hp h3 h4 fun H2 hH2=>?_
  obtain ⟨v2,w2,g1,_,_,_,g5⟩:=key E2 hs2 H2 hH2
  rw [← (ev E2 hs2).1,← (ev E2 hs2).2,h1] at g1
  cases g1
  obtain ⟨h',k1,k2,k3⟩:=g5 (hag (S.nid,0,0) ⟨Nat.le_refl _,by simp⟩).2.2.2
  exact ⟨h',by simp only [Blk.den];exact k1,k2,k3⟩
end
section
variable {C:Ctx} {S:St}
theorem keep_app {t size bytes:Nat} {z0:List SC} {is ix:IX} {d:Option Nat} {K:St→Prop} {y z:Nm} {k L m ty0:Nat} {f g:Nat→List SC} {xv:SV} {q p:Prop}
  (hT:TOk C.P C.tab.T) (hsv:S.ev is=some (.c (.xv z))) (hxv:S.ev ix=some xv) (hsrc:slSrc S size xv=some (q,m,g)) (hq:q) (hy:pkN S.own y=some (p,.pr (KeepP y z k size f ty0 L))) (hp:p)
  (hm:0<m) (hz0:len' z0=size) (hb:(L+m+(L+m) / 4+192) * bytes≤281474976710656) (hml:L+m≤maxLen)
  (hK:K ⟨S.nt,S.putT d (.c (.xv (S.nid,0,0))),mergeL (setN S.own y (.pr (KeepP y (S.nid,0,0) k size f ty0 (L+m)))) S.own,S.arrs,S.facts,S.nid+1⟩) :
  OpVC C (.app t size bytes z0 is ix) d S K:=by
 intro o hop hd E a w hs K' Q hKK
 obtain ⟨v,w',hr,haft⟩:=keep_after hT hop hs.sat hsv hxv hsrc hq hy hp hm hz0 hb hml
 obtain ⟨E',h'⟩:=satA_after hs (fun i hi=>by cases hi) haft o.dst
 unfold Oper.wp
 subst hd
 rcases hr with hr | ⟨hr,rfl⟩
 ·rw [hr];exact hKK E' _ _ _ h' hK
 ·rw [hr];exact hKK E' _ _ _ h' hK
theorem act_put_same {a:Act} {t:Nat} {v:Value} (h:t<a.tmps.size) (e:a.tmps.getD t undef=v):a.put (some t) v=a:=by
 have:a.tmps.setIfInBounds t v=a.tmps:=by
  apply Array.ext_getElem?
  intro i
  rw [Array.getElem?_setIfInBounds]
  split
  ·next q =>
   subst q
   rw [← e,Array.getD_eq_getD_getElem?,Array.getElem?_eq_getElem h];rfl
  ·rfl
 show ({ a with tmps:=a.tmps.setIfInBounds t v }:Act)=a
 rw [this]
theorem keep_in {t:Nat} {y:Nm} {n s ty:Nat} {f:Nat→List SC} {p:Prop} (ht:look S.tmps t=some (.c (.sl y s 0 n none))) (hy:pkN S.own y=some (p,.ar n s f ty)) (hp:p) :
  Le C S ⟨S.nt,S.putT (some t) (.c (.xv (S.nid,0,0))),mergeL (setN S.own y (.pr (KeepP y (S.nid,0,0) n s f ty n))) S.own,S.arrs,S.facts,S.nid+1⟩:=by
 intro E a w hs
 obtain ⟨h1,h2⟩:=hs.sat.tmps t _ ht
 have haft:After C.B C.W C.w0 E [] S a w (.c (.xv (S.nid,0,0))) 1 (setN S.own y (.pr (KeepP y (S.nid,0,0) n s f ty n))) [] ((SV.c (.sl y s 0 n none)).den E) w:=by
  refine ⟨⟨fun _=>0,fun _=>0,fun _=>false,fun _=>(SV.c (.sl y s 0 n none)).den E⟩,fun _=>by rw [den_c,den_sl];rfl,fun E2 hs2 _ hag=>?_⟩
  have e1:=(hag (S.nid,0,0) ⟨Nat.le_refl _,by simp⟩).2.2.2
  have e2:(SV.c (.sl y s 0 n none)).den E=(SV.c (.sl y s 0 n none)).den E2:=h2.symm.trans (hs2.tmps t _ ht).2
  refine ⟨by rw [den_c (x:=.xv _)];simp only [SC.den];rw [e1],(fits_put hy hp ⟨rfl,rfl,rfl⟩ (Nat.le_refl _) fun H hH=>⟨H y,?_,fun n _ _=>rfl,fun n o hn=>⟨(hH.sub _ _ (pkN_at hy hp) n o hn).1,Or.inr (by rw [hn];simp)⟩⟩).G⟩
  have hd:=hH.den _ _ (pkN_at hy hp)
  simp only [Blk.den] at hd ⊢
  exact ⟨Nat.le_refl _,Or.inl ⟨f,fun _ _=>rfl,by rw [e1];simp only;rw [e2,den_c],by simp only [Blk.den];exact hd⟩⟩
 obtain ⟨E',h'⟩:=satA_after hs (fun i hi=>by cases hi) haft (some t)
 rw [act_put_same (by rw [hs.sat.size];exact h1) h2] at h'
 exact ⟨E',h'⟩
theorem keep_out {y z:Nm} {k s ty L:Nat} {f:Nat→List SC} {p:Prop} (hy:pkN S.own y=some (p,.pr (KeepP y z k s f ty L))) (hp:p) :
  Le C S ⟨S.nt,S.tmps,mergeL (setN S.own y (.ar k s f ty)) S.own,S.arrs,S.facts,S.nid⟩:=by
 intro E a w hs
 have haft:After C.B C.W C.w0 E [] S a w (.c (.v undef)) 0 (setN S.own y (.ar k s f ty)) [] undef w:=by
  refine ⟨⟨fun _=>0,fun _=>0,fun _=>false,fun _=>.bool true⟩,fun _=>rfl,fun E2 hs2 _ hag=>⟨by rw [den_c,den_v],(fits_put hy hp ⟨rfl,rfl,rfl⟩ (Nat.le_refl _) fun H hH=>?_).G⟩⟩
  have hd:=hH.den _ _ (pkN_at hy hp)
  have hsub:=hH.sub _ _ (pkN_at hy hp)
  rw [show (Blk.pr (KeepP y z k s f ty L)).den E2 y (H y)=KeepP y z k s f ty L E2 (H y) from by simp only [Blk.den]] at hd
  obtain ⟨hkL,⟨F,hF,hχ,hd⟩ | ⟨b,cap,cells,t',h1,F,hχ,hd,hb1,hLc,hcm,hsz,hcells,hh⟩ | ⟨_,_,hd,_⟩⟩:=hd
  ·exact ⟨H y,ar_weak hd hkL hF,fun n _ _=>rfl,fun n o hn=>⟨(hsub n o hn).1,Or.inr (by rw [hn];simp)⟩⟩
  ·refine ⟨h1,hd,fun n _ _=>rfl,fun n o hn=>?_⟩
   have hne:n≠b:=fun e=>by subst e;rw [hb1] at hn;cases hn
   have h2:H y n=some o:=by
    rw [hh]
    simp only [if_neg hne]
    exact hn
   exact ⟨(hsub n o h2).1,Or.inr (by rw [h2];simp)⟩
  ·exact ⟨H y,hd,fun n _ _=>rfl,fun n o hn=>⟨(hsub n o hn).1,Or.inr (by rw [hn];simp)⟩⟩
 obtain ⟨E',h'⟩:=satA_after hs (fun i hi=>by cases hi) haft none
 exact ⟨E',h'⟩
theorem keep_le {p:Nat→Prop} {σ:Nm→Nm} {y y' z z' : Nm} {k s ty L:Nat} {f f' : Nat→List SC} (hy:y=σ y') (hz:z=σ z') (hpy:p y'.1) (hpz:p z'.1) (hf:∀ e,e<k→f e=SC.renL σ (f' e)∧SC.okL p (f' e)):BlkLe p σ (.pr (KeepP y z k s f ty L)) (.pr (KeepP y' z' k s f' ty L)):=by
 subst hy hz
 intro E E2 hS h hK
 have hsy:=hS y' hpy
 have hsz:=hS z' hpz
 have vals:∀ (F:Nat→List SC) (e:Nat),((F e).map fun c=>SC.v (c.den E)).length=(F e).length:=fun F e=>by simp
 have cellsR:∀ {n:Nat} {F:Nat→List SC} {cells:Array Value},ArCells E n s F cells→ArCells E2 n s (fun e=>(F e).map fun c=>SC.v (c.den E)) cells:=by
  intro n F cells hc e he
  obtain ⟨g1,g2⟩:=hc e he
  refine ⟨by simpa using g1,fun j u hu=>?_⟩
  simp only [List.getElem?_map,Option.map_eq_some_iff] at hu
  obtain ⟨c,hc,rfl⟩:=hu
  rw [den_v]
  exact g2 j c hc
 obtain ⟨hkL,⟨F,hF,hχ,hd⟩ | ⟨b,cap,cells,t',h1,F,hχ,hd,hb1,hLc,hcm,hsz',hcells,hh⟩ | ⟨hL0,hκ,hd,ba,hχ⟩⟩:=hK
 ·refine ⟨hkL,Or.inl ⟨fun e=>if e<k then f' e else (F e).map fun c=>SC.v (c.den E),fun e he=>by simp only [if_pos he],?_,?_⟩⟩
  ·rw [hsz.2.2.2,hχ,den_sl,den_sl,hsy.1,hsy.2.1,hsy.2.2.1]
  ·simp only [Blk.den] at hd ⊢
   rw [hsy.1,hsy.2.1,hsy.2.2.1]
   rcases hd with g | ⟨g1,g2,g3,cells,g4,g5,g6⟩
   ·exact Or.inl g
   ·refine Or.inr ⟨g1,g2,g3,cells,g4,g5,fun e he=>?_⟩
    by_cases hek:e<k
    ·simp only [if_pos hek]
     obtain ⟨h5,h6⟩:=hf e hek
     obtain ⟨f1,f2⟩:=g6 e he
     rw [hF e hek,h5] at f1 f2
     refine ⟨by rw [renL_eq,List.length_map] at f1;exact f1,fun j u hu=>?_⟩
     have:=f2 j _ (mem_renL hu)
     rw [den_ren hS u (okL_mem h6 hu)]
     exact this
    ·simp only [if_neg hek]
     exact cellsR (n:=L) (fun e he=>g6 e he) e he
 ·refine ⟨hkL,Or.inr (Or.inl ⟨b,cap,cells,t',h1,fun e=>(F e).map fun c=>SC.v (c.den E),by rw [hsz.2.2.2,hχ],?_,hb1,hLc,hcm,hsz',cellsR hcells,hh⟩)⟩
  exact blk_le hS hpy (b:=.ar k s f ty) (b':=.ar k s f' ty) ⟨Nat.le_refl _,rfl,rfl,hf⟩ hd
 ·refine ⟨hkL,Or.inr (Or.inr ⟨hL0,by rw [hsy.2.1];exact hκ,?_,ba,by rw [hsz.2.2.2,hχ]⟩)⟩
  exact blk_le hS hpy (b:=.ar k s f ty) (b':=.ar k s f' ty) ⟨Nat.le_refl _,rfl,rfl,hf⟩ hd
end
end Go.Proofs.Ytgljbdcamagdbaa.Z
namespace Go.Proofs.Ytgljbdcamagdbaa.Z
open Go Go.RowKit
theorem own_bk {p:Nat→Prop} {τ:Nat→Nat} {own r:Own} {i ty:Nat} {cs ds:List SC} (hp:p i) (h:look own (τ i)=some (.one (.bk ds ty))) (hr:ds=SC.renL (idσ τ) cs) (hk:SC.okL p cs) (hr' : OwnLe p (idσ τ) own r):OwnLe p (idσ τ) own ((i,.one (.bk cs ty)) :: r):=by
 refine ⟨⟨hp,?_⟩,hr'⟩
 simp only [idσ,atN,h,Fm.get,and_self,if_true]
 exact ⟨hr,rfl,hk⟩
theorem own_ar {p:Nat→Prop} {τ:Nat→Nat} {own r:Own} {i ty n m k:Nat} {f g:Nat→List SC} (hp:p i) (h:look own (τ i)=some (.one (.ar m k g ty))) (hm:n≤m) (hf:∀ e,e<n→g e=SC.renL (idσ τ) (f e)∧SC.okL p (f e)) (hr' : OwnLe p (idσ τ) own r):OwnLe p (idσ τ) own ((i,.one (.ar n k f ty)) :: r):=by
 refine ⟨⟨hp,?_⟩,hr'⟩
 simp only [idσ,atN,h,Fm.get,and_self,if_true]
 exact ⟨hm,rfl,rfl,hf⟩
theorem ats_rn {α:Type} {enc:α→List Value} {xs:List α} {d:α} (e:Nat) (p:Nat→Prop) (σ:Nm→Nm):ats enc xs d e=SC.renL σ (ats enc xs d e)∧SC.okL p (ats enc xs d e):=by
 unfold ats;exact ⟨(renL_v _ _).symm,okL_v _ _⟩
theorem own_av {p:Nat→Prop} {τ:Nat→Nat} {own r:Own} {α:Type} {enc:α→List Value} {xs:List α} {d:α} {i ty n m k:Nat} {g:Nat→List SC} (hp:p i) (h:look own (τ i)=some (.one (.ar m k g ty))) (hm:n≤m) (hf:∀ e,e<n→g e=ats enc xs d e) (hr' : OwnLe p (idσ τ) own r):OwnLe p (idσ τ) own ((i,.one (.ar n k (ats enc xs d) ty)) :: r) :=
 own_ar hp h hm (fun e he=>(hf e he).symm ▸ ats_rn e _ _) hr'
end Go.Proofs.Ytgljbdcamagdbaa.Z
namespace Go.Proofs.Ytgljbdcamagdbaa
open Go Go.RowKit
theorem flat_take {α:Type} {enc:α→List Value} {s:Nat} (T:EncT enc s) (cells:List Value) (xs:List α) (h:∀ e x,xs[e]? = some x→∀ j u,(enc x)[j]? = some u→cells[e * s+j]? = some u):cells.take (xs.length * s)=xs.flatMap enc:=by
 have hl:=flat_len T.len xs
 refine List.ext_getElem? fun t=>?_
 by_cases ht:t<xs.length * s
 ·have hs:0<s:=by
   rcases Nat.eq_zero_or_pos s with h0 | h0
   ·rw [h0,Nat.mul_zero] at ht;omega
   ·exact h0
  have he:t / s<xs.length:=Nat.div_lt_of_lt_mul (by rw [Nat.mul_comm];exact ht)
  have hj:t % s<s:=Nat.mod_lt _ hs
  have hx:xs[t / s]? = some xs[t / s]:=List.getElem?_eq_getElem he
  have e:t / s * s+t % s=t:=Nat.div_add_mod' t s
  have h1:=flat_get T.len xs (t / s) (t % s) _ hx hj
  have hu:(enc xs[t / s])[t % s]? = some ((enc xs[t / s])[t % s]'(by rw [T.len];exact hj)):=List.getElem?_eq_getElem _
  have h2:=h _ _ hx _ _ hu
  rw [e] at h1 h2
  rw [List.getElem?_take,if_pos ht,h2,h1,hu]
 ·rw [List.getElem?_take,if_neg ht,List.getElem?_eq_none (by omega)]
namespace Z
theorem own_E {C:Ctx} {S:St} {E:Env} {a:Act} {w:World} (hs:Sat C.B C.W C.w0 E S a w) {α:Type} {ty s:Nat} {enc:α→List Value} {ys:List α} {d:α} (T:EncT enc s) (i:Nat) (hi:look S.own i=some (.one (.ar ys.length s (ats enc ys d) ty))):OwnE w 0 ty enc s ((SC.sl (i,0,0) s 0 ys.length none).den E) ys:=by
 obtain ⟨H,hH,_⟩:=hs.mem
 have hat:atN S.own (i,0,0)=some (.ar ys.length s (ats enc ys d) ty):=by simp [atN,hi,Fm.get]
 have hd:=hH.den _ _ hat
 simp only [Blk.den] at hd
 rcases hd with ⟨_,hκ,h0,_⟩ | ⟨hν,hn,hκ,cells,hHx,hcs,hcells⟩
 ·have hy:ys=[]:=List.eq_nil_of_length_eq_zero h0
  subst hy
  exact Or.inl ⟨rfl,_,by simp only [SC.den,hκ];rfl⟩
 ·obtain ⟨hw0,_⟩:=hH.sub _ _ hat (E.ρ (i,0,0)) (.cells cells ty (0,0)) (by rw [hHx];simp [sing])
  refine Or.inr ⟨flat_len T.len _,Or.inr ⟨E.ρ (i,0,0),E.κ (i,0,0),cells,by simp [SC.den,hν],Nat.zero_le _,hw0,hn.1,hκ,hcs,?_⟩⟩
  refine flat_take T _ _ fun e x hx j u hu=>?_
  have he:=(List.getElem?_eq_some_iff.1 hx).1
  have:=((hcells e he).2 j (.v u) (by
   simp only [ats,List.getElem?_map]
   rw [List.getD_eq_getElem?_getD,hx,Option.getD_some,hu];rfl)).1
  rw [Array.getElem?_toList,this,den_v]
def doT (ti s n:Nat) (k v:Int) (b:Nat):SV:=.tup [(false,[.ifc ti (.sl (b,0,0) s 0 n none)]),(true,[.v (.int .i64 k),.v (.int .i64 v)])]
theorem retN_doN {α:Type} {W:World} {ti e:TypeId} {enc:α→List Value} {s:Nat} {d:List α×Int×Int} {dd:α} (T:EncT enc s) {r:Ending} {w' : World} (h:RetDoN W ti e enc s d r w'):RetN W 1 (doT ti s d.1.length d.2.1 d.2.2) (lsO e s enc d.1 dd) r w':=by
 obtain ⟨v',rfl,ho,hb,g0,n0,c0,rfl,hc0⟩:=h
 rcases ho with ⟨_,ba,h⟩ | ho
 ·simp only [Value.slice.injEq] at h;omega
 have hA:=OwnE.arr T (Or.inr ho)
 obtain ⟨hlen,⟨h,_⟩ | ⟨g,cap,cur,hv,hBg,hg,hnc,hcm,hcs,htk⟩⟩:=ho
 ·simp at h
 simp only [Value.slice.injEq,Option.some.injEq,Addr.mk.injEq] at hv
 obtain ⟨⟨rfl,-,-⟩,rfl,rfl⟩:=hv
 refine ⟨_,rfl,hb,fun b=>⟨⟨fun _=>g0,fun _=>c0,fun _=>false,fun _=>.bool true⟩,fun _=>rfl,fun E2 hE2=>?_⟩⟩
 obtain ⟨h1,h2,h3,h4⟩:=hE2 (b,0,0) ⟨Nat.le_refl _,Nat.lt_succ_self _⟩
 have h1:E2.ρ (b,0,0)=g0:=h1
 have h2:E2.κ (b,0,0)=c0:=h2
 have h3:E2.ν (b,0,0)=false:=h3
 refine ⟨by simp [doT,SV.den,den1,SC.den,h1,h2,h3],fun x=>sing g0 (.cells cur e (0,0)),fun x c hx=>?_,fun x y c d hx hy hne n=>?_,fun x c hx n o hn=>?_⟩
 ·rcases atN_one hx with ⟨rfl,rfl⟩ | hx
  ·refine Or.inr ⟨h3,by rw [h2];exact ⟨hnc,hc0⟩,by rw [h2];exact hcm,cur,by rw [h1],by rw [h2];exact hcs,fun k hk=>⟨by simp [ats,T.len],fun j u hu=>?_⟩⟩
   simp only [ats,List.getElem?_map,Option.map_eq_some_iff] at hu
   obtain ⟨u',hu',rfl⟩:=hu
   obtain ⟨ba,cp,e1,_,_,hc⟩:=hA
   rcases hc with hc | ⟨b0,off,e2,hc⟩
   ·rw [hc] at hk;simp at hk
   ·cases e1
    cases e2
    have:=hc k (d.1.getD k dd) (by rw [List.getD_eq_getElem?_getD,List.getElem?_eq_getElem hk];rfl) j u' hu'
    rw [cell_of_row w' _ _ _ e (0,0) hg,Nat.zero_add] at this
    exact ⟨by rw [den_v];exact this,by rw [den_v];exact T.one _ _ (List.mem_of_getElem? hu')⟩
  ·exact (atN_nil hx).elim
 ·rcases atN_one hx with ⟨rfl,rfl⟩ | hx
  ·rcases atN_one hy with ⟨rfl,rfl⟩ | hy
   ·exact absurd rfl hne
   ·exact (atN_nil hy).elim
  ·exact (atN_nil hx).elim
 ·simp only [sing] at hn
  by_cases e:n=g0
  ·subst e
   simp at hn
   subst hn
   exact ⟨hg,hBg⟩
  ·simp [e] at hn
theorem callT {C:Ctx} {f:Nat} {vs:List SV} {dst:Option Nat} {S:St} {K:St→Prop} (ks:List Nat) (tmpl:SV) (hok:tmpl.okN (·∈ks)) (hks:ltAll ks S.nid=true) (hc:∀ E a w,Sat C.B C.W C.w0 E S a w→Calls C.P f (vs.map (SV.den E)).toArray w (RetV w (tmpl.den E))) (h:K (S.call dst tmpl 0 [] [])):CallVC C f vs dst S K:=by
 refine call_intro (ks:=ks) (tmpl:=tmpl) (nx:=0) (eff:=[]) (arrs':=[]) (fun E a w hs=>?_) (fun i hi=>ltAll_mem hks i hi) h
 refine (hc E a w hs).mono ?_
 rintro e w' ⟨rfl,hb⟩
 exact ⟨_,rfl,E,hs.one,fun E2 _ hag _=>⟨(den_same (fun x hx=>hag x hx) hok).symm,Fits.G ⟨fun H _=>effOk_below hb,fun _ _ x A h=>by simp [atN,look] at h⟩⟩⟩
end Z
end Go.Proofs.Ytgljbdcamagdbaa
namespace Go.Proofs.Ytgljbdcamagdbaa.Z
open Go Go.RowKit
theorem enterC {P:Program} {A:List Nat} {f nt:Nat} {fn:Func} {x:Code} {c:IR} {w:World} {rs:List RS} {R:Ending→World→Prop} {v:Value} {m:MC} (h:Cont w v m) (sc:List SV) (args:Array Value)
  (hf:P.funcs[f]? = some fn) (hb:fn.body=some x) (hc:compC (mkTab P A) x=some c.strip) (hr:compR (mkTab P A).T fn.results.toList=some rs) (hn:fn.ntmps=nt)
  (hargs:∀ E' : Env,(SV.agg (mcS 0)).den E' = v→(sc.map (SV.den E')).toArray=args) (hnt:sc.length≤nt)
  (hex:exec (mkC P A w rs R) 1000 [.code c] ⟨nt,enumT 0 sc,[],mcA 0 m,[],5⟩):Calls P f args w R:=by
 obtain ⟨v0,v1,v2,v3,v4,rfl,h0,h1,h2,h3,h4⟩:=h
 have hone:OneC ⟨fun _=>0,fun _=>0,fun _=>false,fun x=>fiv v0 v1 v2 v3 v4 x.1⟩:=fun x=>by
  simp only [fiv]
  split
  ·exact arr_one h0
  ·exact arr_one h1
  ·exact arr_one h2
  ·exact arr_one h3
  ·exact arr_one h4
 refine calls_sym (c:=c) (C:=mkC P A w rs R) 1000 sc ⟨fun _=>0,fun _=>0,fun _=>false,fun x=>fiv v0 v1 v2 v3 v4 x.1⟩ [] _ [] 5 nt args (mkTab_ok _ _) hf hb hc hr hn rfl rfl hone (fun E' hE'=>hargs E' ?_) hnt (fun E' hE'=>inOk_arrs fun w' hw' x A hA=>?_) hex
 all_goals have e0:E'.χ (0,0,0)=v0:=(hE' (0,0,0) (by decide)).2.2.2
 all_goals have e1:E'.χ (1,0,0)=v1:=(hE' (1,0,0) (by decide)).2.2.2
 all_goals have e2:E'.χ (2,0,0)=v2:=(hE' (2,0,0) (by decide)).2.2.2
 all_goals have e3:E'.χ (3,0,0)=v3:=(hE' (3,0,0) (by decide)).2.2.2
 all_goals have e4:E'.χ (4,0,0)=v4:=(hE' (4,0,0) (by decide)).2.2.2
 ·simp [mcS,SV.den,SC.den,e0,e1,e2,e3,e4]
 ·rcases atN_one hA with ⟨rfl,rfl⟩ | hA
  ·exact arr1 eI_ok e0 h0 hw'
  rcases atN_one hA with ⟨rfl,rfl⟩ | hA
  ·exact arr1 eI_ok e1 h1 hw'
  rcases atN_one hA with ⟨rfl,rfl⟩ | hA
  ·exact arr1 eI_ok e2 h2 hw'
  rcases atN_one hA with ⟨rfl,rfl⟩ | hA
  ·exact arr1 eI_ok e3 h3 hw'
  rcases atN_one hA with ⟨rfl,rfl⟩ | hA
  ·exact arr1 eP_ok e4 h4 hw'
  exact (atN_nil hA).elim
def MC.okR (m:MC):Prop:=m.ok 1∧(m.stack.length+1) * 8≤140737488355328
end Go.Proofs.Ytgljbdcamagdbaa.Z
namespace Go.Proofs.Ytgljbdcamagdbaa.Z
open Go Go.RowKit
def ir26:IR:=(.seq (.ops [⟨(some 0),(.mv (.k (.c (.v (.bool false))))),none⟩]) (.kill [0,1,2,3,4,5,6,7,8,9,10,11] (.seq (.ops [⟨(some 5),(.mkSl 3 1 1 [(.v (.int .i64 0))] [(0,(1,(.k (.c (.v (.int .i64 5))))))]),none⟩,⟨(some 6),(.build [(.v (.slice none 0 0)),(.v (.slice none 0 0)),(.v (.slice none 0 0)),(.v (.slice none 0 0)),(.v (.slice none 0 0))] [(1,(1,(.t 5)))]),none⟩,⟨(some 7),(.call 25 [(.t 6),(.k (.c (.v (.int .i64 30)))),(.k (.c (.v (.int .i64 6)))),(.k (.c (.v (.int .i64 0))))]),none⟩,⟨(some 4),(.mv (.t 7)),none⟩,⟨(some 8),(.ext 0 (.t 4)),none⟩,⟨(some 9),(.ext 1 (.t 4)),none⟩,⟨(some 10),(.ext 2 (.t 4)),none⟩,⟨(some 1),(.new 29 [(.v (.slice none 0 0)),(.v (.slice none 0 0)),(.v (.slice none 0 0)),(.v (.slice none 0 0)),(.v (.slice none 0 0))]),none⟩,⟨(some 2),(.new 42 [(.v (.int .i64 0)),(.v (.int .i64 0))]),none⟩,⟨none,(.st 5 (.t 1) (.t 8)),none⟩,⟨none,(.st 2 (.t 2) (.t 9)),none⟩,⟨(some 3),(.mv (.t 10)),none⟩]) (.kill [4,5,6,7,8,9,10] (.seq (.seq (.ops [⟨(some 11),(.mv (.t 3)),none⟩,⟨(some 12),(.bin .neq (.t 11) (.k (.c (.v (.int .i64 0))))),none⟩,⟨(some 13),(.mv (.t 12)),none⟩,⟨(some 14),(.ld true 2 (.t 2)),(some (13,false))⟩,⟨(some 15),(.build [(.v (.int .i64 0)),(.v (.int .i64 0))] [(0,(1,(.k (.c (.v (.int .i64 1))))))]),(some (13,false))⟩,⟨(some 16),(.eqa true [true,true] (.t 14) (.t 15)),(some (13,false))⟩,⟨(some 17),(.pick (.t 13) (.k (.c (.v (.bool true)))) (.t 16)),none⟩,⟨(some 18),(.mv (.t 17)),none⟩,⟨(some 19),(.fa 1 (.t 1)),(some (18,false))⟩,⟨(some 20),(.ld false 1 (.t 19)),(some (18,false))⟩,⟨(some 21),(.len (.t 20)),(some (18,false))⟩,⟨(some 22),(.bin .neq (.t 21) (.k (.c (.v (.int .i64 2))))),(some (18,false))⟩,⟨(some 23),(.pick (.t 18) (.k (.c (.v (.bool true)))) (.t 22)),none⟩,⟨(some 24),(.mv (.t 23)),none⟩,⟨(some 25),(.fa 1 (.t 1)),(some (24,false))⟩,⟨(some 26),(.ld false 1 (.t 25)),(some (24,false))⟩,⟨(some 27),(.ia 1 (.t 26) (.k (.c (.v (.int .i64 0))))),(some (24,false))⟩,⟨(some 28),(.ld false 1 (.t 27)),(some (24,false))⟩,⟨(some 29),(.bin .neq (.t 28) (.k (.c (.v (.int .i64 6))))),(some (24,false))⟩,⟨(some 30),(.pick (.t 24) (.k (.c (.v (.bool true)))) (.t 29)),none⟩,⟨(some 31),(.mv (.t 30)),none⟩,⟨(some 32),(.fa 1 (.t 1)),(some (31,false))⟩,⟨(some 33),(.ld false 1 (.t 32)),(some (31,false))⟩,⟨(some 34),(.ia 1 (.t 33) (.k (.c (.v (.int .i64 1))))),(some (31,false))⟩,⟨(some 35),(.ld false 1 (.t 34)),(some (31,false))⟩,⟨(some 36),(.bin .neq (.t 35) (.k (.c (.v (.int .i64 5))))),(some (31,false))⟩,⟨(some 37),(.pick (.t 31) (.k (.c (.v (.bool true)))) (.t 36)),none⟩]) (.kill [3,11,12,13,14,15,16,17,18,19,20,21,22,23,24,25,26,27,28,29,30,31,32,33,34,35,36] (.cond (.t 37) (.seq (.ops [⟨(some 0),(.mv (.k (.c (.v (.bool false))))),none⟩]) (.kill [1,2,37] .ret)) .skip))) (.kill [0,37] (.seq (.ops [⟨(some 39),(.ld true 5 (.t 1)),none⟩,⟨(some 40),(.call 25 [(.t 39),(.k (.c (.v (.int .i64 31)))),(.k (.c (.v (.int .i64 0)))),(.k (.c (.v (.int .i64 0))))]),none⟩,⟨(some 38),(.mv (.t 40)),none⟩,⟨(some 41),(.ext 0 (.t 38)),none⟩,⟨(some 42),(.ext 1 (.t 38)),none⟩,⟨(some 43),(.ext 2 (.t 38)),none⟩,⟨none,(.st 5 (.t 1) (.t 41)),none⟩,⟨none,(.st 2 (.t 2) (.t 42)),none⟩,⟨(some 3),(.mv (.t 43)),none⟩]) (.kill [38,39,40,41,42,43] (.seq (.ops [⟨(some 44),(.mv (.t 3)),none⟩,⟨(some 45),(.bin .eql (.t 44) (.k (.c (.v (.int .i64 0))))),none⟩,⟨(some 46),(.mv (.t 45)),none⟩,⟨(some 47),(.ld true 2 (.t 2)),(some (46,true))⟩,⟨(some 48),(.build [(.v (.int .i64 0)),(.v (.int .i64 0))] [(0,(1,(.k (.c (.v (.int .i64 2)))))),(1,(1,(.k (.c (.v (.int .i64 6))))))]),(some (46,true))⟩,⟨(some 49),(.eqa false [true,true] (.t 47) (.t 48)),(some (46,true))⟩,⟨(some 50),(.pick (.t 46) (.t 49) (.k (.c (.v (.bool false))))),none⟩,⟨(some 51),(.mv (.t 50)),none⟩,⟨(some 52),(.fa 1 (.t 1)),(some (51,true))⟩,⟨(some 53),(.ld false 1 (.t 52)),(some (51,true))⟩,⟨(some 54),(.len (.t 53)),(some (51,true))⟩,⟨(some 55),(.bin .eql (.t 54) (.k (.c (.v (.int .i64 1))))),(some (51,true))⟩,⟨(some 56),(.pick (.t 51) (.t 55) (.k (.c (.v (.bool false))))),none⟩,⟨(some 57),(.mv (.t 56)),none⟩,⟨(some 58),(.fa 1 (.t 1)),(some (57,true))⟩,⟨(some 59),(.ld false 1 (.t 58)),(some (57,true))⟩,⟨(some 60),(.ia 1 (.t 59) (.k (.c (.v (.int .i64 0))))),(some (57,true))⟩,⟨(some 61),(.ld false 1 (.t 60)),(some (57,true))⟩,⟨(some 62),(.bin .eql (.t 61) (.k (.c (.v (.int .i64 5))))),(some (57,true))⟩,⟨(some 63),(.pick (.t 57) (.t 62) (.k (.c (.v (.bool false))))),none⟩,⟨(some 0),(.mv (.t 63)),none⟩]) (.kill [1,2,3,44,45,46,47,48,49,50,51,52,53,54,55,56,57,58,59,60,61,62,63] .ret))))))))))
def rs26:List RS:=[(.t 0)]
def nt26:Nat:=64
set_option maxRecDepth 100000 in
set_option maxHeartbeats 400000 in
theorem awake_Z (w:World):Calls Try.prog 26 #[] w (RetV w (.bool true)):=by
 refine enter0 (A:=[]) (c:=ir26) (rs:=rs26) (nt:=nt26) [] _ Try.func26 rfl (by kernel_rfl) (by kernel_rfl) rfl (fun E'=>rfl) (of_decide_eq_true rfl) ?_
 simp (maxSteps:=2000000) only [ir26,nt26,rs26,go_sem,↓reduceIte,Nat.reduceLT,Nat.reduceLeDiff,Nat.reduceAdd,Nat.reduceSub,Nat.reduceMul,Nat.reduceEqDiff,reduceCtorEq,Int.reduceToNat,Int.reduceEq,Int.reduceBEq,Int.reduceBNe,Int.reduceLT,Int.reduceLE,Int.reduceNeg,Int.reduceAdd,Int.reduceSub,Int.reduceMul,Int.reduceGE,Int.reduceGT,endO]
 refine ⟨by decide,?_⟩
 refine callB 5 (d3T (⟨[],[6,5],[],[],[]⟩,1,0) 0) (mcR ⟨[],[6,5],[],[],[]⟩) (fun E a w' hs=>?_) ?_
 ·have hd:doM ⟨[],[5],[],[],[]⟩ 30 6 0=(⟨[],[6,5],[],[],[]⟩,1,0):=by decide
  have:=do_Z (w:=w') (m:=⟨[],[5],[],[],[]⟩) 30 6 0 ⟨_,_,_,_,_,rfl,Arr.nil _ _ _,arr_own hs (d:=(0:Int)) 0 1 1 _ rfl rfl (Nat.le_refl _) (fun e he=>by
   have:e=0:=by simpa using he
   subst this;rfl),Arr.nil _ _ _,Arr.nil _ _ _,Arr.nil _ _ _⟩ (by simp [MC.ok]) (by decide) (by decide)
  rw [hd] at this
  exact this
 simp (maxSteps:=2000000) only [forkS,go_sem,↓reduceIte,Nat.reduceLT,Nat.reduceLeDiff,Nat.reduceAdd,Nat.reduceSub,Nat.reduceMul,Nat.reduceEqDiff,reduceCtorEq,Int.reduceToNat,Int.reduceEq,Int.reduceBEq,Int.reduceBNe,Int.reduceLT,Int.reduceLE,Int.reduceNeg,Int.reduceAdd,Int.reduceSub,Int.reduceMul,Int.reduceGE,Int.reduceGT,endO,d3T,mcS,mcR,mcA,arrOf,List.getD_cons_zero,List.getD_cons_succ,eI]
 refine callB 5 (d3T (⟨[],[5],[],[],[]⟩,2,6) 0) (mcR ⟨[],[5],[],[],[]⟩) (fun E a w' hs=>?_) ?_
 ·have hd:doM ⟨[],[6,5],[],[],[]⟩ 31 0 0=(⟨[],[5],[],[],[]⟩,2,6):=by decide
  have:=do_Z (w:=w') (m:=⟨[],[6,5],[],[],[]⟩) 31 0 0 (cont_at hs 1 rfl rfl rfl rfl rfl) (by simp [MC.ok]) (by decide) (by decide)
  rw [hd] at this
  exact this
 simp (maxSteps:=2000000) only [forkS,go_sem,↓reduceIte,Nat.reduceLT,Nat.reduceLeDiff,Nat.reduceAdd,Nat.reduceSub,Nat.reduceMul,Nat.reduceEqDiff,reduceCtorEq,Int.reduceToNat,Int.reduceEq,Int.reduceBEq,Int.reduceBNe,Int.reduceLT,Int.reduceLE,Int.reduceNeg,Int.reduceAdd,Int.reduceSub,Int.reduceMul,Int.reduceGE,Int.reduceGT,endO,d3T,mcS,mcR,mcA,arrOf,List.getD_cons_zero,List.getD_cons_succ,eI]
 exact retV fun E=>by simp [SV.den,SC.den]
end Go.Proofs.Ytgljbdcamagdbaa.Z
namespace Go.Proofs.Ytgljbdcamagdbaa.Z
open Go Go.RowKit
structure Cl where
 thread:Int
 op:Int
 arg:Int
 data:Int
 beg:Int
 fin:Int
 point:Int
 kind:Int
 val:Int
 deriving DecidableEq
def iv (n:Int):Value:=.int .i64 n
def Cl.enc (c:Cl):List Value:=[iv c.thread,iv c.op,iv c.arg,iv c.data,iv c.beg,iv c.fin,iv c.point,iv c.kind,iv c.val]
def Cl.sc (c:Cl):List SC:=[.v (iv c.thread),.v (iv c.op),.v (iv c.arg),.v (iv c.data),.v (iv c.beg),.v (iv c.fin),.v (iv c.point),.v (iv c.kind),.v (iv c.val)]
end Go.Proofs.Ytgljbdcamagdbaa.Z
namespace Go.Proofs.Ytgljbdcamagdbaa.Z
open Go Go.RowKit
def ir29:IR:=(.seq (.ops [⟨(some 2),(.box 29 (.t 0)),none⟩,⟨(some 3),(.box 55 (.t 1)),none⟩,⟨(some 4),(.new 29 [(.v (.slice none 0 0)),(.v (.slice none 0 0)),(.v (.slice none 0 0)),(.v (.slice none 0 0)),(.v (.slice none 0 0))]),none⟩,⟨(some 5),(.mv (.k (.c (.v (.bool false))))),none⟩,⟨(some 6),(.mv (.k (.c (.v (.int .i64 0))))),none⟩]) (.kill [0,1,5,6,7,8,9,10,11] (.seq (.ops [⟨(some 11),(.ld true 5 (.t 2)),none⟩,⟨(some 12),(.fa 1 (.t 3)),none⟩,⟨(some 13),(.ld false 1 (.t 12)),none⟩,⟨(some 14),(.fa 2 (.t 3)),none⟩,⟨(some 15),(.ld false 1 (.t 14)),none⟩,⟨(some 16),(.fa 3 (.t 3)),none⟩,⟨(some 17),(.ld false 1 (.t 16)),none⟩,⟨(some 18),(.call 25 [(.t 11),(.t 13),(.t 15),(.t 17)]),none⟩,⟨(some 10),(.mv (.t 18)),none⟩,⟨(some 19),(.ext 0 (.t 10)),none⟩,⟨(some 20),(.ext 1 (.t 10)),none⟩,⟨(some 21),(.ext 2 (.t 10)),none⟩,⟨(some 7),(.new 29 [(.v (.slice none 0 0)),(.v (.slice none 0 0)),(.v (.slice none 0 0)),(.v (.slice none 0 0)),(.v (.slice none 0 0))]),none⟩,⟨(some 8),(.new 42 [(.v (.int .i64 0)),(.v (.int .i64 0))]),none⟩,⟨none,(.st 5 (.t 7) (.t 19)),none⟩,⟨none,(.st 2 (.t 8) (.t 20)),none⟩,⟨(some 9),(.mv (.t 21)),none⟩]) (.kill [10,11,12,13,14,15,16,17,18,19,20,21] (.seq (.seq (.ops [⟨(some 22),(.mv (.t 9)),none⟩,⟨(some 23),(.bin .neq (.t 22) (.k (.c (.v (.int .i64 0))))),none⟩]) (.kill [22] (.cond (.t 23) (.seq (.ops [⟨(some 24),(.build [(.v (.slice none 0 0)),(.v (.slice none 0 0)),(.v (.slice none 0 0)),(.v (.slice none 0 0)),(.v (.slice none 0 0))] []),none⟩,⟨(some 25),(.mv (.t 9)),none⟩,⟨none,(.st 5 (.t 4) (.t 24)),none⟩,⟨(some 5),(.mv (.k (.c (.v (.bool false))))),none⟩,⟨(some 6),(.mv (.t 25)),none⟩]) (.kill [2,3,7,8,9,23,24,25] .ret)) .skip))) (.kill [5,6,9,23] (.seq (.blk 0 (.seq (.ops [⟨(some 27),(.fa 7 (.t 3)),none⟩,⟨(some 28),(.fa 0 (.t 27)),none⟩,⟨(some 29),(.ld false 1 (.t 28)),none⟩,⟨(some 30),(.bin .eql (.t 29) (.k (.c (.v (.int .i64 0))))),none⟩,⟨(some 26),(.mv (.t 30)),none⟩]) (.kill [27,28,29,30] (.cond (.t 26) (.seq (.ops [⟨(some 31),(.ld true 5 (.t 7)),none⟩,⟨none,(.st 5 (.t 4) (.t 31)),none⟩,⟨(some 5),(.mv (.k (.c (.v (.bool true))))),none⟩,⟨(some 6),(.mv (.k (.c (.v (.int .i64 0))))),none⟩]) (.kill [2,3,7,8,26,31] .ret)) (.seq (.ops [⟨(some 33),(.fa 7 (.t 3)),none⟩,⟨(some 34),(.fa 0 (.t 33)),none⟩,⟨(some 35),(.ld false 1 (.t 34)),none⟩,⟨(some 36),(.bin .eql (.t 35) (.k (.c (.v (.int .i64 4))))),none⟩,⟨(some 32),(.mv (.t 36)),none⟩]) (.kill [26,33,34,35,36] (.cond (.t 32) (.seq (.seq (.draw [(⟨(some 37),(.ld true 5 (.t 2)),none⟩,([],[38,39,40,42,43])),(⟨(some 38),(.fa 1 (.t 3)),none⟩,([0],[37,42,43])),(⟨(some 39),(.ld false 1 (.t 38)),none⟩,([0],[37,42,43])),(⟨(some 40),(.call 16 [(.t 39)]),none⟩,([0],[37,42,43])),(⟨(some 41),(.call 41 [(.t 37),(.t 40)]),none⟩,([],[42,43])),(⟨(some 42),(.fa 1 (.t 3)),none⟩,([0,1,2,3,4],[37,38,39,40,41])),(⟨(some 43),(.ld false 1 (.t 42)),none⟩,([0,1,2,3,4],[37,38,39,40,41])),(⟨(some 44),(.call 46 [(.t 41),(.t 43)]),none⟩,([],[]))]) (.kill [3,7,8,32,37,38,39,40,41,42,43] (.cond (.t 44) (.seq (.ops [⟨(some 45),(.ld true 5 (.t 2)),none⟩,⟨(some 46),(.call 42 [(.t 45)]),none⟩,⟨none,(.st 5 (.t 4) (.t 46)),none⟩,⟨(some 5),(.mv (.k (.c (.v (.bool true))))),none⟩,⟨(some 6),(.mv (.k (.c (.v (.int .i64 0))))),none⟩]) (.kill [2,44,45,46] .ret)) .skip))) (.kill [2,5,6,44] (.seq (.ops [⟨(some 47),(.build [(.v (.slice none 0 0)),(.v (.slice none 0 0)),(.v (.slice none 0 0)),(.v (.slice none 0 0)),(.v (.slice none 0 0))] []),none⟩,⟨none,(.st 5 (.t 4) (.t 47)),none⟩,⟨(some 5),(.mv (.k (.c (.v (.bool false))))),none⟩,⟨(some 6),(.mv (.k (.c (.v (.int .i64 0))))),none⟩]) (.kill [47] .ret)))) (.seq (.ops [⟨(some 49),(.fa 7 (.t 3)),none⟩,⟨(some 50),(.ld true 2 (.t 49)),none⟩,⟨(some 51),(.ld true 2 (.t 8)),none⟩,⟨(some 52),(.eqa false [true,true] (.t 50) (.t 51)),none⟩,⟨(some 48),(.mv (.t 52)),none⟩]) (.kill [2,3,8,32,49,50,51,52] (.cond (.t 48) (.seq (.ops [⟨(some 53),(.ld true 5 (.t 7)),none⟩,⟨none,(.st 5 (.t 4) (.t 53)),none⟩,⟨(some 5),(.mv (.k (.c (.v (.bool true))))),none⟩,⟨(some 6),(.mv (.k (.c (.v (.int .i64 0))))),none⟩]) (.kill [7,48,53] .ret)) .skip)))))))))) (.kill [2,3,5,6,7,8,26,27,28,29,30,31,32,33,34,35,36,37,38,39,40,41,42,43,44,45,46,47,48,49,50,51,52,53] (.seq (.ops [⟨(some 54),(.build [(.v (.slice none 0 0)),(.v (.slice none 0 0)),(.v (.slice none 0 0)),(.v (.slice none 0 0)),(.v (.slice none 0 0))] []),none⟩,⟨none,(.st 5 (.t 4) (.t 54)),none⟩,⟨(some 5),(.mv (.k (.c (.v (.bool false))))),none⟩,⟨(some 6),(.mv (.k (.c (.v (.int .i64 0))))),none⟩]) (.kill [54] .ret))))))))))
def rs29:List RS:=[(.cell 4 true 5),(.t 5),(.t 6)]
def nt29:Nat:=55
end Go.Proofs.Ytgljbdcamagdbaa.Z
namespace Go.Proofs.Ytgljbdcamagdbaa.Z
open Go Go.RowKit Go.ChangeShapes Go.WideShapes Go.ChangeAt
theorem reach_lenZ {α:Type} {x:List α} {s:Nat} {ws:List Nat} (hr:∀ k∈ws,k≤reachBytes) (h:x=[]∨∃ k∈ws,x.length * s≤k):x.length * s≤140737488351232:=by
 rcases h with rfl | ⟨k,hk,h⟩
 ·simp
 ·have:=hr k hk
  unfold reachBytes at this
  omega
def _root_.Go.Proofs.Ytgljbdcamagdbaa.MC.upto (m:MC) (n:Nat):Prop:=m.cell.length≤n∧m.stack.length≤n∧m.queue.length≤n∧m.set.length≤n∧m.table.length≤n
theorem _root_.Go.Proofs.Ytgljbdcamagdbaa.MC.upto.okR {m:MC} {n:Nat} (h:m.upto n) (hn:n≤4000000000000):MC.okR m:=by
 obtain ⟨h0,h1,h2,h3,h4⟩:=h
 simp only [MC.okR,MC.ok]
 omega
section
variable {H:Type} {enc:TypeId×Value→H} {w:World}
set_option maxRecDepth 100000 in
theorem open_contZ {base:Nat} {v:Value} {d:DataW H} {p:List MemPlace} (hv:Value.okWide Try.prog w .any base 29 v) (h:DataW.Trod enc Try.prog w 0 (fun _=>true) true 29 v d p) :
  ∃ m,Cont w v m∧m.upto (Rows.uptoBulk d)∧((∀ k∈d.weights Try.prog 29,k≤reachBytes)→MC.okR m):=by
 obtain ⟨cs,rfl,hsz⟩:=okWide_struct Try.underlying29 hv
 obtain ⟨l⟩:=cs
 obtain ⟨fuel,hf⟩:=h
 match l,hsz.trans cellsC with
 | [c0,c1,c2,c3,c4],_ =>
  have L:=leaf_of 9 _ _ leavesC fuel _ _ hf
  obtain ⟨x0,a0,b0,w0⟩:=leaf_ints (L 0 26 c0 rfl rfl)
  obtain ⟨x1,a1,b1,w1⟩:=leaf_ints (L 1 26 c1 rfl rfl)
  obtain ⟨x2,a2,b2,w2⟩:=leaf_ints (L 2 26 c2 rfl rfl)
  obtain ⟨x3,a3,b3,w3⟩:=leaf_ints (L 3 26 c3 rfl rfl)
  obtain ⟨x4,a4,b4,w4⟩:=leaf_pairs (L 4 27 c4 rfl rfl)
  refine ⟨⟨x0,x1,x2,x3,x4⟩,⟨_,_,_,_,_,rfl,a0,a1,a2,a3,a4⟩,⟨by have:=b0;have:=b1;have:=b2;have:=b3;have:=b4;simp only at *;omega,by have:=b0;have:=b1;have:=b2;have:=b3;have:=b4;simp only at *;omega,by have:=b0;have:=b1;have:=b2;have:=b3;have:=b4;simp only at *;omega,by have:=b0;have:=b1;have:=b2;have:=b3;have:=b4;simp only at *;omega,by have:=b0;have:=b1;have:=b2;have:=b3;have:=b4;simp only at *;omega⟩,fun hr=>?_⟩
  have e0:=reach_lenZ hr w0
  have e1:=reach_lenZ hr w1
  have e2:=reach_lenZ hr w2
  have e3:=reach_lenZ hr w3
  have e4:=reach_lenZ hr w4
  simp only [MC.okR,MC.ok]
  omega
end
end Go.Proofs.Ytgljbdcamagdbaa.Z
namespace Go.Proofs.Ytgljbdcamagdbaa
open Go.RowKit
theorem ins_len {α:Type} (l:List α) (i:Nat) (x:α):(insAt l i x).length=l.length+1:=by
 unfold insAt
 simp only [List.length_append,List.length_take,List.length_cons,List.length_drop]
 omega
theorem del_len {α:Type} (l:List α) (i:Nat):(delAt l i).length≤l.length:=by
 unfold delAt
 simp only [List.length_append,List.length_take,List.length_drop]
 omega
theorem doCell_len (l:List Int) (op arg:Int):(doCell l op arg).1.length≤max 1 l.length:=by
 unfold doCell
 split
 ·simp only [List.length_cons,List.length_nil];omega
 ·split
  ·simp only [List.length_nil];omega
  ·simp only [List.length_cons];omega
theorem doStack_len (l:List Int) (op arg:Int):(doStack l op arg).1.length≤l.length+1:=by
 unfold doStack
 split
 ·simp
 ·split <;> simp <;> omega
theorem doQueue_len (l:List Int) (op arg:Int):(doQueue l op arg).1.length≤l.length+1:=by
 unfold doQueue
 split
 ·simp
 ·split <;> simp <;> omega
theorem doSet_len (l:List Int) (op arg:Int):(doSet l op arg).1.length≤l.length+1:=by
 unfold doSet
 have h:=del_len l (pos l arg)
 (repeat' split) <;> simp [ins_len] <;> omega
theorem doTable_len (l:List (Int×Int)) (op arg data:Int):(doTable l op arg data).1.length≤l.length+1:=by
 unfold doTable
 have h:=del_len l (pos (keys l) arg)
 (repeat' split) <;> simp [ins_len] <;> omega
end Go.Proofs.Ytgljbdcamagdbaa
namespace Go.Proofs.Ytgljbdcamagdbaa.Z
open Go Go.RowKit
theorem mc0_may:mayB mc0=true:=by decide
end Go.Proofs.Ytgljbdcamagdbaa.Z
namespace Go.Proofs.Ytgljbdcamagdbaa.Z
open Go Go.RowKit
def ir32:IR:=(.seq (.ops [⟨(some 2),(.box 29 (.t 0)),none⟩,⟨(some 4),(.new 29 [(.v (.slice none 0 0)),(.v (.slice none 0 0)),(.v (.slice none 0 0)),(.v (.slice none 0 0)),(.v (.slice none 0 0))]),none⟩,⟨(some 5),(.mv (.k (.c (.v (.int .i64 0))))),none⟩,⟨(some 6),(.mv (.k (.c (.v (.int .i64 0))))),none⟩]) (.kill [0,3,5,6,7,8,9,10,11] (.seq (.seq (.ops [⟨(some 15),(.ld true 5 (.t 2)),none⟩,⟨(some 16),(.call 18 [(.t 15)]),none⟩,⟨(some 17),(.un .not (.t 16)),none⟩]) (.kill [15,16] (.cond (.t 17) (.seq (.ops [⟨(some 18),(.build [(.v (.slice none 0 0)),(.v (.slice none 0 0)),(.v (.slice none 0 0)),(.v (.slice none 0 0)),(.v (.slice none 0 0))] []),none⟩,⟨none,(.st 5 (.t 4) (.t 18)),none⟩,⟨(some 5),(.mv (.k (.c (.v (.int .i64 0))))),none⟩,⟨(some 6),(.mv (.k (.c (.v (.int .i64 111))))),none⟩]) (.kill [1,2,17,18] .ret)) .skip))) (.kill [5,6,17] (.seq (.seq (.ops [⟨(some 19),(.mv (.t 1)),none⟩,⟨(some 20),(.len (.t 19)),none⟩,⟨(some 21),(.mv (.k (.c (.v (.int .i64 0))))),none⟩]) (.blk 0 (.loop (.seq (.ops [⟨(some 22),(.bin .lss (.t 21) (.t 20)),none⟩]) (.kill [5,6,8,23,24,25,26,27,28,29,30] (.seq (.cond (.t 22) .skip (.exit 0)) (.kill [22] (.seq (.blk 1 (.seq (.ops [⟨(some 23),(.ia 9 (.t 19) (.t 21)),none⟩,⟨(some 24),(.ld true 9 (.t 23)),none⟩,⟨(some 8),(.new 55 [(.v (.int .i64 0)),(.v (.int .i64 0)),(.v (.int .i64 0)),(.v (.int .i64 0)),(.v (.int .i64 0)),(.v (.int .i64 0)),(.v (.int .i64 0)),(.v (.int .i64 0)),(.v (.int .i64 0))]),none⟩,⟨none,(.st 9 (.t 8) (.t 24)),none⟩]) (.kill [23,24] (.seq (.ops [⟨(some 25),(.fa 1 (.t 8)),none⟩,⟨(some 26),(.ld false 1 (.t 25)),none⟩,⟨(some 27),(.call 16 [(.t 26)]),none⟩,⟨(some 28),(.bin .eql (.t 27) (.k (.c (.v (.int .i64 0))))),none⟩]) (.kill [8,25,26,27] (.cond (.t 28) (.seq (.ops [⟨(some 29),(.build [(.v (.slice none 0 0)),(.v (.slice none 0 0)),(.v (.slice none 0 0)),(.v (.slice none 0 0)),(.v (.slice none 0 0))] []),none⟩,⟨none,(.st 5 (.t 4) (.t 29)),none⟩,⟨(some 5),(.mv (.k (.c (.v (.int .i64 0))))),none⟩,⟨(some 6),(.mv (.k (.c (.v (.int .i64 110))))),none⟩]) (.kill [1,2,19,20,21,28,29] .ret)) .skip)))))) (.kill [5,6,8,23,24,25,26,27,28,29] (.ops [⟨(some 30),(.bin .add (.t 21) (.k (.c (.v (.int .i64 1))))),none⟩,⟨(some 21),(.mv (.t 30)),none⟩])))))))))) (.kill [5,6,8,19,20,21,22,23,24,25,26,27,28,29,30] (.seq (.ops [⟨(some 31),(.ld true 5 (.t 2)),none⟩,⟨(some 32),(.call 42 [(.t 31)]),none⟩,⟨(some 9),(.new 29 [(.v (.slice none 0 0)),(.v (.slice none 0 0)),(.v (.slice none 0 0)),(.v (.slice none 0 0)),(.v (.slice none 0 0))]),none⟩,⟨none,(.st 5 (.t 9) (.t 32)),none⟩]) (.kill [2,31,32] (.seq (.seq (.ops [⟨(some 33),(.mv (.t 1)),none⟩,⟨(some 34),(.len (.t 33)),none⟩,⟨(some 35),(.mv (.k (.c (.v (.int .i64 0))))),none⟩]) (.kill [1] (.blk 2 (.loop (.seq (.ops [⟨(some 36),(.bin .lss (.t 35) (.t 34)),none⟩]) (.kill [5,6,10,11,12,13,14,37,38,39,40,41,42,43,44,45,46,47,48,49,50,51,52] (.seq (.cond (.t 36) .skip (.exit 2)) (.kill [36] (.seq (.blk 3 (.seq (.ops [⟨(some 37),(.mv (.t 35)),none⟩,⟨(some 38),(.ia 9 (.t 33) (.t 35)),none⟩,⟨(some 39),(.ld true 9 (.t 38)),none⟩,⟨(some 11),(.new 55 [(.v (.int .i64 0)),(.v (.int .i64 0)),(.v (.int .i64 0)),(.v (.int .i64 0)),(.v (.int .i64 0)),(.v (.int .i64 0)),(.v (.int .i64 0)),(.v (.int .i64 0)),(.v (.int .i64 0))]),none⟩,⟨(some 10),(.mv (.t 37)),none⟩,⟨none,(.st 9 (.t 11) (.t 39)),none⟩]) (.kill [37,38,39] (.seq (.ops [⟨(some 41),(.ld true 5 (.t 9)),none⟩,⟨(some 42),(.ld true 9 (.t 11)),none⟩,⟨(some 43),(.call 29 [(.t 41),(.t 42)]),none⟩,⟨(some 40),(.mv (.t 43)),none⟩,⟨(some 44),(.ext 0 (.t 40)),none⟩,⟨(some 45),(.ext 1 (.t 40)),none⟩,⟨(some 46),(.ext 2 (.t 40)),none⟩,⟨(some 12),(.new 29 [(.v (.slice none 0 0)),(.v (.slice none 0 0)),(.v (.slice none 0 0)),(.v (.slice none 0 0)),(.v (.slice none 0 0))]),none⟩,⟨none,(.st 5 (.t 12) (.t 44)),none⟩,⟨(some 13),(.mv (.t 45)),none⟩,⟨(some 14),(.mv (.t 46)),none⟩]) (.kill [11,14,40,41,42,43,44,45,46] (.seq (.seq (.ops [⟨(some 47),(.mv (.t 13)),none⟩,⟨(some 48),(.un .not (.t 47)),none⟩]) (.kill [13,47] (.cond (.t 48) (.seq (.ops [⟨(some 49),(.ld true 5 (.t 9)),none⟩,⟨(some 50),(.mv (.t 10)),none⟩,⟨none,(.st 5 (.t 4) (.t 49)),none⟩,⟨(some 5),(.mv (.t 50)),none⟩,⟨(some 6),(.mv (.k (.c (.v (.int .i64 0))))),none⟩]) (.kill [9,10,12,33,34,35,48,49,50] .ret)) .skip))) (.kill [5,6,10,48] (.ops [⟨(some 51),(.ld true 5 (.t 12)),none⟩,⟨none,(.st 5 (.t 9) (.t 51)),none⟩])))))))) (.kill [5,6,10,11,12,13,14,37,38,39,40,41,42,43,44,45,46,47,48,49,50,51] (.ops [⟨(some 52),(.bin .add (.t 35) (.k (.c (.v (.int .i64 1))))),none⟩,⟨(some 35),(.mv (.t 52)),none⟩]))))))))))) (.kill [5,6,10,11,12,13,14,33,34,35,36,37,38,39,40,41,42,43,44,45,46,47,48,49,50,51,52] (.seq (.ops [⟨(some 53),(.ld true 5 (.t 9)),none⟩,⟨none,(.st 5 (.t 4) (.t 53)),none⟩,⟨(some 5),(.mv (.k (.c (.v (.int .i64 (-1)))))),none⟩,⟨(some 6),(.mv (.k (.c (.v (.int .i64 0))))),none⟩]) (.kill [9,53] .ret))))))))))))
def rs32:List RS:=[(.cell 4 true 5),(.t 5),(.t 6)]
def nt32:Nat:=54
end Go.Proofs.Ytgljbdcamagdbaa.Z
namespace Go.Proofs.Ytgljbdcamagdbaa.Z
open Go Go.RowKit
def ir28:IR:=(.seq (.ops [⟨(some 1),(.box 29 (.t 0)),none⟩,⟨(some 2),(.new 29 [(.v (.slice none 0 0)),(.v (.slice none 0 0)),(.v (.slice none 0 0)),(.v (.slice none 0 0)),(.v (.slice none 0 0))]),none⟩]) (.kill [0,3,4,5,6,7,8,9,10,11] (.seq (.seq (.ops [⟨(some 3),(.ld true 5 (.t 1)),none⟩,⟨(some 4),(.call 20 [(.t 3)]),none⟩,⟨(some 5),(.un .not (.t 4)),none⟩]) (.kill [3,4] (.cond (.t 5) (.seq (.ops [⟨(some 6),(.build [(.v (.slice none 0 0)),(.v (.slice none 0 0)),(.v (.slice none 0 0)),(.v (.slice none 0 0)),(.v (.slice none 0 0))] []),none⟩,⟨none,(.st 5 (.t 2) (.t 6)),none⟩]) (.kill [1,5,6] .ret)) .skip))) (.kill [5] (.seq (.ops [⟨(some 7),(.ld true 5 (.t 1)),none⟩,⟨(some 8),(.call 22 [(.t 7)]),none⟩,⟨none,(.st 5 (.t 2) (.t 8)),none⟩]) (.kill [1,7,8] .ret))))))
def rs28:List RS:=[(.cell 2 true 5)]
def nt28:Nat:=9
def ir31:IR:=(.seq (.ops [⟨(some 2),(.mv (.k (.c (.v (.int .i64 0))))),none⟩]) (.kill [1,2,3,4,5,6,7,8,9,10,11] (.seq (.ops [⟨(some 3),(.call 48 []),none⟩,⟨(some 4),(.mv (.t 0)),none⟩,⟨(some 5),(.conv .u64 (.t 4)),none⟩,⟨(some 6),(.bin .rem (.t 5) (.k (.c (.v (.int .u64 12))))),none⟩,⟨(some 7),(.conv .i64 (.t 6)),none⟩,⟨(some 8),(.ia 1 (.t 3) (.t 7)),none⟩,⟨(some 9),(.ld false 1 (.t 8)),none⟩,⟨(some 2),(.mv (.t 9)),none⟩]) (.kill [0,3,4,5,6,7,8,9] .ret))))
def rs31:List RS:=[(.t 2)]
def nt31:Nat:=10
def ir48:IR:=(.seq (.ops [⟨(some 0),(.mv (.k (.c (.v (.slice none 0 0))))),none⟩]) (.kill [0,1,2,3,4,5,6,7,8,9,10,11] (.seq (.ops [⟨(some 1),(.mkSl 3 12 1 [(.v (.int .i64 0)),(.v (.int .i64 0)),(.v (.int .i64 0)),(.v (.int .i64 0)),(.v (.int .i64 0)),(.v (.int .i64 0)),(.v (.int .i64 0)),(.v (.int .i64 0)),(.v (.int .i64 0)),(.v (.int .i64 0)),(.v (.int .i64 0)),(.v (.int .i64 0))] [(0,(1,(.k (.c (.v (.int .i64 22)))))),(1,(1,(.k (.c (.v (.int .i64 23)))))),(2,(1,(.k (.c (.v (.int .i64 30)))))),(3,(1,(.k (.c (.v (.int .i64 31)))))),(4,(1,(.k (.c (.v (.int .i64 40)))))),(5,(1,(.k (.c (.v (.int .i64 41)))))),(6,(1,(.k (.c (.v (.int .i64 50)))))),(7,(1,(.k (.c (.v (.int .i64 51)))))),(8,(1,(.k (.c (.v (.int .i64 52)))))),(9,(1,(.k (.c (.v (.int .i64 60)))))),(10,(1,(.k (.c (.v (.int .i64 61)))))),(11,(1,(.k (.c (.v (.int .i64 62))))))]),none⟩,⟨(some 0),(.mv (.t 1)),none⟩]) (.kill [1] .ret))))
def rs48:List RS:=[(.t 0)]
def nt48:Nat:=2
def rightZ (m:MC):MC:=if mayB m=true then m else mc0
theorem rightZ_may (m:MC):mayB (rightZ m)=true:=by unfold rightZ;split <;> first | assumption | exact mc0_may
set_option maxRecDepth 100000 in
set_option maxHeartbeats 400000 in
theorem right_Z {w:World} {v:Value} {m:MC} (h:Cont w v m) (hok:m.ok 0):Calls Try.prog 28 #[v] w (RetB w (fun _=>True) 5 cT (mcR (rightZ m))):=by
 refine enterC (A:=[]) (c:=ir28) (rs:=rs28) (nt:=nt28) h [.agg (mcS 0)] _ Try.func28 rfl (by kernel_rfl) (by kernel_rfl) rfl (fun E' h0=>by rw [List.map_cons,h0];rfl) (of_decide_eq_true rfl) ?_
 simp (maxSteps:=2000000) only [ir28,nt28,rs28,go_sem,↓reduceIte,Nat.reduceLT,Nat.reduceLeDiff,Nat.reduceAdd,Nat.reduceSub,Nat.reduceMul,Nat.reduceEqDiff,reduceCtorEq,Int.reduceToNat,Int.reduceEq,Int.reduceBEq,Int.reduceBNe,Int.reduceLT,Int.reduceLE,Int.reduceNeg,Int.reduceAdd,Int.reduceSub,Int.reduceMul,Int.reduceGE,Int.reduceGT,Cl.enc,iv,endO,mcS,mcA]
 have cT_ok:∀ (c0 c1 c2 c3 c4:SC) (b:Nat) (E E2:Env),E2.χ (b,0,0)=c0.den E→E2.χ (b+1,0,0)=c1.den E→E2.χ (b+2,0,0)=c2.den E→E2.χ (b+3,0,0)=c3.den E→E2.χ (b+4,0,0)=c4.den E →
  (SV.agg [c0,c1,c2,c3,c4]).den E=(cT b).den E2:=fun c0 c1 c2 c3 c4 b E E2 e0 e1 e2 e3 e4=>by
  simp [cT,mcS,SV.den,SC.den,e0,e1,e2,e3,e4]
 refine callV (.c (.v (.bool (mayB m)))) _ (fun E=>rfl) (fun E a w' hs=>rmay_Z (w:=w') (cont_at hs 0 rfl rfl rfl rfl rfl) (m:=m)) ?_
 by_cases hm:mayB m=true
 ·rw [hm]
  simp (maxSteps:=2000000) only [go_sem,↓reduceIte,Nat.reduceLT,Nat.reduceLeDiff,Nat.reduceAdd,Nat.reduceSub,Nat.reduceMul,Nat.reduceEqDiff,reduceCtorEq,Int.reduceToNat,Int.reduceEq,Int.reduceBEq,Int.reduceBNe,Int.reduceLT,Int.reduceLE,Int.reduceNeg,Int.reduceAdd,Int.reduceSub,Int.reduceMul,Int.reduceGE,Int.reduceGT,Cl.enc,iv,endO]
  have hr:rightZ m=m:=by unfold rightZ;rw [if_pos hm]
  rw [hr]
  refine callL 5 cT (mcR m) (mcR_sz m) (fun E a w' hs=>copy_Z (cont_at hs 0 rfl rfl rfl rfl rfl) hok) ?_
  simp (maxSteps:=2000000) only [go_sem,↓reduceIte,Nat.reduceLT,Nat.reduceLeDiff,Nat.reduceAdd,Nat.reduceSub,Nat.reduceMul,Nat.reduceEqDiff,reduceCtorEq,Int.reduceToNat,Int.reduceEq,Int.reduceBEq,Int.reduceBNe,Int.reduceLT,Int.reduceLE,Int.reduceNeg,Int.reduceAdd,Int.reduceSub,Int.reduceMul,Int.reduceGE,Int.reduceGT,Cl.enc,iv,endO,cT,mcS,low_mcR,mcA,mkC_B]
  exact retB5 _ _ _ _ _ (rdN_lo 7 rfl (Nat.le_refl _)) (rdN_lo 8 rfl (Nat.le_refl _)) (rdN_lo 9 rfl (Nat.le_refl _)) (rdN_lo 10 rfl (Nat.le_refl _)) (rdN_lo 11 rfl (Nat.le_refl _)) (cT_ok _ _ _ _ _)
 ·have hm:mayB m=false:=by simpa using hm
  rw [hm]
  simp (maxSteps:=2000000) only [go_sem,↓reduceIte,Nat.reduceLT,Nat.reduceLeDiff,Nat.reduceAdd,Nat.reduceSub,Nat.reduceMul,Nat.reduceEqDiff,reduceCtorEq,Int.reduceToNat,Int.reduceEq,Int.reduceBEq,Int.reduceBNe,Int.reduceLT,Int.reduceLE,Int.reduceNeg,Int.reduceAdd,Int.reduceSub,Int.reduceMul,Int.reduceGE,Int.reduceGT,Cl.enc,iv,endO]
  have hr:rightZ m=mc0:=by unfold rightZ;rw [if_neg (by simp [hm])]
  rw [hr]
  exact retB5 _ _ _ _ _ rdN_nil rdN_nil rdN_nil rdN_nil rdN_nil (cT_ok _ _ _ _ _)
def opsL:List Int:=[22,23,30,31,40,41,50,51,52,60,61,62]
set_option maxRecDepth 100000 in
set_option maxHeartbeats 400000 in
theorem ops_Z (w:World):Calls Try.prog 48 #[] w (RetN w 1 (lsT 1 12) (lsO 3 1 eI opsL 0)):=by
 refine enter0 (A:=[]) (c:=ir48) (rs:=rs48) (nt:=nt48) [] _ Try.func48 rfl (by kernel_rfl) (by kernel_rfl) rfl (fun E'=>rfl) (of_decide_eq_true rfl) ?_
 simp (maxSteps:=2000000) only [ir48,nt48,rs48,go_sem,↓reduceIte,Nat.reduceLT,Nat.reduceLeDiff,Nat.reduceAdd,Nat.reduceSub,Nat.reduceMul,Nat.reduceEqDiff,reduceCtorEq,Int.reduceToNat,Int.reduceEq,Int.reduceBEq,Int.reduceBNe,Int.reduceLT,Int.reduceLE,Int.reduceNeg,Int.reduceAdd,Int.reduceSub,Int.reduceMul,Int.reduceGE,Int.reduceGT,Cl.enc,iv,endO]
 refine ⟨by decide,?_⟩
 exact retList (xs:=opsL) 0 12 _ rfl (Nat.le_refl _) fun e he=>by
  have he:e<12:=he
  match e,he with
  | 0,_=>rfl
  | 1,_=>rfl
  | 2,_=>rfl
  | 3,_=>rfl
  | 4,_=>rfl
  | 5,_=>rfl
  | 6,_=>rfl
  | 7,_=>rfl
  | 8,_=>rfl
  | 9,_=>rfl
  | 10,_=>rfl
  | 11,_=>rfl
def pkZ (n:Int):Nat:=((n % 18446744073709551616) % 12).toNat
def pickZ (n:Int):Int:=opsL.getD (pkZ n) 0
theorem pkZ_lt (n:Int):pkZ n<12:=by unfold pkZ;omega
theorem pickZ_obj (n:Int):objOf (pickZ n)≠0:=by
 have h:=pkZ_lt n
 unfold pickZ
 generalize pkZ n=k at h ⊢
 have key:∀ k:Fin 12,objOf (opsL.getD k.1 0)≠0:=by decide
 exact key ⟨k,h⟩
set_option maxRecDepth 100000 in
set_option maxHeartbeats 400000 in
theorem pick_Z (n:Int) (w:World):Calls Try.prog 31 #[.int .i64 n] w (RetV w (.int .i64 (pickZ n))):=by
 refine enter0 (A:=[]) (c:=ir31) (rs:=rs31) (nt:=nt31) [.c (.v (.int .i64 n))] _ Try.func31 rfl (by kernel_rfl) (by kernel_rfl) rfl (fun E'=>rfl) (of_decide_eq_true rfl) ?_
 simp (maxSteps:=2000000) only [ir31,nt31,rs31,go_sem,↓reduceIte,Nat.reduceLT,Nat.reduceLeDiff,Nat.reduceAdd,Nat.reduceSub,Nat.reduceMul,Nat.reduceEqDiff,reduceCtorEq,Int.reduceToNat,Int.reduceEq,Int.reduceBEq,Int.reduceBNe,Int.reduceLT,Int.reduceLE,Int.reduceNeg,Int.reduceAdd,Int.reduceSub,Int.reduceMul,Int.reduceGE,Int.reduceGT,Cl.enc,iv,endO]
 refine callN 1 (lsT 1 12) (lsO 3 1 eI opsL 0) (fun E a w' hs=>ops_Z w') ?_
 have h1:IntKind.u64.wrap n=n % 18446744073709551616:=by simp [IntKind.wrap,IntKind.bits,IntKind.signed]
 have h2:IntKind.i64.wrap (Int.tmod (IntKind.u64.wrap n) 12)=((pkZ n:Nat):Int):=by
  rw [h1,Int.tmod_eq_emod_of_nonneg (by omega),wr64 (by omega) (by omega)]
  unfold pkZ
  omega
 have h3:=pkZ_lt n
 simp (maxSteps:=2000000) only [go_sem,↓reduceIte,Nat.reduceLT,Nat.reduceLeDiff,Nat.reduceAdd,Nat.reduceSub,Nat.reduceMul,Nat.reduceEqDiff,reduceCtorEq,Int.reduceToNat,Int.reduceEq,Int.reduceBEq,Int.reduceBNe,Int.reduceLT,Int.reduceLE,Int.reduceNeg,Int.reduceAdd,Int.reduceSub,Int.reduceMul,Int.reduceGE,Int.reduceGT,Cl.enc,iv,endO,lsT,lsO,ats,eI,h2]
 have hl:opsL.length=12:=rfl
 exact ⟨by decide,⟨by omega,by omega⟩,by omega,retV fun E=>by rw [den_c,den_v];rfl⟩
end Go.Proofs.Ytgljbdcamagdbaa.Z
