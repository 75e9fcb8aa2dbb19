/- WitnessFreshSaid: what its proof is made of. No condition. -/
import Derived.Test.YtkjeedlkkpgopaaPkWitnessFreshAK
set_option linter.unusedSimpArgs false
set_option linter.unusedVariables false
namespace Go.Proofs.Ytkjeedlkkpgopaa.Z
open Go Go.RowKit
def mcA (i:Nat) (m:MC) (l:Nat:=0):List (Nat×Fm ArrF):=[(i,.one (arrOf eI 1 m.cell 0 l)),(i+1,.one (arrOf eI 1 m.stack 0 l)),(i+2,.one (arrOf eI 1 m.queue 0 l)),(i+3,.one (arrOf eI 1 m.set 0 l)),(i+4,.one (arrOf eP 2 m.table (0,0) l))]
def mcS (i:Nat):List SC:=[.xv (i,0,0),.xv (i+1,0,0),.xv (i+2,0,0),.xv (i+3,0,0),.xv (i+4,0,0)]
def mcR (m:MC) (b:Nat):List (Nat×Fm ArrF):=mcA b m
def mc0:MC:=⟨[],[],[],[],[]⟩
theorem cont_at {C:Ctx} {S:St} {E:Env} {a:Act} {w:World} (hs:Sat C.B C.W C.w0 E S a w) (i:Nat) {m:MC} {l0 l1 l2 l3 l4:Nat} (h0:look S.arrs i=some (.one (arrOf eI 1 m.cell 0 l0))) (h1:look S.arrs (i+1)=some (.one (arrOf eI 1 m.stack 0 l1))) (h2:look S.arrs (i+2)=some (.one (arrOf eI 1 m.queue 0 l2)))
  (h3:look S.arrs (i+3)=some (.one (arrOf eI 1 m.set 0 l3))) (h4:look S.arrs (i+4)=some (.one (arrOf eP 2 m.table (0,0) l4))):Cont w (.agg ((mcS i).map (SC.den E)).toArray) m:=by
 have f:∀ {α:Type} {enc:α→List Value} {s:Nat} {xs:List α} {d:α} {l:Nat} (j:Nat),look S.arrs j=some (.one (arrOf enc s xs d l))→Arr w enc s (E.χ (j,0,0)) xs:=fun {α enc s xs d l} j hj=>arr_at (d:=d) (l:=l) hs j (by simp [atN,hj,Fm.get])
 exact ⟨_,_,_,_,_,by simp [mcS,SC.den],f i h0,f (i+1) h1,f (i+2) h2,f (i+3) h3,f (i+4) h4⟩
theorem cont_0 (w:World):Cont w (.agg #[.slice none 0 0,.slice none 0 0,.slice none 0 0,.slice none 0 0,.slice none 0 0]) mc0 :=
 ⟨_,_,_,_,_,rfl,Arr.nil _ _ _,Arr.nil _ _ _,Arr.nil _ _ _,Arr.nil _ _ _,Arr.nil _ _ _⟩
theorem ownE_stays {α:Type} {w w' : World} {base:Nat} {e:TypeId} {enc:α→List Value} {size:Nat} {v:Value} {xs:List α} (h:OwnE w base e enc size v xs) (hb:∀ n,base≤n→n<w.heap.size→w'.heap[n]? = w.heap[n]?):OwnE w' base e enc size v xs:=by
 rcases h with h | ⟨h1,h⟩
 ·exact Or.inl h
 ·refine Or.inr ⟨h1,?_⟩
  rcases h with h | ⟨g,cap,cur,r1,r2,r3,r4⟩
  ·exact Or.inl h
  ·exact Or.inr ⟨g,cap,cur,r1,r2,(hb g r2 (Array.getElem?_eq_some_iff.1 r3).1).trans r3,r4⟩
def fiv (a b c d e:Value) (i:Nat):Value:=match i with | 0=>a | 1=>b | 2=>c | 3=>d | _=>e
theorem retB_D {w w' : World} {v:Value} {m:MC} (h:OwnD w' w.heap.size v m) (b:Nat):∃ N:Env,OneC N∧∀ E2,AgreeD (NewIds b 5) N E2→v=(SV.agg (mcS b)).den E2 ∧
  ∀ w'' : World,(∀ n,w.heap.size≤n→n<w'.heap.size→w''.heap[n]? = w'.heap[n]?)→∀ x A',atN (mcA b m) x=some A'→ArrAt E2 w'' x A':=by
 obtain ⟨v0,v1,v2,v3,v4,rfl,g0,g1,g2,g3,g4⟩:=h
 have o0:=arr_one (g0.arr eI_ok)
 have o1:=arr_one (g1.arr eI_ok)
 have o2:=arr_one (g2.arr eI_ok)
 have o3:=arr_one (g3.arr eI_ok)
 have o4:=arr_one (g4.arr eP_ok)
 refine ⟨⟨fun _=>0,fun _=>0,fun _=>false,fun x=>fiv v0 v1 v2 v3 v4 (x.1 - b)⟩,fun x=>?_,fun E2 hE=>?_⟩
 ·simp only [fiv]
  split <;> assumption
 have e0:E2.χ (b,0,0)=v0:=by have:=(hE (b,0,0) ⟨by simp,by simp⟩).2.2.2;simpa [fiv] using this
 have e1:E2.χ (b+1,0,0)=v1:=by have:=(hE (b+1,0,0) ⟨by simp,by simp⟩).2.2.2;simpa [fiv] using this
 have e2:E2.χ (b+2,0,0)=v2:=by have:=(hE (b+2,0,0) ⟨by simp,by simp⟩).2.2.2;simpa [fiv] using this
 have e3:E2.χ (b+3,0,0)=v3:=by have:=(hE (b+3,0,0) ⟨by simp,by simp⟩).2.2.2;simpa [fiv] using this
 have e4:E2.χ (b+4,0,0)=v4:=by have:=(hE (b+4,0,0) ⟨by simp,by simp⟩).2.2.2;simpa [fiv] using this
 refine ⟨by simp [mcS,SV.den,SC.den,e0,e1,e2,e3,e4],fun w'' hw'' x A hA=>?_⟩
 rcases atN_one hA with ⟨rfl,rfl⟩ | hA
 ·exact arrAt_of eI_ok (by rw [e0];exact (ownE_stays g0 hw'').arr eI_ok)
 rcases atN_one hA with ⟨rfl,rfl⟩ | hA
 ·exact arrAt_of eI_ok (by rw [e1];exact (ownE_stays g1 hw'').arr eI_ok)
 rcases atN_one hA with ⟨rfl,rfl⟩ | hA
 ·exact arrAt_of eI_ok (by rw [e2];exact (ownE_stays g2 hw'').arr eI_ok)
 rcases atN_one hA with ⟨rfl,rfl⟩ | hA
 ·exact arrAt_of eI_ok (by rw [e3];exact (ownE_stays g3 hw'').arr eI_ok)
 rcases atN_one hA with ⟨rfl,rfl⟩ | hA
 ·exact arrAt_of eP_ok (by rw [e4];exact (ownE_stays g4 hw'').arr eP_ok)
 exact (atN_nil hA).elim
def cT (b:Nat):SV:=.agg (mcS b)
def d3T (d:MC×Int×Int) (n:Int) (b:Nat):SV:=.tup [(true,mcS b),(true,[.v (.int .i64 d.2.1),.v (.int .i64 d.2.2)]),(false,[.v (.int .i64 n)])]
theorem do_Z {v:Value} {m:MC} {w:World} (op arg data:Int) (h:Cont w v m) (hok:m.ok 1) (hm:mayB m=true) (ho:objOf op≠0) :
  Calls Try.prog 86 #[v,.int .i64 op,.int .i64 arg,.int .i64 data] w (RetB w (fun _=>True) 5 (d3T (doM m op arg data) 0) (mcR (doM m op arg data).1)):=by
 refine (mDo op arg data h hok hm ho).mono ?_
 rintro e w' ⟨v',rfl,hown,hb⟩
 refine ⟨_,rfl,hb,fun b=>?_⟩
 obtain ⟨N,h1,h2⟩:=retB_D hown b
 refine ⟨N,h1,fun E2 hE=>?_⟩
 obtain ⟨h3,h4⟩:=h2 E2 hE
 exact ⟨by rw [h3];simp [d3T,SV.den,den1,SC.den],fun w'' _ hw''=>h4 w'' hw''⟩
theorem may_Z {v:Value} {m:MC} {w:World} (h:Cont w v m):Calls Try.prog 90 #[v] w (RetV w (.bool (mayB m))):=mMay h
theorem obj_Z (op:Int) (w:World):Calls Try.prog 59 #[.int .i64 op] w (RetV w (.int .i64 (objOf op))):=by
 refine (mObject op w).mono ?_
 rintro e w' ⟨rfl,rfl⟩
 exact ⟨rfl,Below.refl _ _⟩
theorem cr_valN {C:Ctx} {S:St} {f:Nat} {vs:List SV} (tmpl:SV) (ks:List Nat) (hok:tmpl.okN (·∈ks)) (hc:∀ E a w,Sat C.B C.W C.w0 E S a w→Calls C.P f (vs.map (SV.den E)).toArray w fun e w'=>e = .returned (tmpl.den E)∧Below w.heap.size w w'):CR C f vs S ks tmpl 0 [] []:=by
 intro E a w hs
 refine (hc E a w hs).mono ?_
 rintro e w' ⟨rfl,hb⟩
 exact ⟨_,rfl,E,hs.one,fun E2 _ hk _=>⟨(den_same (p:=(·∈ks)) (fun x hx=>hk x hx) hok).symm,Fits.G ⟨fun H _=>effOk_below hb,fun _ _ x A h=>by simp [atN,look] at h⟩⟩⟩
def RdN (C:Ctx) (S:St) (c:SC) (A:ArrF):Prop:=∀ E a w',SatA C.B C.W C.w0 E S a w'→(c.den E).oneCell' = true ∧
 ∀ w'' : World,(∀ n,C.B≤n→n<w'.heap.size→w''.heap[n]? = w'.heap[n]?)→∀ (E2:Env) (x:Nm),E2.χ x=c.den E→ArrAt E2 w'' x A
theorem rdN_nil {C:Ctx} {S:St} {α:Type} {enc:α→List Value} {s:Nat} {d:α}:RdN C S (.v (.slice none 0 0)) (arrOf enc s [] d):=fun E a w' hs =>
 ⟨by simp [SC.den,Value.oneCell'],fun w'' _ E2 x hx=>⟨none,0,by rw [hx];simp [SC.den,arrOf],Nat.le_refl _,by simp [maxLen],Or.inl rfl⟩⟩
theorem rdN_lo {C:Ctx} {S:St} {α:Type} {enc:α→List Value} {s:Nat} {xs:List α} {d:α} {l:Nat} (i:Nat) (hi:look S.arrs i=some (.one (arrOf enc s xs d l))) (hl:C.B≤l):RdN C S (.xv (i,0,0)) (arrOf enc s xs d):=fun E a w' hs=>by
 obtain ⟨ba,cap,h1,h2,h3,h4⟩:=(holds_of hs.sat).1 (i,0,0) (arrOf enc s xs d l) (by simp [atN,hi,Fm.get])
 refine ⟨by rw [den_xv,h1];rfl,fun w'' hw'' E2 x hx=>?_⟩
 rw [den_xv] at hx
 refine ⟨ba,cap,hx.trans h1,h2,h3,?_⟩
 rcases h4 with h4 | ⟨b,off,h5,h7,h6⟩
 ·exact Or.inl h4
 ·refine Or.inr ⟨b,off,h5,Nat.zero_le _,fun k hk=>⟨(h6 k hk).1,fun j u hu=>?_⟩⟩
  have:=(h6 k hk).2 j u hu
  simp only [arrOf,List.getElem?_map,Option.map_eq_some_iff] at hu
  obtain ⟨u',_,rfl⟩:=hu
  rw [den_v] at this ⊢
  refine ⟨?_,this.2⟩
  have hc:=this.1
  have hlt:b<w'.heap.size:=by
   unfold World.cell? at hc
   cases hh:w'.heap[b]? with
   | none=>rw [hh] at hc;simp at hc
   | some o=>exact (Array.getElem?_eq_some_iff.1 hh).1
  have hge:C.B≤b:=Nat.le_trans hl h7
  unfold World.cell? at hc ⊢
  simp only at hc ⊢
  rw [hw'' b hge hlt]
  exact hc
theorem mcR_sz (m:MC) (b:Nat):∀ x A',atN (mcR m b) x=some A'→0<A'.size:=fun x A' hx=>by
 simp only [mcR,mcA] at hx
 rcases atN_one hx with ⟨_,rfl⟩ | hx
 ·exact Nat.one_pos
 rcases atN_one hx with ⟨_,rfl⟩ | hx
 ·exact Nat.one_pos
 rcases atN_one hx with ⟨_,rfl⟩ | hx
 ·exact Nat.one_pos
 rcases atN_one hx with ⟨_,rfl⟩ | hx
 ·exact Nat.one_pos
 rcases atN_one hx with ⟨_,rfl⟩ | hx
 ·exact Nat.two_pos
 exact (atN_nil hx).elim
theorem low_mcR (l b:Nat) (m:MC):lowL l (mcR m b)=mcA b m l:=rfl
theorem retB5 {P:Program} {A:List Nat} {w:World} {rs:List RS} {Pre:World→Prop} {S:St} {m:MC} {T:Nat→SV} {v:SV} (c0 c1 c2 c3 c4:SC)
  (h0:RdN (mkC P A w rs (RetB w Pre 5 T (mcR m))) S c0 (arrOf eI 1 m.cell 0)) (h1:RdN (mkC P A w rs (RetB w Pre 5 T (mcR m))) S c1 (arrOf eI 1 m.stack 0)) (h2:RdN (mkC P A w rs (RetB w Pre 5 T (mcR m))) S c2 (arrOf eI 1 m.queue 0))
  (h3:RdN (mkC P A w rs (RetB w Pre 5 T (mcR m))) S c3 (arrOf eI 1 m.set 0)) (h4:RdN (mkC P A w rs (RetB w Pre 5 T (mcR m))) S c4 (arrOf eP 2 m.table (0,0)))
  (hT:∀ b (E E2:Env),E2.χ (b,0,0)=c0.den E→E2.χ (b+1,0,0)=c1.den E→E2.χ (b+2,0,0)=c2.den E→E2.χ (b+3,0,0)=c3.den E→E2.χ (b+4,0,0)=c4.den E→v.den E=(T b).den E2) :
  RetVC (mkC P A w rs (RetB w Pre 5 T (mcR m))) v S:=by
 intro E a w' hs
 obtain ⟨o0,r0⟩:=h0 E a w' hs
 obtain ⟨o1,r1⟩:=h1 E a w' hs
 obtain ⟨o2,r2⟩:=h2 E a w' hs
 obtain ⟨o3,r3⟩:=h3 E a w' hs
 obtain ⟨o4,r4⟩:=h4 E a w' hs
 refine ⟨_,rfl,below_of hs.sat,fun b=>⟨⟨fun _=>0,fun _=>0,fun _=>false,fun x=>fiv (c0.den E) (c1.den E) (c2.den E) (c3.den E) (c4.den E) (x.1 - b)⟩,fun x=>?_,fun E2 hE=>?_⟩⟩
 ·simp only [fiv]
  split <;> assumption
 have e0:E2.χ (b,0,0)=c0.den E:=by have:=(hE (b,0,0) ⟨by simp,by simp⟩).2.2.2;simpa [fiv] using this
 have e1:E2.χ (b+1,0,0)=c1.den E:=by have:=(hE (b+1,0,0) ⟨by simp,by simp⟩).2.2.2;simpa [fiv] using this
 have e2:E2.χ (b+2,0,0)=c2.den E:=by have:=(hE (b+2,0,0) ⟨by simp,by simp⟩).2.2.2;simpa [fiv] using this
 have e3:E2.χ (b+3,0,0)=c3.den E:=by have:=(hE (b+3,0,0) ⟨by simp,by simp⟩).2.2.2;simpa [fiv] using this
 have e4:E2.χ (b+4,0,0)=c4.den E:=by have:=(hE (b+4,0,0) ⟨by simp,by simp⟩).2.2.2;simpa [fiv] using this
 refine ⟨hT b E E2 e0 e1 e2 e3 e4,fun w'' _ hw'' x A hA=>?_⟩
 rcases atN_one hA with ⟨rfl,rfl⟩ | hA
 ·exact r0 w'' hw'' E2 _ e0
 rcases atN_one hA with ⟨rfl,rfl⟩ | hA
 ·exact r1 w'' hw'' E2 _ e1
 rcases atN_one hA with ⟨rfl,rfl⟩ | hA
 ·exact r2 w'' hw'' E2 _ e2
 rcases atN_one hA with ⟨rfl,rfl⟩ | hA
 ·exact r3 w'' hw'' E2 _ e3
 rcases atN_one hA with ⟨rfl,rfl⟩ | hA
 ·exact r4 w'' hw'' E2 _ e4
 exact (atN_nil hA).elim
end Go.Proofs.Ytkjeedlkkpgopaa.Z
namespace Go.Proofs.Ytkjeedlkkpgopaa
open Go.RowKit
@[go_sem] theorem as_cell_cell (v:Value) (w:World):(Instr.typeAssert (.iface 145 v) 129 145 true).run Try.prog w = .ok (.tuple #[v,.bool true]) w:=by kernel_rfl
@[go_sem] theorem as_cell_stack (v:Value) (w:World):(Instr.typeAssert (.iface 145 v) 129 146 true).run Try.prog w = .ok (.tuple #[.slice none 0 0,.bool false]) w:=by kernel_rfl
@[go_sem] theorem as_cell_queue (v:Value) (w:World):(Instr.typeAssert (.iface 145 v) 129 147 true).run Try.prog w = .ok (.tuple #[.slice none 0 0,.bool false]) w:=by kernel_rfl
@[go_sem] theorem as_stack_cell (v:Value) (w:World):(Instr.typeAssert (.iface 146 v) 129 145 true).run Try.prog w = .ok (.tuple #[.slice none 0 0,.bool false]) w:=by kernel_rfl
@[go_sem] theorem as_stack_stack (v:Value) (w:World):(Instr.typeAssert (.iface 146 v) 129 146 true).run Try.prog w = .ok (.tuple #[v,.bool true]) w:=by kernel_rfl
@[go_sem] theorem as_stack_queue (v:Value) (w:World):(Instr.typeAssert (.iface 146 v) 129 147 true).run Try.prog w = .ok (.tuple #[.slice none 0 0,.bool false]) w:=by kernel_rfl
@[go_sem] theorem as_queue_cell (v:Value) (w:World):(Instr.typeAssert (.iface 147 v) 129 145 true).run Try.prog w = .ok (.tuple #[.slice none 0 0,.bool false]) w:=by kernel_rfl
@[go_sem] theorem as_queue_stack (v:Value) (w:World):(Instr.typeAssert (.iface 147 v) 129 146 true).run Try.prog w = .ok (.tuple #[.slice none 0 0,.bool false]) w:=by kernel_rfl
@[go_sem] theorem as_queue_queue (v:Value) (w:World):(Instr.typeAssert (.iface 147 v) 129 147 true).run Try.prog w = .ok (.tuple #[v,.bool true]) w:=by kernel_rfl
@[go_sem] theorem as_set_cell (v:Value) (w:World):(Instr.typeAssert (.iface 150 v) 129 145 true).run Try.prog w = .ok (.tuple #[.slice none 0 0,.bool false]) w:=by kernel_rfl
@[go_sem] theorem as_set_stack (v:Value) (w:World):(Instr.typeAssert (.iface 150 v) 129 146 true).run Try.prog w = .ok (.tuple #[.slice none 0 0,.bool false]) w:=by kernel_rfl
@[go_sem] theorem as_set_queue (v:Value) (w:World):(Instr.typeAssert (.iface 150 v) 129 147 true).run Try.prog w = .ok (.tuple #[.slice none 0 0,.bool false]) w:=by kernel_rfl
@[go_sem] theorem as_set_keyed (v:Value) (w:World):(Instr.typeAssert (.iface 150 v) 129 149 true).run Try.prog w = .ok (.tuple #[.iface 150 v,.bool true]) w:=by kernel_rfl
@[go_sem] theorem as_table_cell (v:Value) (w:World):(Instr.typeAssert (.iface 151 v) 129 145 true).run Try.prog w = .ok (.tuple #[.slice none 0 0,.bool false]) w:=by kernel_rfl
@[go_sem] theorem as_table_stack (v:Value) (w:World):(Instr.typeAssert (.iface 151 v) 129 146 true).run Try.prog w = .ok (.tuple #[.slice none 0 0,.bool false]) w:=by kernel_rfl
@[go_sem] theorem as_table_queue (v:Value) (w:World):(Instr.typeAssert (.iface 151 v) 129 147 true).run Try.prog w = .ok (.tuple #[.slice none 0 0,.bool false]) w:=by kernel_rfl
@[go_sem] theorem as_table_keyed (v:Value) (w:World):(Instr.typeAssert (.iface 151 v) 129 149 true).run Try.prog w = .ok (.tuple #[.iface 151 v,.bool true]) w:=by kernel_rfl
set_option maxRecDepth 100000 in
set_option maxHeartbeats 1000000 in
theorem full_cell (ba:Option Addr) (n cp:Nat) (op:Int) (w:World):Calls Try.prog 87 #[.iface 145 (.slice ba n cp),.int .i64 op] w fun r w'=>r = .returned (.bool (op == 22))∧Below w.heap.size w w':=by
 go_enter Try.func87,Try.ntmps87
 go_wp2
 all_goals go_ret
 all_goals refine ⟨?_,Below.refl _ _⟩
 all_goals simp_all
set_option maxRecDepth 100000 in
set_option maxHeartbeats 1000000 in
theorem full_stack (ba:Option Addr) (n cp:Nat) (op:Int) (w:World):Calls Try.prog 87 #[.iface 146 (.slice ba n cp),.int .i64 op] w fun r w'=>r = .returned (.bool (op == 30))∧Below w.heap.size w w':=by
 go_enter Try.func87,Try.ntmps87
 go_wp2
 all_goals go_ret
 all_goals refine ⟨?_,Below.refl _ _⟩
 all_goals simp_all
set_option maxRecDepth 100000 in
set_option maxHeartbeats 1000000 in
theorem full_queue (ba:Option Addr) (n cp:Nat) (op:Int) (w:World):Calls Try.prog 87 #[.iface 147 (.slice ba n cp),.int .i64 op] w fun r w'=>r = .returned (.bool (op == 40))∧Below w.heap.size w w':=by
 go_enter Try.func87,Try.ntmps87
 go_wp2
 all_goals go_ret
 all_goals refine ⟨?_,Below.refl _ _⟩
 all_goals simp_all
set_option maxRecDepth 100000 in
set_option maxHeartbeats 1000000 in
theorem full_set (ba:Option Addr) (n cp:Nat) (op:Int) (w:World):Calls Try.prog 87 #[.iface 150 (.slice ba n cp),.int .i64 op] w fun r w'=>r = .returned (.bool (op == 50 || op == 60))∧Below w.heap.size w w':=by
 go_enter Try.func87,Try.ntmps87
 go_wp2
 all_goals go_ret
 all_goals refine ⟨?_,Below.refl _ _⟩
 all_goals simp_all
set_option maxRecDepth 100000 in
set_option maxHeartbeats 1000000 in
theorem full_table (ba:Option Addr) (n cp:Nat) (op:Int) (w:World):Calls Try.prog 87 #[.iface 151 (.slice ba n cp),.int .i64 op] w fun r w'=>r = .returned (.bool (op == 50 || op == 60))∧Below w.heap.size w w':=by
 go_enter Try.func87,Try.ntmps87
 go_wp2
 all_goals go_ret
 all_goals refine ⟨?_,Below.refl _ _⟩
 all_goals simp_all
end Go.Proofs.Ytkjeedlkkpgopaa
namespace Go.Proofs.Ytkjeedlkkpgopaa.Z
open Go Go.RowKit
attribute [go_sem] ex_nil ex_skip ex_ops ex_draw ex_seq ex_cond ex_blk ex_loop ex_exit ex_ret ex_mark ex_kill ex_pop ex_onil ex_op ex_opg thenS stepOut St.ev look setL mergeL dropL memB atN pkN setN Fm.get Fm.pk Fm.set St.app St.putT St.skipT St.setB St.kill St.call St.setA St.resS specS specO specC chain chainP inCh resV rsvP resT slot1 slotL pureSlots St.evW resA1 resAP resA gB specD specDO recG pure1 pureO SV.cells SC.one allOne fillP put take' drop' len' nth binI eqCells SC.bool? SC.nil? neg? evs evC popTo resL resP resSV oneSV finS retS dr_nil thenD recOf skipR wrOk wrFree wkImp St.weak thenW recW fimp_mpe newOk outOk St.appN St.hid St.only keepK useO idX idC tchs keyss Rec.tch keysL ltAll enumT slSrc slB slM SV.int? segs keyOf intsOf Value.oneCell' and_self and_true true_and and_false false_and not_true_eq_false not_false_eq_true List.map_cons List.map_nil List.cons_append List.nil_append List.append_nil Option.bind_some Option.bind_none Bool.true_and Bool.and_true Bool.false_and Bool.and_false Bool.not_true Bool.not_false Bool.not_not Bool.true_beq Bool.false_beq Bool.bne_true Bool.bne_false Bool.true_bne Bool.false_bne Option.map_some Option.map_none beq_self_eq_true bne_self_eq_false Bool.false_eq_true Bool.true_eq_false Nat.zero_add Nat.add_zero forall_const implies_true true_implies false_implies Int.cast_ofNat_Int Int.natCast_nonneg Int.ofNat_lt Int.toNat_natCast mkC_rs decide_true decide_false List.length_cons List.length_nil Prod.mk.injEq Option.some.injEq arrOf_len arrOf_size arrOf_at wr_lit wr_litu Nat.sub_zero ex_back mkI_rs
attribute [go_sem ↓] condS exitS gateS runOp gateD altC runD imp_ft imp_tf imp_tt imp_ff imp_fn imp_tn imp_fy imp_ty
end Go.Proofs.Ytkjeedlkkpgopaa.Z
namespace Go.Proofs.Ytkjeedlkkpgopaa.Z
open Go Go.RowKit
theorem ren_ats {α:Type} {σ:Nm→Nm} {enc:α→List Value} {xs:List α} {d:α} {e:Nat}:SC.renL σ (ats enc xs d e)=ats enc xs d e:=renL_v _ _
theorem ok_ats {α:Type} {p:Nat→Prop} {enc:α→List Value} {xs:List α} {d:α} {e:Nat}:SC.okL p (ats enc xs d e):=okL_v _ _
end Go.Proofs.Ytkjeedlkkpgopaa.Z
namespace Go.Proofs.Ytkjeedlkkpgopaa.Z
open Go Go.RowKit
structure Cl where
 thread:Int
 op:Int
 arg:Int
 data:Int
 beg:Int
 fin:Int
 point:Int
 kind:Int
 val:Int
 deriving DecidableEq
def iv (n:Int):Value:=.int .i64 n
def Cl.enc (c:Cl):List Value:=[iv c.thread,iv c.op,iv c.arg,iv c.data,iv c.beg,iv c.fin,iv c.point,iv c.kind,iv c.val]
def Cl.sc (c:Cl):List SC:=[.v (iv c.thread),.v (iv c.op),.v (iv c.arg),.v (iv c.data),.v (iv c.beg),.v (iv c.fin),.v (iv c.point),.v (iv c.kind),.v (iv c.val)]
theorem cl_ok:EncT Cl.enc 9:=⟨fun _=>rfl,fun x u hu=>by simp [Cl.enc,iv] at hu;rcases hu with rfl | rfl | rfl | rfl | rfl | rfl | rfl | rfl | rfl <;> rfl⟩
def cl0:Cl:=⟨0,0,0,0,0,0,0,0,0⟩
end Go.Proofs.Ytkjeedlkkpgopaa.Z
namespace Go.Proofs.Ytkjeedlkkpgopaa.Z
open Go Go.RowKit
def shapedB (c:Cl):Bool:=decide ((0≤c.thread∧c.thread<16∧0≤c.beg∧(c.fin≠-1→c.beg<c.fin))∧(c.point≠-1→c.beg<c.point∧(c.fin≠-1→c.point≤c.fin)) ∧
 (0≤c.kind∧c.kind≤6∧(c.kind=0↔c.fin = -1))∧(c.kind=2∨c.val=0))
def ir37:IR:=(.seq (.ops [⟨(some 1),(.box 53 (.t 0)),none⟩,⟨(some 2),(.mv (.k (.c (.v (.bool false))))),none⟩]) (.kill [0,2,3,4,5,6,7,8,9,10,11] (.seq (.seq (.ops [⟨(some 4),(.fa 0 (.t 1)),none⟩,⟨(some 5),(.ld false 1 (.t 4)),none⟩,⟨(some 6),(.bin .lss (.t 5) (.k (.c (.v (.int .i64 0))))),none⟩,⟨(some 7),(.mv (.t 6)),none⟩,⟨(some 8),(.fa 0 (.t 1)),(some (7,false))⟩,⟨(some 9),(.ld false 1 (.t 8)),(some (7,false))⟩,⟨(some 10),(.bin .geq (.t 9) (.k (.c (.v (.int .i64 16))))),(some (7,false))⟩,⟨(some 11),(.pick (.t 7) (.k (.c (.v (.bool true)))) (.t 10)),none⟩,⟨(some 12),(.mv (.t 11)),none⟩,⟨(some 13),(.fa 4 (.t 1)),(some (12,false))⟩,⟨(some 14),(.ld false 1 (.t 13)),(some (12,false))⟩,⟨(some 15),(.bin .lss (.t 14) (.k (.c (.v (.int .i64 0))))),(some (12,false))⟩,⟨(some 16),(.pick (.t 12) (.k (.c (.v (.bool true)))) (.t 15)),none⟩,⟨(some 17),(.mv (.t 16)),none⟩,⟨(some 18),(.fa 5 (.t 1)),(some (17,false))⟩,⟨(some 19),(.ld false 1 (.t 18)),(some (17,false))⟩,⟨(some 20),(.bin .neq (.t 19) (.k (.c (.v (.int .i64 (-1)))))),(some (17,false))⟩,⟨(some 21),(.mv (.t 20)),(some (17,false))⟩,⟨(some 22),(.fa 5 (.t 1)),(some (21,true))⟩,⟨(some 23),(.ld false 1 (.t 22)),(some (21,true))⟩,⟨(some 24),(.fa 4 (.t 1)),(some (21,true))⟩,⟨(some 25),(.ld false 1 (.t 24)),(some (21,true))⟩,⟨(some 26),(.bin .leq (.t 23) (.t 25)),(some (21,true))⟩,⟨(some 27),(.pick (.t 21) (.t 26) (.k (.c (.v (.bool false))))),(some (17,false))⟩,⟨(some 28),(.pick (.t 17) (.k (.c (.v (.bool true)))) (.t 27)),none⟩]) (.kill [4,5,6,7,8,9,10,11,12,13,14,15,16,17,18,19,20,21,22,23,24,25,26,27] (.cond (.t 28) (.seq (.ops [⟨(some 2),(.mv (.k (.c (.v (.bool false))))),none⟩]) (.kill [1,28] .ret)) .skip))) (.kill [2,28] (.seq (.seq (.ops [⟨(some 29),(.fa 6 (.t 1)),none⟩,⟨(some 30),(.ld false 1 (.t 29)),none⟩,⟨(some 31),(.bin .neq (.t 30) (.k (.c (.v (.int .i64 (-1)))))),none⟩,⟨(some 32),(.mv (.t 31)),none⟩,⟨(some 33),(.fa 6 (.t 1)),(some (32,true))⟩,⟨(some 34),(.ld false 1 (.t 33)),(some (32,true))⟩,⟨(some 35),(.fa 4 (.t 1)),(some (32,true))⟩,⟨(some 36),(.ld false 1 (.t 35)),(some (32,true))⟩,⟨(some 37),(.bin .leq (.t 34) (.t 36)),(some (32,true))⟩,⟨(some 38),(.mv (.t 37)),(some (32,true))⟩,⟨(some 39),(.fa 5 (.t 1)),(some (38,false))⟩,⟨(some 40),(.ld false 1 (.t 39)),(some (38,false))⟩,⟨(some 41),(.bin .neq (.t 40) (.k (.c (.v (.int .i64 (-1)))))),(some (38,false))⟩,⟨(some 42),(.mv (.t 41)),(some (38,false))⟩,⟨(some 43),(.fa 6 (.t 1)),(some (42,true))⟩,⟨(some 44),(.ld false 1 (.t 43)),(some (42,true))⟩,⟨(some 45),(.fa 5 (.t 1)),(some (42,true))⟩,⟨(some 46),(.ld false 1 (.t 45)),(some (42,true))⟩,⟨(some 47),(.bin .gtr (.t 44) (.t 46)),(some (42,true))⟩,⟨(some 48),(.pick (.t 42) (.t 47) (.k (.c (.v (.bool false))))),(some (38,false))⟩,⟨(some 49),(.pick (.t 38) (.k (.c (.v (.bool true)))) (.t 48)),(some (32,true))⟩,⟨(some 50),(.pick (.t 32) (.t 49) (.k (.c (.v (.bool false))))),none⟩]) (.kill [29,30,31,32,33,34,35,36,37,38,39,40,41,42,43,44,45,46,47,48,49] (.cond (.t 50) (.seq (.ops [⟨(some 2),(.mv (.k (.c (.v (.bool false))))),none⟩]) (.kill [1,50] .ret)) .skip))) (.kill [2,50] (.seq (.ops [⟨(some 51),(.fa 7 (.t 1)),none⟩,⟨(some 52),(.fa 0 (.t 51)),none⟩,⟨(some 53),(.ld false 1 (.t 52)),none⟩,⟨(some 3),(.mv (.t 53)),none⟩]) (.kill [51,52,53] (.seq (.seq (.ops [⟨(some 54),(.mv (.t 3)),none⟩,⟨(some 55),(.bin .lss (.t 54) (.k (.c (.v (.int .i64 0))))),none⟩,⟨(some 56),(.mv (.t 55)),none⟩,⟨(some 57),(.mv (.t 3)),(some (56,false))⟩,⟨(some 58),(.bin .gtr (.t 57) (.k (.c (.v (.int .i64 6))))),(some (56,false))⟩,⟨(some 59),(.pick (.t 56) (.k (.c (.v (.bool true)))) (.t 58)),none⟩,⟨(some 60),(.mv (.t 59)),none⟩,⟨(some 61),(.mv (.t 3)),(some (60,false))⟩,⟨(some 62),(.bin .eql (.t 61) (.k (.c (.v (.int .i64 0))))),(some (60,false))⟩,⟨(some 63),(.fa 5 (.t 1)),(some (60,false))⟩,⟨(some 64),(.ld false 1 (.t 63)),(some (60,false))⟩,⟨(some 65),(.bin .eql (.t 64) (.k (.c (.v (.int .i64 (-1)))))),(some (60,false))⟩,⟨(some 66),(.eqb true (.t 62) (.t 65)),(some (60,false))⟩,⟨(some 67),(.pick (.t 60) (.k (.c (.v (.bool true)))) (.t 66)),none⟩]) (.kill [54,55,56,57,58,59,60,61,62,63,64,65,66] (.cond (.t 67) (.seq (.ops [⟨(some 2),(.mv (.k (.c (.v (.bool false))))),none⟩]) (.kill [1,3,67] .ret)) .skip))) (.kill [2,67] (.seq (.ops [⟨(some 68),(.mv (.t 3)),none⟩,⟨(some 69),(.bin .eql (.t 68) (.k (.c (.v (.int .i64 2))))),none⟩,⟨(some 70),(.mv (.t 69)),none⟩,⟨(some 71),(.fa 7 (.t 1)),(some (70,false))⟩,⟨(some 72),(.fa 1 (.t 71)),(some (70,false))⟩,⟨(some 73),(.ld false 1 (.t 72)),(some (70,false))⟩,⟨(some 74),(.bin .eql (.t 73) (.k (.c (.v (.int .i64 0))))),(some (70,false))⟩,⟨(some 75),(.pick (.t 70) (.k (.c (.v (.bool true)))) (.t 74)),none⟩,⟨(some 2),(.mv (.t 75)),none⟩]) (.kill [1,3,68,69,70,71,72,73,74,75] .ret))))))))))))
def rs37:List RS:=[(.t 2)]
def nt37:Nat:=76
set_option maxRecDepth 100000 in
set_option maxHeartbeats 400000 in
theorem shaped_calls (w:World) (c:Cl):Calls Try.prog 37 #[.agg c.enc.toArray] w (RetV w (.bool (shapedB c))):=by
 refine calls_sym (c:=ir37) (C:=mkC Try.prog [] w rs37 (RetV w (.bool (shapedB c)))) 1000 [.agg c.sc] (one1 0 0 true) [] [] [] 0 nt37 #[.agg c.enc.toArray] (mkTab_ok _ _) Try.func37 rfl (by kernel_rfl) (by kernel_rfl) rfl rfl rfl (one1_one _ _ _)
  (fun E' _=>by simp [SV.den,SC.den,Cl.sc,Cl.enc]) (of_decide_eq_true rfl) (fun E' _=>inOk_nil) ?_
 simp only [ir37,nt37,rs37,Cl.sc,iv,go_sem,↓reduceIte,Nat.reduceLT,Nat.reduceLeDiff,Nat.reduceAdd,Nat.reduceSub,Nat.reduceMul,Nat.reduceEqDiff,reduceCtorEq,Int.reduceToNat,Int.reduceEq,Int.reduceBEq,Int.reduceBNe,Int.reduceLT,Int.reduceLE,Int.reduceNeg,Int.reduceAdd,Int.reduceSub,Int.reduceMul,Int.reduceGE,Int.reduceGT,Cl.enc,iv,endO,dr_cons]
 repeat' refine both (fun _=>?_) (fun _=>?_)
 all_goals refine retV (fun E=>?_)
 all_goals simp only [den_c,den_v,den_b,Value.bool.injEq,shapedB]
 all_goals simp only [b_decR,b_decL,bt_ite,bf_ite,bt_dec,bf_dec,bt_int,bf_int,bt_nint,bf_nint,bt_bool,bf_bool,bt_nbool,bf_nbool,bt_not,bf_not,bt_and,bf_and,bt_or,bf_or,Bool.false_eq_true,Bool.true_eq_false,Bool.not_eq_true,Bool.not_eq_false,reduceCtorEq,false_iff,true_iff,iff_false,iff_true,and_true,true_and,and_false,false_and,or_true,true_or,or_false,false_or,not_true_eq_false,not_false_eq_true,ne_eq] at *
 all_goals omega
end Go.Proofs.Ytkjeedlkkpgopaa.Z
namespace Go.Proofs.Ytkjeedlkkpgopaa.Z
open Go Go.RowKit
def ir17:IR:=(.seq (.ops [⟨(some 4),(.mv (.k (.c (.v (.bool false))))),none⟩]) (.kill [2,3,4,5,6,7,8,9,10,11] (.seq (.seq (.ops [⟨(some 5),(.mv (.k (.c (.v (.int .i64 0))))),none⟩]) (.blk 0 (.loop (.seq (.seq (.ops [⟨(some 6),(.mv (.t 5)),none⟩,⟨(some 7),(.mv (.t 1)),none⟩,⟨(some 8),(.len (.t 7)),none⟩,⟨(some 9),(.bin .lss (.t 6) (.t 8)),none⟩]) (.kill [4,6,7,8,10,11,12,13,14,15,16,17,18,19,20] (.cond (.t 9) .skip (.exit 0)))) (.kill [9] (.seq (.blk 1 (.seq (.draw [(⟨(some 12),(.mv (.t 0)),none⟩,([],[13,16,17,18,19])),(⟨(some 13),(.mv (.t 5)),none⟩,([0],[12,16,17,18,19])),(⟨(some 14),(.ia 9 (.t 12) (.t 13)),none⟩,([],[16,17,18,19])),(⟨(some 15),(.ld true 9 (.t 14)),none⟩,([],[16,17,18,19])),(⟨(some 16),(.mv (.t 1)),none⟩,([0,1,2,3],[12,13,14,15,17])),(⟨(some 17),(.mv (.t 5)),none⟩,([0,1,2,3,4],[12,13,14,15,16])),(⟨(some 18),(.ia 9 (.t 16) (.t 17)),none⟩,([0,1,2,3],[12,13,14,15])),(⟨(some 19),(.ld true 9 (.t 18)),none⟩,([0,1,2,3],[12,13,14,15])),(⟨(some 20),(.eqa true [true,true,true,true,true,true,true,true,true] (.t 15) (.t 19)),none⟩,([],[]))]) (.kill [12,13,14,15,16,17,18,19] (.cond (.t 20) (.seq (.ops [⟨(some 4),(.mv (.k (.c (.v (.bool false))))),none⟩]) (.kill [0,1,5,20] .ret)) .skip)))) (.kill [4,12,13,14,15,16,17,18,19,20] (.ops [⟨(some 10),(.mv (.t 5)),none⟩,⟨(some 11),(.bin .add (.t 10) (.k (.c (.v (.int .i64 1))))),none⟩,⟨(some 5),(.mv (.t 11)),none⟩])))))))) (.kill [4,5,6,7,8,9,10,11,12,13,14,15,16,17,18,19,20] (.seq (.ops [⟨(some 21),(.mv (.t 0)),none⟩,⟨(some 22),(.mv (.t 1)),none⟩,⟨(some 23),(.len (.t 22)),none⟩,⟨(some 24),(.bin .add (.t 23) (.k (.c (.v (.int .i64 1))))),none⟩,⟨(some 25),(.slc 9 (.t 21) none (some (.t 24)) none),none⟩,⟨(some 26),(.mv (.t 1)),none⟩,⟨(some 27),(.len (.t 26)),none⟩,⟨(some 28),(.ia 9 (.t 25) (.t 27)),none⟩,⟨(some 29),(.fa 0 (.t 28)),none⟩,⟨(some 30),(.ld false 1 (.t 29)),none⟩,⟨(some 31),(.bin .eql (.t 30) (.k (.c (.v (.int .i64 (-77)))))),none⟩,⟨(some 4),(.mv (.t 31)),none⟩]) (.kill [0,1,21,22,23,24,25,26,27,28,29,30,31] .ret))))))
def rs17:List RS:=[(.t 4)]
def nt17:Nat:=32
def Tw (w:World) (v:Value) (xs:List Cl) (m:Cl):Prop:=∃ ba cap,v = .slice ba xs.length cap∧Arr w Cl.enc 9 (.slice ba (xs.length+1) cap) (xs++[m])
theorem cl_eq (a b:Cl):(a == b)=((a.thread == b.thread) && ((a.op == b.op) && ((a.arg == b.arg) && ((a.data == b.data) && ((a.beg == b.beg) && ((a.fin == b.fin) && ((a.point == b.point) && ((a.kind == b.kind) && (a.val == b.val))))))))):=by
 obtain ⟨a1,a2,a3,a4,a5,a6,a7,a8,a9⟩:=a
 obtain ⟨b1,b2,b3,b4,b5,b6,b7,b8,b9⟩:=b
 rw [Bool.eq_iff_iff]
 simp
set_option maxRecDepth 100000 in
set_option maxHeartbeats 400000 in
theorem unspoilt_calls (w:World) (v v2:Value) (xs ys:List Cl) (m:Cl) (h1:Tw w v xs m) (h2:Arr w Cl.enc 9 v2 ys) (hl:xs.length=ys.length):Calls Try.prog 17 #[v,v2] w (RetV w (.bool (decide (xs=ys) && m.thread == -77))):=by
 obtain ⟨ba,cap,rfl,h1⟩:=h1
 have hm:=Z.Arr.lenM h1
 simp only [List.length_append,List.length_cons,List.length_nil,maxLen] at hm
 have hE:OneC ⟨fun _=>0,fun _=>0,fun _=>false,fun x=>if x.1=1 then .slice ba (xs.length+1) cap else v2⟩:=by
  intro x
  simp only
  split
  ·rfl
  ·exact arr_one h2
 refine calls_sym (c:=ir17) (C:=mkC Try.prog [] w rs17 (RetV w (.bool (decide (xs=ys) && m.thread == -77)))) 1000 [.c (.xs (1,0,0) 9 0 ys.length none),.c (.xv (0,0,0))] 
  ⟨fun _=>0,fun _=>0,fun _=>false,fun x=>if x.1=1 then .slice ba (xs.length+1) cap else v2⟩ [] [(0,.one (arrOf Cl.enc 9 ys cl0)),(1,.one (arrOf Cl.enc 9 (xs++[m]) cl0))] [] 2 nt17 _ (mkTab_ok _ _) Try.func17 rfl (by kernel_rfl) (by kernel_rfl) rfl rfl rfl hE
  (fun E' hE'=>?_) (of_decide_eq_true rfl) (fun E' hE'=>inOk_arrs fun w' hw' x A hA=>?_) ?_
 ·have e0:=(hE' (0,0,0) (by decide)).2.2.2
  have e1:=(hE' (1,0,0) (by decide)).2.2.2
  simp only [Nat.zero_ne_one,if_false,if_true] at e0 e1
  cases ba <;> simp [SV.den,SC.den,e0,e1,hl,Addr.add]
 ·have e0:=(hE' (0,0,0) (by decide)).2.2.2
  have e1:=(hE' (1,0,0) (by decide)).2.2.2
  rcases atN_one hA with ⟨rfl,rfl⟩ | hA
  ·exact arr1 cl_ok e0 h2 hw'
  rcases atN_one hA with ⟨rfl,rfl⟩ | hA
  ·exact arr1 cl_ok e1 h1 hw'
  exact (atN_nil hA).elim
 simp only [ir17,nt17,rs17,go_sem,↓reduceIte,Nat.reduceLT,Nat.reduceLeDiff,Nat.reduceAdd,Nat.reduceSub,Nat.reduceMul,Nat.reduceEqDiff,reduceCtorEq,Int.reduceToNat,Int.reduceEq,Int.reduceBEq,Int.reduceBNe,Int.reduceLT,Int.reduceLE,Int.reduceNeg,Int.reduceAdd,Int.reduceSub,Int.reduceMul,Int.reduceGE,Int.reduceGT,Cl.enc,iv,endO,dr_cons]
 refine loopI (ι:={ i:Nat // i≤ys.length∧∀ k,k<i→xs.getD k cl0=ys.getD k cl0 }) (fun i=>⟨32,[(0,.c (.xs (1,0,0) 9 0 ys.length none)),(1,.c (.xv (0,0,0))),(5,.c (.v (.int .i64 (i.1:Nat))))],[],[(0,.one (arrOf Cl.enc 9 ys cl0)),(1,.one (arrOf Cl.enc 9 (xs++[m]) cl0))],[],2⟩)
  (fun i=>ys.length - i.1) ⟨0,by omega,fun k hk=>by omega⟩ (le_refl _) ?_
 rintro ⟨i,hi,hg⟩
 simp only [go_sem,↓reduceIte,Nat.reduceLT,Nat.reduceLeDiff,Nat.reduceAdd,Nat.reduceSub,Nat.reduceMul,Nat.reduceEqDiff,reduceCtorEq,Int.reduceToNat,Int.reduceEq,Int.reduceBEq,Int.reduceBNe,Int.reduceLT,Int.reduceLE,Int.reduceNeg,Int.reduceAdd,Int.reduceSub,Int.reduceMul,Int.reduceGE,Int.reduceGT,Cl.enc,iv,endO,dr_cons]
 refine both (fun hlt=>?_) (fun hge=>?_)
 ·rw [decide_eq_true_eq] at hlt
  refine draw_vc (by kernel_rfl) (mkTab_ok _ _) (of_decide_eq_true rfl) (of_decide_eq_true rfl) ?_
  simp only [go_sem,↓reduceIte,Nat.reduceLT,Nat.reduceLeDiff,Nat.reduceAdd,Nat.reduceSub,Nat.reduceMul,Nat.reduceEqDiff,reduceCtorEq,Int.reduceToNat,Int.reduceEq,Int.reduceBEq,Int.reduceBNe,Int.reduceLT,Int.reduceLE,Int.reduceNeg,Int.reduceAdd,Int.reduceSub,Int.reduceMul,Int.reduceGE,Int.reduceGT,Cl.enc,iv,endO,dr_cons]
  have hx:(xs++[m]).getD i cl0=xs.getD i cl0:=by simp [List.getD_eq_getElem?_getD,List.getElem?_append_left (show i<xs.length by omega)]
  have hll:(xs++[m]).length=xs.length+1:=by simp
  rw [hx,hll,← cl_eq]
  refine ⟨⟨hlt,by omega⟩,by omega,hlt,hlt,fun h=>?_,fun h=>?_⟩
  ·refine retV fun E=>?_
   simp only [den_c,den_v,Value.bool.injEq]
   have:xs≠ys:=by
    rintro rfl
    simp at h
   simp [this]
  ·rw [wr_succ (by omega)]
   refine backI ⟨i+1,by omega,fun k hk=>?_⟩ (by simp only;omega) (le_tmps (by simp [TmpsSub,look]))
   by_cases hki:k=i
   ·subst hki;simpa using h
   ·exact hg k (by omega)
 ·rw [decide_eq_false_iff_not] at hge
  have hiy:i=ys.length:=by omega
  subst hiy
  have hll:(xs++[m]).length=xs.length+1:=by simp
  have hx:(xs++[m]).getD ys.length cl0=m:=by simp [List.getD_eq_getElem?_getD,← hl]
  rw [wr_succ (by omega),hll,hx]
  refine ⟨⟨by omega,by omega,Or.inr trivial⟩,⟨by omega,by omega⟩,by omega,by omega,retV fun E=>?_⟩
  have:xs=ys:=by
   refine List.ext_getElem hl fun k hk hk'=>?_
   have:=hg k hk'
   simpa [List.getD_eq_getElem?_getD,List.getElem?_eq_getElem hk,List.getElem?_eq_getElem hk'] using this
  simp [den_c,den_b,this]
end Go.Proofs.Ytkjeedlkkpgopaa.Z
namespace Go.Proofs.Ytkjeedlkkpgopaa.Z
open Go Go.RowKit
def ir14:IR:=(.seq (.ops [⟨(some 2),(.mv (.k (.c (.v (.slice none 0 0))))),none⟩]) (.kill [1,2,3,4,5,6,7,8,9,10,11] (.seq (.ops [⟨(some 4),(.mkSl 53 0 9 [] []),none⟩,⟨(some 5),(.mv (.t 0)),none⟩,⟨(some 6),(.app 53 9 72 [(.v (.int .i64 0)),(.v (.int .i64 0)),(.v (.int .i64 0)),(.v (.int .i64 0)),(.v (.int .i64 0)),(.v (.int .i64 0)),(.v (.int .i64 0)),(.v (.int .i64 0)),(.v (.int .i64 0))] (.t 4) (.t 5)),none⟩,⟨(some 3),(.mv (.t 6)),none⟩]) (.kill [4,5,6] (.seq (.ops [⟨(some 7),(.mv (.t 3)),none⟩,⟨(some 8),(.build [(.v (.int .i64 0)),(.v (.int .i64 0)),(.v (.int .i64 0)),(.v (.int .i64 0)),(.v (.int .i64 0)),(.v (.int .i64 0)),(.v (.int .i64 0)),(.v (.int .i64 0)),(.v (.int .i64 0))] [(0,(1,(.k (.c (.v (.int .i64 (-77)))))))]),none⟩,⟨(some 9),(.mkSl 53 1 9 [(.v (.int .i64 0)),(.v (.int .i64 0)),(.v (.int .i64 0)),(.v (.int .i64 0)),(.v (.int .i64 0)),(.v (.int .i64 0)),(.v (.int .i64 0)),(.v (.int .i64 0)),(.v (.int .i64 0))] [(0,(9,(.t 8)))]),none⟩,⟨(some 10),(.app 53 9 72 [(.v (.int .i64 0)),(.v (.int .i64 0)),(.v (.int .i64 0)),(.v (.int .i64 0)),(.v (.int .i64 0)),(.v (.int .i64 0)),(.v (.int .i64 0)),(.v (.int .i64 0)),(.v (.int .i64 0))] (.t 7) (.t 9)),none⟩,⟨(some 11),(.mv (.t 0)),none⟩,⟨(some 12),(.len (.t 11)),none⟩,⟨(some 13),(.slc 9 (.t 10) none (some (.t 12)) none),none⟩,⟨(some 2),(.mv (.t 13)),none⟩]) (.kill [0,3,7,8,9,10,11,12,13] .ret))))))
def rs14:List RS:=[(.t 2)]
def nt14:Nat:=14
theorem fit_app (n:Nat) (h:n≤1954687338268):(n+n / 4+192) * 72≤281474976710656:=by
 have h4:n / 4 * 4≤n:=Nat.div_mul_le_self _ _
 generalize n / 4=q at *
 omega
def mark:Cl:=⟨-77,0,0,0,0,0,0,0,0⟩
set_option maxRecDepth 100000 in
set_option maxHeartbeats 400000 in
theorem twin_calls (w:World) (v:Value) (xs:List Cl) (h:Arr w Cl.enc 9 v xs) (hn:(xs.length+1) * 72≤140737488355328):Calls Try.prog 14 #[v] w (RetN w 1 (lsT 9 xs.length) (lsO 53 9 Cl.enc (xs++[mark]) cl0)):=by
 refine calls_sym (c:=ir14) (C:=mkC Try.prog [] w rs14 (RetN w 1 (lsT 9 xs.length) (lsO 53 9 Cl.enc (xs++[mark]) cl0))) 1000 [.c (.xv (0,0,0))] 
  (E1 v) [] [(0,.one (arrOf Cl.enc 9 xs cl0))] [] 1 nt14 _ (mkTab_ok _ _) Try.func14 rfl (by kernel_rfl) (by kernel_rfl) rfl rfl rfl (E1_one (arr_one h))
  (fun E' hE'=>?_) (of_decide_eq_true rfl) (fun E' hE'=>inOk_arrs fun w' hw' x A hA=>?_) ?_
 ·have e0:=(hE' (0,0,0) (by decide)).2.2.2
  simp [SV.den,SC.den,e0,E1]
 ·have e0:=(hE' (0,0,0) (by decide)).2.2.2
  rcases atN_one hA with ⟨rfl,rfl⟩ | hA
  ·exact arr1 cl_ok e0 h hw'
  exact (atN_nil hA).elim
 simp only [ir14,nt14,rs14,go_sem,↓reduceIte,Nat.reduceLT,Nat.reduceLeDiff,Nat.reduceAdd,Nat.reduceSub,Nat.reduceMul,Nat.reduceEqDiff,reduceCtorEq,Int.reduceToNat,Int.reduceEq,Int.reduceBEq,Int.reduceBNe,Int.reduceLT,Int.reduceLE,Int.reduceNeg,Int.reduceAdd,Int.reduceSub,Int.reduceMul,Int.reduceGE,Int.reduceGT,Cl.enc,iv,endO,dr_cons]
 have hm:xs.length≤maxLen∧xs.length+1≤maxLen:=by simp only [maxLen];omega
 have hq:(xs.length+xs.length / 4+192) * 72≤281474976710656:=fit_app _ (by clear hm;omega)
 have hq2:(xs.length+1+(xs.length+1) / 4+192) * 72≤281474976710656:=fit_app _ (by clear hm hq;omega)
 refine And.intro (by decide) (And.intro (And.intro hq hm.1) (And.intro (by decide) (And.intro (And.intro (Nat.le_refl _) (And.intro hq2 hm.2)) (And.intro (And.intro (by omega) (Or.inr trivial)) ?_))))
 refine retList 4 _ _ rfl (by simp) fun e he=>?_
 simp only [List.length_append,List.length_cons,List.length_nil] at he
 simp only [appAt,arrOf_ats,ats]
 by_cases h1:e<xs.length
 ·simp [h1,List.getD_eq_getElem?_getD,List.getElem?_append_left h1]
 ·have:e=xs.length:=by omega
  subst this
  simp [List.getD_eq_getElem?_getD,mark,Cl.enc,iv,take',drop']
end Go.Proofs.Ytkjeedlkkpgopaa.Z
namespace Go.Proofs.Ytkjeedlkkpgopaa.Z
open Go Go.RowKit
def ir15:IR:=(.seq (.ops [⟨(some 2),(.mv (.k (.c (.v (.bool false))))),none⟩]) (.kill [1,2,3,4,5,6,7,8,9,10,11] (.seq (.ops [⟨(some 15),(.mkm (.int .i64) .i64),none⟩,⟨(some 3),(.mv (.t 15)),none⟩]) (.kill [15] (.seq (.seq (.ops [⟨(some 16),(.mv (.t 0)),none⟩,⟨(some 17),(.len (.t 16)),none⟩,⟨(some 18),(.mv (.k (.c (.v (.int .i64 0))))),none⟩]) (.blk 0 (.loop (.seq (.ops [⟨(some 19),(.bin .lss (.t 18) (.t 17)),none⟩]) (.kill [2,4,5,6,7,20,21,22,23,24,25,26,27,28,29,30,31,32,33,34,35,36,37,38,39,40,41,42,43,44,45,46,47,48,49,50,51,52,53,54,55,56,57,58,59,60,61,62,63,64,65,66,67,68,69,70,71] (.seq (.cond (.t 19) .skip (.exit 0)) (.kill [19] (.seq (.blk 1 (.seq (.ops [⟨(some 20),(.mv (.t 18)),none⟩,⟨(some 21),(.ia 9 (.t 16) (.t 18)),none⟩,⟨(some 22),(.ld true 9 (.t 21)),none⟩,⟨(some 5),(.new 53 [(.v (.int .i64 0)),(.v (.int .i64 0)),(.v (.int .i64 0)),(.v (.int .i64 0)),(.v (.int .i64 0)),(.v (.int .i64 0)),(.v (.int .i64 0)),(.v (.int .i64 0)),(.v (.int .i64 0))]),none⟩,⟨(some 4),(.mv (.t 20)),none⟩,⟨none,(.st 9 (.t 5) (.t 22)),none⟩]) (.kill [20,21,22] (.seq (.seq (.draw [(⟨(some 23),(.ld true 9 (.t 5)),none⟩,([],[])),(⟨(some 24),(.call 37 [(.t 23)]),none⟩,([],[])),(⟨(some 25),(.un .not (.t 24)),none⟩,([],[])),(⟨(some 26),(.mv (.t 25)),none⟩,([],[])),(⟨(some 27),(.mv (.t 4)),(some (26,false))⟩,([],[])),(⟨(some 28),(.bin .gtr (.t 27) (.k (.c (.v (.int .i64 0))))),(some (26,false))⟩,([],[])),(⟨(some 29),(.mv (.t 28)),(some (26,false))⟩,([],[])),(⟨(some 30),(.fa 4 (.t 5)),(some (29,true))⟩,([],[32,33,34,35,36,37])),(⟨(some 31),(.ld false 1 (.t 30)),(some (29,true))⟩,([],[32,33,34,35,36,37])),(⟨(some 32),(.mv (.t 0)),(some (29,true))⟩,([7,8],[30,31,33,34])),(⟨(some 33),(.mv (.t 4)),(some (29,true))⟩,([7,8,9],[30,31,32])),(⟨(some 34),(.bin .sub (.t 33) (.k (.c (.v (.int .i64 1))))),(some (29,true))⟩,([7,8,9],[30,31,32])),(⟨(some 35),(.ia 9 (.t 32) (.t 34)),(some (29,true))⟩,([7,8],[30,31])),(⟨(some 36),(.fa 4 (.t 35)),(some (29,true))⟩,([7,8],[30,31])),(⟨(some 37),(.ld false 1 (.t 36)),(some (29,true))⟩,([7,8],[30,31])),(⟨(some 38),(.bin .leq (.t 31) (.t 37)),(some (29,true))⟩,([],[])),(⟨(some 39),(.pick (.t 29) (.t 38) (.k (.c (.v (.bool false))))),(some (26,false))⟩,([],[])),(⟨(some 40),(.pick (.t 26) (.k (.c (.v (.bool true)))) (.t 39)),none⟩,([],[]))]) (.kill [23,24,25,26,27,28,29,30,31,32,33,34,35,36,37,38,39] (.cond (.t 40) (.seq (.ops [⟨(some 2),(.mv (.k (.c (.v (.bool false))))),none⟩]) (.kill [0,3,4,5,16,17,18,40] .ret)) .skip))) (.kill [2,40] (.seq (.seq (.ops [⟨(some 42),(.mv (.t 3)),none⟩,⟨(some 43),(.fa 0 (.t 5)),none⟩,⟨(some 44),(.ld false 1 (.t 43)),none⟩,⟨(some 45),(.lkp (.int .i64) .i64 true (.t 42) (.t 44)),none⟩,⟨(some 41),(.mv (.t 45)),none⟩,⟨(some 46),(.ext 0 (.t 41)),none⟩,⟨(some 47),(.ext 1 (.t 41)),none⟩,⟨(some 6),(.mv (.t 46)),none⟩,⟨(some 7),(.mv (.t 47)),none⟩]) (.kill [41,42,43,44,45,46,47] (.seq (.draw [(⟨(some 48),(.mv (.t 7)),none⟩,([],[])),(⟨(some 49),(.mv (.t 48)),none⟩,([],[])),(⟨(some 50),(.mv (.t 0)),(some (49,true))⟩,([],[51])),(⟨(some 51),(.mv (.t 6)),(some (49,true))⟩,([2],[50])),(⟨(some 52),(.ia 9 (.t 50) (.t 51)),(some (49,true))⟩,([],[])),(⟨(some 53),(.fa 5 (.t 52)),(some (49,true))⟩,([],[])),(⟨(some 54),(.ld false 1 (.t 53)),(some (49,true))⟩,([],[])),(⟨(some 55),(.bin .eql (.t 54) (.k (.c (.v (.int .i64 (-1)))))),(some (49,true))⟩,([],[])),(⟨(some 56),(.mv (.t 55)),(some (49,true))⟩,([],[])),(⟨(some 57),(.mv (.t 0)),(some (56,false))⟩,([],[58,62,63])),(⟨(some 58),(.mv (.t 6)),(some (56,false))⟩,([9],[57,62,63])),(⟨(some 59),(.ia 9 (.t 57) (.t 58)),(some (56,false))⟩,([],[62,63])),(⟨(some 60),(.fa 5 (.t 59)),(some (56,false))⟩,([],[62,63])),(⟨(some 61),(.ld false 1 (.t 60)),(some (56,false))⟩,([],[62,63])),(⟨(some 62),(.fa 4 (.t 5)),(some (56,false))⟩,([9,10,11,12,13],[57,58,59,60,61])),(⟨(some 63),(.ld false 1 (.t 62)),(some (56,false))⟩,([9,10,11,12,13],[57,58,59,60,61])),(⟨(some 64),(.bin .geq (.t 61) (.t 63)),(some (56,false))⟩,([],[])),(⟨(some 65),(.pick (.t 56) (.k (.c (.v (.bool true)))) (.t 64)),(some (49,true))⟩,([],[])),(⟨(some 66),(.pick (.t 49) (.t 65) (.k (.c (.v (.bool false))))),none⟩,([],[]))]) (.kill [6,7,48,49,50,51,52,53,54,55,56,57,58,59,60,61,62,63,64,65] (.cond (.t 66) (.seq (.ops [⟨(some 2),(.mv (.k (.c (.v (.bool false))))),none⟩]) (.kill [0,3,4,5,16,17,18,66] .ret)) .skip))))) (.kill [2,66] (.ops [⟨(some 67),(.mv (.t 3)),none⟩,⟨(some 68),(.fa 0 (.t 5)),none⟩,⟨(some 69),(.ld false 1 (.t 68)),none⟩,⟨(some 70),(.mv (.t 4)),none⟩,⟨none,(.mup (.int .i64) .i64 (.t 67) (.t 69) (.t 70)),none⟩])))))))) (.kill [2,4,5,6,7,20,21,22,23,24,25,26,27,28,29,30,31,32,33,34,35,36,37,38,39,40,41,42,43,44,45,46,47,48,49,50,51,52,53,54,55,56,57,58,59,60,61,62,63,64,65,66,67,68,69,70] (.ops [⟨(some 71),(.bin .add (.t 18) (.k (.c (.v (.int .i64 1))))),none⟩,⟨(some 18),(.mv (.t 71)),none⟩])))))))))) (.kill [2,3,4,5,6,7,16,17,18,19,20,21,22,23,24,25,26,27,28,29,30,31,32,33,34,35,36,37,38,39,40,41,42,43,44,45,46,47,48,49,50,51,52,53,54,55,56,57,58,59,60,61,62,63,64,65,66,67,68,69,70,71] (.seq (.ops [⟨(some 72),(.mkm (.int .i64) .i64),none⟩,⟨(some 8),(.mv (.t 72)),none⟩]) (.kill [72] (.seq (.seq (.ops [⟨(some 73),(.mv (.t 0)),none⟩,⟨(some 74),(.len (.t 73)),none⟩,⟨(some 75),(.mv (.k (.c (.v (.int .i64 0))))),none⟩]) (.kill [0] (.blk 2 (.loop (.seq (.ops [⟨(some 76),(.bin .lss (.t 75) (.t 74)),none⟩]) (.kill [2,9,10,12,13,14,77,78,79,80,81,82,83,84,85,86,87,88,89,90,91,92,93,94,95,96,97,98,99,100,101,102,103,104,105,106,107,108] (.seq (.cond (.t 76) .skip (.exit 2)) (.kill [76] (.seq (.blk 3 (.seq (.ops [⟨(some 77),(.mv (.t 75)),none⟩,⟨(some 78),(.ia 9 (.t 73) (.t 75)),none⟩,⟨(some 79),(.ld true 9 (.t 78)),none⟩,⟨(some 10),(.new 53 [(.v (.int .i64 0)),(.v (.int .i64 0)),(.v (.int .i64 0)),(.v (.int .i64 0)),(.v (.int .i64 0)),(.v (.int .i64 0)),(.v (.int .i64 0)),(.v (.int .i64 0)),(.v (.int .i64 0))]),none⟩,⟨(some 9),(.mv (.t 77)),none⟩,⟨none,(.st 9 (.t 10) (.t 79)),none⟩]) (.kill [77,78,79] (.seq (.ops [⟨(some 80),(.fa 4 (.t 10)),none⟩,⟨(some 81),(.ld false 1 (.t 80)),none⟩,⟨(some 82),(.fa 5 (.t 10)),none⟩,⟨(some 83),(.ld false 1 (.t 82)),none⟩,⟨(some 84),(.fa 6 (.t 10)),none⟩,⟨(some 85),(.ld false 1 (.t 84)),none⟩,⟨(some 86),(.build [(.v (.int .i64 0)),(.v (.int .i64 0)),(.v (.int .i64 0))] [(0,(1,(.t 81))),(1,(1,(.t 83))),(2,(1,(.t 85)))]),none⟩,⟨(some 87),(.mv (.k (.c (.v (.int .i64 0))))),none⟩]) (.kill [10,80,81,82,83,84,85] (.blk 4 (.loop (.seq (.ops [⟨(some 88),(.bin .lss (.t 87) (.k (.c (.v (.int .i64 3))))),none⟩]) (.kill [2,12,13,14,89,90,91,92,93,94,95,96,97,98,99,100,101,102,103,104,105,106,107] (.seq (.cond (.t 88) .skip (.exit 4)) (.kill [88] (.seq (.blk 5 (.seq (.ops [⟨(some 89),(.idx false 3 1 (.t 86) (.t 87)),none⟩,⟨(some 12),(.mv (.t 89)),none⟩]) (.kill [89] (.seq (.seq (.ops [⟨(some 90),(.mv (.t 12)),none⟩,⟨(some 91),(.bin .eql (.t 90) (.k (.c (.v (.int .i64 (-1)))))),none⟩]) (.kill [90] (.cond (.t 91) (.exit 5) .skip))) (.kill [91] (.seq (.seq (.ops [⟨(some 93),(.mv (.t 8)),none⟩,⟨(some 94),(.mv (.t 12)),none⟩,⟨(some 95),(.lkp (.int .i64) .i64 true (.t 93) (.t 94)),none⟩,⟨(some 92),(.mv (.t 95)),none⟩,⟨(some 96),(.ext 0 (.t 92)),none⟩,⟨(some 97),(.ext 1 (.t 92)),none⟩,⟨(some 13),(.mv (.t 96)),none⟩,⟨(some 14),(.mv (.t 97)),none⟩]) (.kill [92,93,94,95,96,97] (.seq (.ops [⟨(some 98),(.mv (.t 14)),none⟩,⟨(some 99),(.mv (.t 98)),none⟩,⟨(some 100),(.mv (.t 13)),(some (99,true))⟩,⟨(some 101),(.mv (.t 9)),(some (99,true))⟩,⟨(some 102),(.bin .neq (.t 100) (.t 101)),(some (99,true))⟩,⟨(some 103),(.pick (.t 99) (.t 102) (.k (.c (.v (.bool false))))),none⟩]) (.kill [13,14,98,99,100,101,102] (.cond (.t 103) (.seq (.ops [⟨(some 2),(.mv (.k (.c (.v (.bool false))))),none⟩]) (.kill [8,9,12,73,74,75,86,87,103] .ret)) .skip))))) (.kill [2,103] (.ops [⟨(some 104),(.mv (.t 8)),none⟩,⟨(some 105),(.mv (.t 12)),none⟩,⟨(some 106),(.mv (.t 9)),none⟩,⟨none,(.mup (.int .i64) .i64 (.t 104) (.t 105) (.t 106)),none⟩])))))))) (.kill [2,12,13,14,89,90,91,92,93,94,95,96,97,98,99,100,101,102,103,104,105,106] (.ops [⟨(some 107),(.bin .add (.t 87) (.k (.c (.v (.int .i64 1))))),none⟩,⟨(some 87),(.mv (.t 107)),none⟩])))))))))))))) (.kill [2,9,10,12,13,14,77,78,79,80,81,82,83,84,85,86,87,88,89,90,91,92,93,94,95,96,97,98,99,100,101,102,103,104,105,106,107] (.ops [⟨(some 108),(.bin .add (.t 75) (.k (.c (.v (.int .i64 1))))),none⟩,⟨(some 75),(.mv (.t 108)),none⟩]))))))))))) (.kill [2,8,9,10,12,13,14,73,74,75,76,77,78,79,80,81,82,83,84,85,86,87,88,89,90,91,92,93,94,95,96,97,98,99,100,101,102,103,104,105,106,107,108] (.seq (.ops [⟨(some 2),(.mv (.k (.c (.v (.bool true))))),none⟩]) .ret)))))))))))
def rs15:List RS:=[(.t 2)]
def nt15:Nat:=109
def lastF (xs:List Cl):Nat→List Int→Option Int
 | 0=>fun _=>none
 | i+1=>fun q=>if q=[(xs.getD i cl0).thread] then some (i:Int) else lastF xs i q
def put3 (f:List Int→Option Int) (i:Nat):List Int→List Int→Option Int
 | []=>f
 | t :: l=>if t = -1 then put3 f i l else put3 (fun q=>if q=[t] then some (i:Int) else f q) i l
def whoF (xs:List Cl):Nat→List Int→Option Int
 | 0=>fun _=>none
 | i+1=>put3 (whoF xs i) i [(xs.getD i cl0).beg,(xs.getD i cl0).fin,(xs.getD i cl0).point]
structure InvA (xs:List Cl) (n:Nat):Prop where
 shaped:∀ k,k<n→shapedB (xs.getD k cl0)=true
 up:∀ k,k+1<n→(xs.getD k cl0).beg<(xs.getD (k+1) cl0).beg
 thr:∀ j k,j<k→k<n→(xs.getD j cl0).thread=(xs.getD k cl0).thread→(xs.getD j cl0).fin≠-1∧(xs.getD j cl0).fin<(xs.getD k cl0).beg
def Cl.moves (c:Cl):List Int:=[c.beg,c.fin,c.point]
def InvB (xs:List Cl) (n:Nat):Prop:=∀ j k,j<k→k<n→∀ t,t≠-1→t∈(xs.getD j cl0).moves→t ∉ (xs.getD k cl0).moves
def mayP (xs:List Cl):Prop:=InvA xs xs.length∧InvB xs xs.length
theorem InvA.mono {xs:List Cl} {m n:Nat} (h:InvA xs n) (hm:m≤n):InvA xs m:=⟨fun k hk=>h.shaped k (by omega),fun k hk=>h.up k (by omega),fun j k hj hk=>h.thr j k hj (by omega)⟩
theorem InvB.mono {xs:List Cl} {m n:Nat} (h:InvB xs n) (hm:m≤n):InvB xs m:=fun j k hj hk=>h j k hj (by omega)
theorem lastF_some {xs:List Cl} {t z:Int}:∀ {i:Nat},lastF xs i [t]=some z→∃ j:Nat,j<i∧z=j∧(xs.getD j cl0).thread=t∧∀ k,j<k→k<i→(xs.getD k cl0).thread≠t
 | 0,h=>by cases h
 | i+1,h=>by
  simp only [lastF,List.cons.injEq,and_true] at h
  split at h
  ·next e =>
   simp only [Option.some.injEq] at h
   exact ⟨i,by omega,h.symm,e.symm,fun k hk hk'=>by omega⟩
  ·next e =>
   obtain ⟨j,h1,h2,h3,h4⟩:=lastF_some h
   refine ⟨j,by omega,h2,h3,fun k hk hk'=>?_⟩
   by_cases hki:k=i
   ·subst hki;exact fun h=>e h.symm
   ·exact h4 k hk (by omega)
theorem lastF_none {xs:List Cl} {t:Int}:∀ {i:Nat},lastF xs i [t]=none→∀ k,k<i→(xs.getD k cl0).thread≠t
 | 0,h,k,hk=>by omega
 | i+1,h,k,hk=>by
  simp only [lastF,List.cons.injEq,and_true] at h
  split at h
  ·cases h
  ·next e =>
   by_cases hki:k=i
   ·subst hki;exact fun h=>e h.symm
   ·exact lastF_none h k (by omega)
theorem put3_get (i:Nat) (q:Int) (hq:q≠-1):∀ (l:List Int) (f:List Int→Option Int),put3 f i l [q]=if q∈l then some (i:Int) else f [q]
 | [],f=>by simp [put3]
 | t :: l,f=>by
  simp only [put3]
  by_cases h:t = -1
  ·subst h
   rw [if_pos rfl,put3_get i q hq l f]
   simp [hq]
  ·rw [if_neg h,put3_get i q hq l _]
   by_cases h2:q∈l
   ·simp [h2]
   ·by_cases h3:q=t
    ·simp [h3]
    ·simp [h2,h3]
theorem whoF_some {xs:List Cl} {t z:Int} (ht:t≠-1):∀ {i:Nat},whoF xs i [t]=some z→∃ j:Nat,j<i∧z=j∧t∈(xs.getD j cl0).moves
 | 0,h=>by cases h
 | i+1,h=>by
  simp only [whoF] at h
  rw [put3_get i t ht] at h
  split at h
  ·next e =>
   simp only [Option.some.injEq] at h
   exact ⟨i,by omega,h.symm,e⟩
  ·obtain ⟨j,h1,h2,h3⟩:=whoF_some ht h
   exact ⟨j,by omega,h2,h3⟩
theorem whoF_none {xs:List Cl} {t:Int} (ht:t≠-1):∀ {i:Nat},whoF xs i [t]=none→∀ k,k<i→t ∉ (xs.getD k cl0).moves
 | 0,h,k,hk=>by omega
 | i+1,h,k,hk=>by
  simp only [whoF] at h
  rw [put3_get i t ht] at h
  split at h
  ·cases h
  ·next e =>
   by_cases hki:k=i
   ·subst hki;exact e
   ·exact whoF_none ht h k (by omega)
theorem invA_step {xs:List Cl} {i:Nat} (h:InvA xs i) (h1:shapedB (xs.getD i cl0)=true) (h2:0<i→(xs.getD (i - 1) cl0).beg<(xs.getD i cl0).beg)
  (h3:∀ j:Nat,j<i→(xs.getD j cl0).thread=(xs.getD i cl0).thread→(∀ k,j<k→k<i→(xs.getD k cl0).thread≠(xs.getD i cl0).thread)→(xs.getD j cl0).fin≠-1∧(xs.getD j cl0).fin<(xs.getD i cl0).beg):InvA xs (i+1):=by
 have hsh:∀ k,k<i+1→shapedB (xs.getD k cl0)=true:=fun k hk=>by
  by_cases hki:k=i
  ·subst hki;exact h1
  ·exact h.shaped k (by omega)
 refine ⟨hsh,fun k hk=>?_,fun j k hj hk ht=>?_⟩
 ·by_cases hki:k+1=i
  ·have:=h2 (by omega)
   subst hki
   simpa using this
  ·exact h.up k (by omega)
 ·by_cases hki:k=i
  ·subst hki
   have key:∀ m j:Nat,k - j≤m→j<k→(xs.getD j cl0).thread=(xs.getD k cl0).thread→(xs.getD j cl0).fin≠-1∧(xs.getD j cl0).fin<(xs.getD k cl0).beg:=by
    intro m
    induction m with
    | zero=>intro j hm hj _;omega
    | succ m ih =>
     intro j hm hj ht
     by_cases hex:∃ q,j<q∧q<k∧(xs.getD q cl0).thread=(xs.getD k cl0).thread
     ·obtain ⟨q,hq1,hq2,hq3⟩:=hex
      have g1:=ih q (by omega) hq2 hq3
      have g2:=h.thr j q hq1 hq2 (ht.trans hq3.symm)
      have g3:=h.shaped q hq2
      simp only [shapedB,decide_eq_true_eq] at g3
      have g4:=g3.1.2.2.2 g1.1
      exact ⟨g2.1,by omega⟩
     ·exact h3 j hj ht fun q hq1 hq2 hq3=>hex ⟨q,hq1,hq2,hq3⟩
   exact key k j (by omega) hj ht
  ·exact h.thr j k hj (by omega) ht
theorem invB_step {xs:List Cl} {i:Nat} (h:InvB xs i) (h1:∀ t,t≠-1→t∈(xs.getD i cl0).moves→∀ j,j<i→t ∉ (xs.getD j cl0).moves):InvB xs (i+1):=by
 intro j k hj hk t ht hm hm'
 by_cases hki:k=i
 ·subst hki;exact h1 t ht hm' j hj hm
 ·exact h j k hj (by omega) t ht hm hm'
theorem put3_snoc (i:Nat) (t:Int):∀ (l:List Int) (f:List Int→Option Int) (q:List Int),put3 f i (l++[t]) q=if t = -1 then put3 f i l q else if q=[t] then some (i:Int) else put3 f i l q
 | [],f,q=>by
  simp only [put3,List.nil_append]
  split <;> rfl
 | u :: l,f,q=>by
  simp only [put3,List.cons_append]
  split
  ·exact put3_snoc i t l f q
  ·exact put3_snoc i t l _ q
theorem who_fail {xs:List Cl} {i:Nat} {t:Int} {L:List Int} (ht:t≠-1) (h:(if (put3 (whoF xs i) i L [t]).isSome=true then (put3 (whoF xs i) i L [t]).getD 0 != (i:Int) else false)=true):∃ j,j<i∧t∈(xs.getD j cl0).moves:=by
 rw [put3_get i t ht] at h
 by_cases hL:t∈L
 ·simp [hL] at h
 ·rw [if_neg hL] at h
  cases hz:whoF xs i [t] with
  | none=>rw [hz] at h;simp at h
  | some z =>
   obtain ⟨j,h1,h2,h3⟩:=whoF_some ht hz
   exact ⟨j,h1,h3⟩
theorem who_ok {xs:List Cl} {i:Nat} {t:Int} {L:List Int} (ht:t≠-1) (hL:∀ t,t∈L→t≠-1→∀ j,j<i→t ∉ (xs.getD j cl0).moves) (h:(if (put3 (whoF xs i) i L [t]).isSome=true then (put3 (whoF xs i) i L [t]).getD 0 != (i:Int) else false)=false):∀ j,j<i→t ∉ (xs.getD j cl0).moves:=by
 rw [put3_get i t ht] at h
 by_cases hm:t∈L
 ·exact hL t hm ht
 ·rw [if_neg hm] at h
  cases hz:whoF xs i [t] with
  | none=>exact whoF_none ht hz
  | some z =>
   obtain ⟨j,h1,rfl,h3⟩:=whoF_some ht hz
   rw [hz] at h
   simp at h
   omega
set_option maxRecDepth 100000 in
set_option maxHeartbeats 400000 in
theorem may_calls (w:World) (v:Value) (xs:List Cl) (b:Bool) (hbt:mayP xs→b=true) (hbf:¬ mayP xs→b=false) (h:Arr w Cl.enc 9 v xs):Calls Try.prog 15 #[v] w (RetV w (.bool b)):=by
 refine calls_sym (c:=ir15) (C:=mkC Try.prog [] w rs15 (RetV w (.bool b))) 1000 [.c (.xv (0,0,0))] 
  (E1 v) [] [(0,.one (arrOf Cl.enc 9 xs cl0))] [] 1 nt15 _ (mkTab_ok _ _) Try.func15 rfl (by kernel_rfl) (by kernel_rfl) rfl rfl rfl (E1_one (arr_one h))
  (fun E' hE'=>?_) (of_decide_eq_true rfl) (fun E' hE'=>inOk_arrs fun w' hw' x A hA=>?_) ?_
 ·have e0:=(hE' (0,0,0) (by decide)).2.2.2
  simp [SV.den,SC.den,e0,E1]
 ·have e0:=(hE' (0,0,0) (by decide)).2.2.2
  rcases atN_one hA with ⟨rfl,rfl⟩ | hA
  ·exact arr1 cl_ok e0 h hw'
  exact (atN_nil hA).elim
 simp only [ir15,nt15,rs15,go_sem,↓reduceIte,Nat.reduceLT,Nat.reduceLeDiff,Nat.reduceAdd,Nat.reduceSub,Nat.reduceMul,Nat.reduceEqDiff,reduceCtorEq,Int.reduceToNat,Int.reduceEq,Int.reduceBEq,Int.reduceBNe,Int.reduceLT,Int.reduceLE,Int.reduceNeg,Int.reduceAdd,Int.reduceSub,Int.reduceMul,Int.reduceGE,Int.reduceGT,Cl.enc,iv,endO,dr_cons]
 refine loopI (ι:={ i:Nat // i≤xs.length∧InvA xs i }) (fun i=>⟨109,[(0,.c (.xv (0,0,0))),(3,.c (.mp (1,0,0))),(16,.c (.xv (0,0,0))),(17,.c (.v (.int .i64 (xs.length:Nat)))),(18,.c (.v (.int .i64 (i.1:Nat))))],[(1,.one (.mp (.int .i64) .i64 (lastF xs i.1)))],[(0,.one (arrOf Cl.enc 9 xs cl0))],[],2⟩)
  (fun i=>xs.length - i.1) ⟨0,by omega,⟨fun _ h=>by omega,fun _ h=>by omega,fun _ _ _ h=>by omega⟩⟩ ?_ ?_
 ·exact le_refl _
 rintro ⟨i,hi,hg⟩
 simp only [go_sem,↓reduceIte,Nat.reduceLT,Nat.reduceLeDiff,Nat.reduceAdd,Nat.reduceSub,Nat.reduceMul,Nat.reduceEqDiff,reduceCtorEq,Int.reduceToNat,Int.reduceEq,Int.reduceBEq,Int.reduceBNe,Int.reduceLT,Int.reduceLE,Int.reduceNeg,Int.reduceAdd,Int.reduceSub,Int.reduceMul,Int.reduceGE,Int.reduceGT,Cl.enc,iv,endO,dr_cons]
 refine both (fun hlt=>?_) (fun hge=>?_)
 ·rw [decide_eq_true_eq] at hlt
  refine ⟨hlt,hlt,?_⟩
  have hlen:=Z.Arr.lenM h
  simp only [maxLen] at hlen
  generalize hci:xs.getD i cl0=ci
  refine draw_vc (by kernel_rfl) (mkTab_ok _ _) (of_decide_eq_true rfl) (of_decide_eq_true rfl) ?_
  simp only [go_sem,↓reduceIte,Nat.reduceLT,Nat.reduceLeDiff,Nat.reduceAdd,Nat.reduceSub,Nat.reduceMul,Nat.reduceEqDiff,reduceCtorEq,Int.reduceToNat,Int.reduceEq,Int.reduceBEq,Int.reduceBNe,Int.reduceLT,Int.reduceLE,Int.reduceNeg,Int.reduceAdd,Int.reduceSub,Int.reduceMul,Int.reduceGE,Int.reduceGT,Cl.enc,iv,endO,dr_cons]
  refine dcallV (.c (.bo (shapedB ci))) _ (fun E=>rfl) (fun E a w' _=>shaped_calls w' ci) ?_
  simp only [go_sem,↓reduceIte,Nat.reduceLT,Nat.reduceLeDiff,Nat.reduceAdd,Nat.reduceSub,Nat.reduceMul,Nat.reduceEqDiff,reduceCtorEq,Int.reduceToNat,Int.reduceEq,Int.reduceBEq,Int.reduceBNe,Int.reduceLT,Int.reduceLE,Int.reduceNeg,Int.reduceAdd,Int.reduceSub,Int.reduceMul,Int.reduceGE,Int.reduceGT,Cl.enc,iv,endO,dr_cons]
  have hwi:0<i→IntKind.i64.wrap ((i:Int) - 1)=((i - 1:Nat):Int):=fun h=>by rw [wr64 (by omega) (by omega)];omega
  have hg1:(shapedB ci && decide ((i:Int)>0))=true→0<i:=fun h=>by
   have:=(Bool.and_eq_true _ _ ▸ h).2
   rw [decide_eq_true_eq] at this
   omega
  refine ⟨fun h=>?_,fun h=>?_,fun h=>?_,fun h=>?_,fun h1=>?_⟩
  ·rw [hwi (hg1 h)];have:=hg1 h;omega
  ·rw [hwi (hg1 h)];have:=hg1 h;omega
  ·rw [hwi (hg1 h)];have:=hg1 h;omega
  ·refine retV fun E=>?_
   rw [den_c,den_v,Value.bool.injEq]
   refine (hbf fun hm=>?_).symm
   have g1:=hm.1.shaped i hlt
   rw [hci] at g1
   by_cases hi0:0<i
   ·have g2:=hm.1.up (i - 1) (by omega)
    rw [show i - 1+1=i by omega,hci] at g2
    rw [hwi hi0,Int.toNat_natCast] at h
    simp only [b_decR,b_decL,bt_ite,bf_ite,bt_dec,bf_dec,bt_int,bf_int,bt_nint,bf_nint,bt_bool,bf_bool,bt_nbool,bf_nbool,bt_not,bf_not,bt_and,bf_and,bt_or,bf_or,Bool.false_eq_true,Bool.true_eq_false,Bool.not_eq_true,Bool.not_eq_false,reduceCtorEq,false_iff,true_iff,iff_false,iff_true,and_true,true_and,and_false,false_and,or_true,true_or,or_false,false_or,not_true_eq_false,not_false_eq_true,ne_eq] at h
    simp only [g1] at h
    simp only [b_decR,b_decL,bt_ite,bf_ite,bt_dec,bf_dec,bt_int,bf_int,bt_nint,bf_nint,bt_bool,bf_bool,bt_nbool,bf_nbool,bt_not,bf_not,bt_and,bf_and,bt_or,bf_or,Bool.false_eq_true,Bool.true_eq_false,Bool.not_eq_true,Bool.not_eq_false,reduceCtorEq,false_iff,true_iff,iff_false,iff_true,and_true,true_and,and_false,false_and,or_true,true_or,or_false,false_or,not_true_eq_false,not_false_eq_true,ne_eq] at h
    omega
   ·simp only [b_decR,b_decL,bt_ite,bf_ite,bt_dec,bf_dec,bt_int,bf_int,bt_nint,bf_nint,bt_bool,bf_bool,bt_nbool,bf_nbool,bt_not,bf_not,bt_and,bf_and,bt_or,bf_or,Bool.false_eq_true,Bool.true_eq_false,Bool.not_eq_true,Bool.not_eq_false,reduceCtorEq,false_iff,true_iff,iff_false,iff_true,and_true,true_and,and_false,false_and,or_true,true_or,or_false,false_or,not_true_eq_false,not_false_eq_true,ne_eq,g1] at h
    omega
  ·have h11:shapedB ci=true:=by
    simp only [b_decR,b_decL,bt_ite,bf_ite,bt_dec,bf_dec,bt_int,bf_int,bt_nint,bf_nint,bt_bool,bf_bool,bt_nbool,bf_nbool,bt_not,bf_not,bt_and,bf_and,bt_or,bf_or,Bool.false_eq_true,Bool.true_eq_false,Bool.not_eq_true,Bool.not_eq_false,reduceCtorEq,false_iff,true_iff,iff_false,iff_true,and_true,true_and,and_false,false_and,or_true,true_or,or_false,false_or,not_true_eq_false,not_false_eq_true,ne_eq] at h1
    cases hs:shapedB ci with
    | true=>rfl
    | false=>simp [hs] at h1
   have h12:0<i→(xs.getD (i - 1) cl0).beg<ci.beg:=fun hi0=>by
    rw [hwi hi0,Int.toNat_natCast] at h1
    simp only [b_decR,b_decL,bt_ite,bf_ite,bt_dec,bf_dec,bt_int,bf_int,bt_nint,bf_nint,bt_bool,bf_bool,bt_nbool,bf_nbool,bt_not,bf_not,bt_and,bf_and,bt_or,bf_or,Bool.false_eq_true,Bool.true_eq_false,Bool.not_eq_true,Bool.not_eq_false,reduceCtorEq,false_iff,true_iff,iff_false,iff_true,and_true,true_and,and_false,false_and,or_true,true_or,or_false,false_or,not_true_eq_false,not_false_eq_true,ne_eq,h11] at h1
    omega
   refine ⟨rfl,?_⟩
   refine draw_vc (by kernel_rfl) (mkTab_ok _ _) (of_decide_eq_true rfl) (of_decide_eq_true rfl) ?_
   simp only [go_sem,↓reduceIte,Nat.reduceLT,Nat.reduceLeDiff,Nat.reduceAdd,Nat.reduceSub,Nat.reduceMul,Nat.reduceEqDiff,reduceCtorEq,Int.reduceToNat,Int.reduceEq,Int.reduceBEq,Int.reduceBNe,Int.reduceLT,Int.reduceLE,Int.reduceNeg,Int.reduceAdd,Int.reduceSub,Int.reduceMul,Int.reduceGE,Int.reduceGT,Cl.enc,iv,endO,dr_cons]
   have hj:∀ z,lastF xs i [ci.thread]=some z→0≤z∧z<xs.length∧z.toNat<xs.length:=fun z hz=>by
    obtain ⟨j,h1,rfl,_⟩:=lastF_some hz
    simp only [Int.toNat_natCast]
    omega
   have hj' : (lastF xs i [ci.thread]).isSome=true→0≤(lastF xs i [ci.thread]).getD 0∧(lastF xs i [ci.thread]).getD 0<xs.length∧((lastF xs i [ci.thread]).getD 0).toNat<xs.length:=fun h=>by
    obtain ⟨z,hz⟩:=Option.isSome_iff_exists.1 h
    rw [hz]
    exact hj z hz
   refine ⟨fun h=>⟨(hj' h).1,(hj' h).2.1⟩,fun h=>(hj' h).2.2,fun h=>(hj' h).2.2,fun h=>?_,fun h=>?_,fun h=>?_,fun h=>?_,fun h3=>?_⟩
   ·have:=hj' (Bool.and_eq_true _ _ ▸ h).1;exact ⟨this.1,this.2.1⟩
   ·exact (hj' (Bool.and_eq_true _ _ ▸ h).1).2.2
   ·exact (hj' (Bool.and_eq_true _ _ ▸ h).1).2.2
   ·refine retV fun E=>?_
    rw [den_c,den_v,Value.bool.injEq]
    refine (hbf fun hm=>?_).symm
    cases hz:lastF xs i [ci.thread] with
    | none=>rw [hz] at h;simp at h
    | some z =>
     rw [hz] at h
     obtain ⟨j,h5,rfl,h6,_⟩:=lastF_some hz
     have h7:=hm.1.thr j i h5 hlt (by rw [h6,hci])
     rw [hci] at h7
     simp only [Option.isSome_some,if_true,Option.getD_some,Int.toNat_natCast,b_decR,b_decL,bt_ite,bf_ite,bt_dec,bf_dec,bt_int,bf_int,bt_nint,bf_nint,bt_bool,bf_bool,bt_nbool,bf_nbool,bt_not,bf_not,bt_and,bf_and,bt_or,bf_or,Bool.false_eq_true,Bool.true_eq_false,Bool.not_eq_true,Bool.not_eq_false,reduceCtorEq,false_iff,true_iff,iff_false,iff_true,and_true,true_and,and_false,false_and,or_true,true_or,or_false,false_or,not_true_eq_false,not_false_eq_true,ne_eq] at h
     omega
   ·refine ⟨rfl,?_⟩
    rw [wr_succ (by omega)]
    refine backI ⟨i+1,by omega,invA_step hg (by rw [hci];exact h11) (fun h=>by rw [hci];exact h12 h) fun j hj1 hj2 hj3=>?_⟩ (by simp only;omega) (le_ren id rfl rfl (by simp [TmpsLe,look,SV.ren,SC.ren,idσ,SV.okN,SC.okN]) ⟨⟨show (1:Nat)<2 from by decide,rfl,rfl,fun a=>?_⟩,trivial⟩ ⟨⟨show (0:Nat)<2 from by decide,arrLe_of⟩,trivial⟩ rfl)
    ·rw [hci] at hj2 hj3 ⊢
     cases hz:lastF xs i [ci.thread] with
     | none=>exact absurd hj2 (lastF_none hz j hj1)
     | some z =>
      rw [hz] at h3
      obtain ⟨q,h5,rfl,h6,h7⟩:=lastF_some hz
      have hjq:j=q:=by
       rcases Nat.lt_trichotomy j q with h8 | h8 | h8
       ·exact absurd h6 (hj3 q h8 h5)
       ·exact h8
       ·exact absurd hj2 (h7 j h8 hj1)
      subst hjq
      simp only [Option.isSome_some,if_true,Option.getD_some,Int.toNat_natCast,b_decR,b_decL,bt_ite,bf_ite,bt_dec,bf_dec,bt_int,bf_int,bt_nint,bf_nint,bt_bool,bf_bool,bt_nbool,bf_nbool,bt_not,bf_not,bt_and,bf_and,bt_or,bf_or,Bool.false_eq_true,Bool.true_eq_false,Bool.not_eq_true,Bool.not_eq_false,reduceCtorEq,false_iff,true_iff,iff_false,iff_true,and_true,true_and,and_false,false_and,or_true,true_or,or_false,false_or,not_true_eq_false,not_false_eq_true,ne_eq] at h3
      omega
    ·show (if a=[ci.thread] then some (i:Int) else lastF xs i a)=lastF xs (i+1) a
     simp only [lastF,hci]
 ·rw [decide_eq_false_iff_not] at hge
  have hin:i=xs.length:=by omega
  subst hin
  clear hge hi
  have hlen:=Z.Arr.lenM h
  simp only [maxLen] at hlen
  refine loopI (ι:={ i:Nat // i≤xs.length∧InvB xs i }) (fun i=>⟨109,[(8,.c (.mp (2,0,0))),(73,.c (.xv (0,0,0))),(74,.c (.v (.int .i64 (xs.length:Nat)))),(75,.c (.v (.int .i64 (i.1:Nat))))],[(2,.one (.mp (.int .i64) .i64 (whoF xs i.1)))],[(0,.one (arrOf Cl.enc 9 xs cl0))],[],3⟩)
   (fun i=>xs.length - i.1) ⟨0,by omega,fun _ _ _ h=>by omega⟩ ?_ ?_
  ·exact le_ren id rfl rfl (by simp [TmpsLe,look,SV.ren,SC.ren,idσ,SV.okN,SC.okN]) ⟨⟨show (2:Nat)<3 from by decide,rfl,rfl,fun a=>rfl⟩,trivial⟩ ⟨⟨show (0:Nat)<3 from by decide,arrLe_of⟩,trivial⟩ rfl
  rintro ⟨i,hi,hgb⟩
  simp only [go_sem,↓reduceIte,Nat.reduceLT,Nat.reduceLeDiff,Nat.reduceAdd,Nat.reduceSub,Nat.reduceMul,Nat.reduceEqDiff,reduceCtorEq,Int.reduceToNat,Int.reduceEq,Int.reduceBEq,Int.reduceBNe,Int.reduceLT,Int.reduceLE,Int.reduceNeg,Int.reduceAdd,Int.reduceSub,Int.reduceMul,Int.reduceGE,Int.reduceGT,Cl.enc,iv,endO,dr_cons]
  refine both (fun hlt=>?_) (fun hge=>?_)
  ·rw [decide_eq_true_eq] at hlt
   refine ⟨hlt,hlt,?_⟩
   generalize hci:xs.getD i cl0=ci
   refine loopI (ι:={ k:Nat // k≤3∧∀ t,t∈ci.moves.take k→t≠-1→∀ j,j<i→t ∉ (xs.getD j cl0).moves }) (fun k=>⟨109,[(8,.c (.mp (2,0,0))),(73,.c (.xv (0,0,0))),(74,.c (.v (.int .i64 (xs.length:Nat)))),(75,.c (.v (.int .i64 (i:Nat)))),(9,.c (.v (.int .i64 (i:Nat)))),(86,.agg [.v (.int .i64 ci.beg),.v (.int .i64 ci.fin),.v (.int .i64 ci.point)]),(87,.c (.v (.int .i64 (k.1:Nat))))],[(2,.one (.mp (.int .i64) .i64 (put3 (whoF xs i) i (ci.moves.take k.1))))],[(0,.one (arrOf Cl.enc 9 xs cl0))],[],3⟩)
    (fun k=>3 - k.1) ⟨0,by omega,fun _ h=>by simp at h⟩ ?_ ?_
   ·exact le_ren id rfl rfl (by simp [TmpsLe,look,SV.ren,SC.ren,SC.renL,SC.okL,idσ,SV.okN,SC.okN]) ⟨⟨show (2:Nat)<3 from by decide,rfl,rfl,fun a=>rfl⟩,trivial⟩ ⟨⟨show (0:Nat)<3 from by decide,arrLe_of⟩,trivial⟩ rfl
   rintro ⟨k,hk,hgk⟩
   rcases k with _ | _ | _ | _ | k
   ·simp only [go_sem,↓reduceIte,Nat.reduceLT,Nat.reduceLeDiff,Nat.reduceAdd,Nat.reduceSub,Nat.reduceMul,Nat.reduceEqDiff,reduceCtorEq,Int.reduceToNat,Int.reduceEq,Int.reduceBEq,Int.reduceBNe,Int.reduceLT,Int.reduceLE,Int.reduceNeg,Int.reduceAdd,Int.reduceSub,Int.reduceMul,Int.reduceGE,Int.reduceGT,Cl.enc,iv,endO,dr_cons]
    have hw:IntKind.i64.wrap (0+1)=((1:Nat):Int):=by decide
    have hT:ci.moves.take 1=ci.moves.take 0++[ci.beg]:=rfl
    refine ⟨fun h=>?_,fun h=>⟨rfl,fun h2=>?_,fun h2=>⟨rfl,?_⟩⟩⟩
    ·rw [beq_iff_eq] at h
     try rw [hw]
     refine backI ⟨1,by omega,fun t ht htn=>?_⟩ (by simp only;omega) (le_ren id rfl rfl (by simp [TmpsLe,look,SV.ren,SC.ren,SC.renL,SC.okL,idσ,SV.okN,SC.okN]) ⟨⟨show (2:Nat)<3 from by decide,rfl,rfl,fun a=>?_⟩,trivial⟩ ⟨⟨show (0:Nat)<3 from by decide,arrLe_of⟩,trivial⟩ rfl)
     ·rw [hT,List.mem_append,List.mem_singleton] at ht
      exact hgk t (ht.resolve_right fun e=>htn (e.trans h)) htn
     ·show put3 (whoF xs i) i (ci.moves.take 0) a=put3 (whoF xs i) i (ci.moves.take 1) a
      rw [hT,put3_snoc,if_pos h]
    ·have hn:ci.beg≠-1:=by simpa using h
     obtain ⟨j,hj,hmm⟩:=who_fail hn h2
     exact retV fun E=>by
      rw [den_c,den_v,hbf fun hm=>hm.2 j i hj hlt _ hn hmm (by rw [hci];simp [Cl.moves])]
    ·have hn:ci.beg≠-1:=by simpa using h
     try rw [hw]
     refine backI ⟨1,by omega,fun t ht htn=>?_⟩ (by simp only;omega) (le_ren id rfl rfl (by simp [TmpsLe,look,SV.ren,SC.ren,SC.renL,SC.okL,idσ,SV.okN,SC.okN]) ⟨⟨show (2:Nat)<3 from by decide,rfl,rfl,fun a=>?_⟩,trivial⟩ ⟨⟨show (0:Nat)<3 from by decide,arrLe_of⟩,trivial⟩ rfl)
     ·rw [hT,List.mem_append,List.mem_singleton] at ht
      rcases ht with ht | rfl
      ·exact hgk t ht htn
      ·exact who_ok hn hgk h2
     ·show (if a=[ci.beg] then some (i:Int) else put3 (whoF xs i) i (ci.moves.take 0) a)=put3 (whoF xs i) i (ci.moves.take 1) a
      rw [hT,put3_snoc,if_neg hn]
   ·simp only [go_sem,↓reduceIte,Nat.reduceLT,Nat.reduceLeDiff,Nat.reduceAdd,Nat.reduceSub,Nat.reduceMul,Nat.reduceEqDiff,reduceCtorEq,Int.reduceToNat,Int.reduceEq,Int.reduceBEq,Int.reduceBNe,Int.reduceLT,Int.reduceLE,Int.reduceNeg,Int.reduceAdd,Int.reduceSub,Int.reduceMul,Int.reduceGE,Int.reduceGT,Cl.enc,iv,endO,dr_cons]
    have hw:IntKind.i64.wrap (1+1)=((2:Nat):Int):=by decide
    have hT:ci.moves.take 2=ci.moves.take 1++[ci.fin]:=rfl
    refine ⟨fun h=>?_,fun h=>⟨rfl,fun h2=>?_,fun h2=>⟨rfl,?_⟩⟩⟩
    ·rw [beq_iff_eq] at h
     try rw [hw]
     refine backI ⟨2,by omega,fun t ht htn=>?_⟩ (by simp only;omega) (le_ren id rfl rfl (by simp [TmpsLe,look,SV.ren,SC.ren,SC.renL,SC.okL,idσ,SV.okN,SC.okN]) ⟨⟨show (2:Nat)<3 from by decide,rfl,rfl,fun a=>?_⟩,trivial⟩ ⟨⟨show (0:Nat)<3 from by decide,arrLe_of⟩,trivial⟩ rfl)
     ·rw [hT,List.mem_append,List.mem_singleton] at ht
      exact hgk t (ht.resolve_right fun e=>htn (e.trans h)) htn
     ·show put3 (whoF xs i) i (ci.moves.take 1) a=put3 (whoF xs i) i (ci.moves.take 2) a
      rw [hT,put3_snoc,if_pos h]
    ·have hn:ci.fin≠-1:=by simpa using h
     obtain ⟨j,hj,hmm⟩:=who_fail hn h2
     exact retV fun E=>by
      rw [den_c,den_v,hbf fun hm=>hm.2 j i hj hlt _ hn hmm (by rw [hci];simp [Cl.moves])]
    ·have hn:ci.fin≠-1:=by simpa using h
     try rw [hw]
     refine backI ⟨2,by omega,fun t ht htn=>?_⟩ (by simp only;omega) (le_ren id rfl rfl (by simp [TmpsLe,look,SV.ren,SC.ren,SC.renL,SC.okL,idσ,SV.okN,SC.okN]) ⟨⟨show (2:Nat)<3 from by decide,rfl,rfl,fun a=>?_⟩,trivial⟩ ⟨⟨show (0:Nat)<3 from by decide,arrLe_of⟩,trivial⟩ rfl)
     ·rw [hT,List.mem_append,List.mem_singleton] at ht
      rcases ht with ht | rfl
      ·exact hgk t ht htn
      ·exact who_ok hn hgk h2
     ·show (if a=[ci.fin] then some (i:Int) else put3 (whoF xs i) i (ci.moves.take 1) a)=put3 (whoF xs i) i (ci.moves.take 2) a
      rw [hT,put3_snoc,if_neg hn]
   ·simp only [go_sem,↓reduceIte,Nat.reduceLT,Nat.reduceLeDiff,Nat.reduceAdd,Nat.reduceSub,Nat.reduceMul,Nat.reduceEqDiff,reduceCtorEq,Int.reduceToNat,Int.reduceEq,Int.reduceBEq,Int.reduceBNe,Int.reduceLT,Int.reduceLE,Int.reduceNeg,Int.reduceAdd,Int.reduceSub,Int.reduceMul,Int.reduceGE,Int.reduceGT,Cl.enc,iv,endO,dr_cons]
    have hw:IntKind.i64.wrap (2+1)=((3:Nat):Int):=by decide
    have hT:ci.moves.take 3=ci.moves.take 2++[ci.point]:=rfl
    refine ⟨fun h=>?_,fun h=>⟨rfl,fun h2=>?_,fun h2=>⟨rfl,?_⟩⟩⟩
    ·rw [beq_iff_eq] at h
     try rw [hw]
     refine backI ⟨3,by omega,fun t ht htn=>?_⟩ (by simp only;omega) (le_ren id rfl rfl (by simp [TmpsLe,look,SV.ren,SC.ren,SC.renL,SC.okL,idσ,SV.okN,SC.okN]) ⟨⟨show (2:Nat)<3 from by decide,rfl,rfl,fun a=>?_⟩,trivial⟩ ⟨⟨show (0:Nat)<3 from by decide,arrLe_of⟩,trivial⟩ rfl)
     ·rw [hT,List.mem_append,List.mem_singleton] at ht
      exact hgk t (ht.resolve_right fun e=>htn (e.trans h)) htn
     ·show put3 (whoF xs i) i (ci.moves.take 2) a=put3 (whoF xs i) i (ci.moves.take 3) a
      rw [hT,put3_snoc,if_pos h]
    ·have hn:ci.point≠-1:=by simpa using h
     obtain ⟨j,hj,hmm⟩:=who_fail hn h2
     exact retV fun E=>by
      rw [den_c,den_v,hbf fun hm=>hm.2 j i hj hlt _ hn hmm (by rw [hci];simp [Cl.moves])]
    ·have hn:ci.point≠-1:=by simpa using h
     try rw [hw]
     refine backI ⟨3,by omega,fun t ht htn=>?_⟩ (by simp only;omega) (le_ren id rfl rfl (by simp [TmpsLe,look,SV.ren,SC.ren,SC.renL,SC.okL,idσ,SV.okN,SC.okN]) ⟨⟨show (2:Nat)<3 from by decide,rfl,rfl,fun a=>?_⟩,trivial⟩ ⟨⟨show (0:Nat)<3 from by decide,arrLe_of⟩,trivial⟩ rfl)
     ·rw [hT,List.mem_append,List.mem_singleton] at ht
      rcases ht with ht | rfl
      ·exact hgk t ht htn
      ·exact who_ok hn hgk h2
     ·show (if a=[ci.point] then some (i:Int) else put3 (whoF xs i) i (ci.moves.take 2) a)=put3 (whoF xs i) i (ci.moves.take 3) a
      rw [hT,put3_snoc,if_neg hn]
   ·simp only [go_sem,↓reduceIte,Nat.reduceLT,Nat.reduceLeDiff,Nat.reduceAdd,Nat.reduceSub,Nat.reduceMul,Nat.reduceEqDiff,reduceCtorEq,Int.reduceToNat,Int.reduceEq,Int.reduceBEq,Int.reduceBNe,Int.reduceLT,Int.reduceLE,Int.reduceNeg,Int.reduceAdd,Int.reduceSub,Int.reduceMul,Int.reduceGE,Int.reduceGT,Cl.enc,iv,endO,dr_cons]
    rw [wr_succ (by omega)]
    refine backI ⟨i+1,by omega,invB_step hgb (by rw [hci];exact fun t ht htm=>hgk t (by simpa [Cl.moves] using htm) ht)⟩ (by simp only;omega) (le_ren id rfl rfl (by simp [TmpsLe,look,SV.ren,SC.ren,SC.renL,SC.okL,idσ,SV.okN,SC.okN]) ⟨⟨show (2:Nat)<3 from by decide,rfl,rfl,fun a=>?_⟩,trivial⟩ ⟨⟨show (0:Nat)<3 from by decide,arrLe_of⟩,trivial⟩ rfl)
    show put3 (whoF xs i) i (ci.moves.take 3) a=whoF xs (i+1) a
    simp only [whoF,hci]
    rfl
   ·omega
  ·rw [decide_eq_false_iff_not] at hge
   have hin:i=xs.length:=by omega
   subst hin
   exact retV fun E=>by rw [den_c,den_v,hbt ⟨hg,hgb⟩]
end Go.Proofs.Ytkjeedlkkpgopaa.Z
namespace Go.Proofs.Ytkjeedlkkpgopaa.Z
open Go Go.RowKit
abbrev Mk:=Int×Int
def leM (a b:Mk):Bool:=decide (a.1≤b.1)
def srt:Nat→List Mk→List Mk
 | 0,l=>l
 | n+1,l=>if l.length<2 then l else List.merge (srt n (l.take (l.length / 2))) (srt n (l.drop (l.length / 2))) leM
theorem le_trans {C:Ctx} {S S' S'' : St} (h:Le C S S') (h' : Le C S' S''):Le C S S'':=fun E a w hs=>by
 obtain ⟨E',hs'⟩:=h E a w hs
 exact h' E' a w hs'
end Go.Proofs.Ytkjeedlkkpgopaa.Z
namespace Go.Proofs.Ytkjeedlkkpgopaa.Z
open Go Go.RowKit
noncomputable def mayQ (xs:List Cl):Bool:=@decide (mayP xs) (Classical.propDecidable _)
theorem mayQ_t {xs:List Cl} (h:mayP xs):mayQ xs=true:=@decide_eq_true _ (Classical.propDecidable _) h
theorem mayQ_f {xs:List Cl} (h:¬ mayP xs):mayQ xs=false:=@decide_eq_false _ (Classical.propDecidable _) h
theorem mayQ_iff {xs:List Cl}:mayQ xs=true↔mayP xs:=by
 by_cases h:mayP xs
 ·simp [h,mayQ_t h]
 ·simp [h,mayQ_f h]
theorem mayW (w:World) (v:Value) (xs:List Cl) (h:Arr w Cl.enc 9 v xs):Calls Try.prog 15 #[v] w (RetV w (.bool (mayQ xs))):=may_calls w v xs _ mayQ_t mayQ_f h
theorem ats_left {xs:List Cl} {m:Cl} {e:Nat} (he:e<xs.length):ats Cl.enc (xs++[m]) cl0 e=ats Cl.enc xs cl0 e:=by
 simp [ats,List.getD_eq_getElem?_getD,List.getElem?_append_left he]
theorem arr_tw {C:Ctx} {E:Env} {S:St} {a:Act} {w:World} (hs:Sat C.B C.W C.w0 E S a w) {xs:List Cl} {m:Cl} {ty:Nat} (i:Nat) (hi:look S.own i=some (.one (.ar (xs++[m]).length 9 (ats Cl.enc (xs++[m]) cl0) ty))):Arr w Cl.enc 9 ((SC.sl (i,0,0) 9 0 xs.length none).den E) xs :=
 arr_own hs i _ _ _ hi rfl (by simp) fun e he=>ats_left he
theorem tw_tw {C:Ctx} {E:Env} {S:St} {a:Act} {w:World} (hs:Sat C.B C.W C.w0 E S a w) {xs:List Cl} {m:Cl} {ty:Nat} (i:Nat) (hi:look S.own i=some (.one (.ar (xs++[m]).length 9 (ats Cl.enc (xs++[m]) cl0) ty))):Tw w ((SC.sl (i,0,0) 9 0 xs.length none).den E) xs m:=by
 have h:=arr_own hs i _ (xs.length+1) _ hi (ys:=xs++[m]) (by simp) (Nat.le_refl _) fun e he=>rfl
 obtain ⟨ba,cap,h1,h2⟩:=id h
 simp only [SC.den,Value.slice.injEq] at h1
 refine ⟨ba,cap,by simp only [SC.den,h1.1,h1.2.2],?_⟩
 simp only [SC.den] at h
 rw [h1.1,h1.2.2] at h
 exact h
end Go.Proofs.Ytkjeedlkkpgopaa.Z
namespace Go.Proofs.Ytkjeedlkkpgopaa.Z
open Go Go.RowKit
def ptB (c:Cl):Bool:=!(objOf c.op == 0) && !(c.point == -1)
def pks (xs:List Cl):Nat→List Int
 | 0=>[]
 | n+1=>if ptB (xs.getD n cl0)=true then pks xs n++[(n:Int)] else pks xs n
def Kp (xs:List Cl) (i:Int):Int:=(xs.getD i.toNat cl0).point
def ptsL (xs:List Cl):List Int:=(pks xs xs.length).mergeSort fun a b=>decide (Kp xs a≤Kp xs b)
def ptSorted (xs:List Cl) (l:List Int):Prop:=l.Pairwise fun a b=>Kp xs a≤Kp xs b
theorem mem_pks {xs:List Cl} {i:Int}:∀ {n:Nat},i∈pks xs n↔∃ k:Nat,k<n∧i=k∧ptB (xs.getD k cl0)=true
 | 0=>by simp [pks]
 | n+1=>by
  simp only [pks]
  split
  ·next h =>
   rw [List.mem_append,mem_pks,List.mem_singleton]
   constructor
   ·rintro (⟨k,h1,h2,h3⟩ | rfl)
    ·exact ⟨k,by omega,h2,h3⟩
    ·exact ⟨n,by omega,rfl,h⟩
   ·rintro ⟨k,h1,h2,h3⟩
    by_cases e:k=n
    ·exact Or.inr (by rw [h2,e])
    ·exact Or.inl ⟨k,by omega,h2,h3⟩
  ·next h =>
   rw [mem_pks]
   constructor
   ·rintro ⟨k,h1,h2,h3⟩
    exact ⟨k,by omega,h2,h3⟩
   ·rintro ⟨k,h1,h2,h3⟩
    by_cases e:k=n
    ·rw [e] at h3;exact absurd h3 h
    ·exact ⟨k,by omega,h2,h3⟩
theorem pks_len (xs:List Cl):∀ n,(pks xs n).length≤n
 | 0=>Nat.le_refl _
 | n+1=>by
  have:=pks_len xs n
  simp only [pks]
  split <;> simp <;> omega
theorem Kp_inj {xs:List Cl} (h:mayP xs) {i j:Int} (hi:i∈pks xs xs.length) (hj:j∈pks xs xs.length) (he:Kp xs i=Kp xs j):i=j:=by
 obtain ⟨a,ha,rfl,pa⟩:=mem_pks.1 hi
 obtain ⟨b,hb,rfl,pb⟩:=mem_pks.1 hj
 simp only [Kp,Int.toNat_natCast] at he
 simp only [ptB,Bool.and_eq_true,Bool.not_eq_true',beq_eq_false_iff_ne] at pa pb
 rcases Nat.lt_trichotomy a b with g | g | g
 ·exact absurd (by rw [he];simp [Cl.moves]) (h.2 a b g hb _ pa.2 (by simp [Cl.moves]))
 ·rw [g]
 ·exact absurd (by rw [← he];simp [Cl.moves]) (h.2 b a g ha _ pb.2 (by simp [Cl.moves]))
theorem ptsL_perm (xs:List Cl):(ptsL xs).Perm (pks xs xs.length):=List.mergeSort_perm _ _
theorem ptsL_sorted (xs:List Cl):ptSorted xs (ptsL xs):=by
 have:=List.pairwise_mergeSort (le:=fun a b=>decide (Kp xs a≤Kp xs b)) (fun a b c h1 h2=>by simp only [decide_eq_true_eq] at *;omega) (fun a b=>by simp only [Bool.or_eq_true,decide_eq_true_eq];omega) (pks xs xs.length)
 exact this.imp fun h=>by simpa using h
theorem ptsL_uniq {xs:List Cl} (h:mayP xs) {l:List Int} (hp:l.Perm (pks xs xs.length)) (hs:ptSorted xs l):l=ptsL xs :=
 List.Perm.eq_of_pairwise (le:=fun a b=>Kp xs a≤Kp xs b) (fun a b ha hb h1 h2=>Kp_inj h (hp.mem_iff.1 ha) ((ptsL_perm xs).mem_iff.1 hb) (by omega)) hs (ptsL_sorted xs) (hp.trans (ptsL_perm xs).symm)
end Go.Proofs.Ytkjeedlkkpgopaa.Z
namespace Go.Proofs.Ytkjeedlkkpgopaa.Z
open Go Go.RowKit
def ir58:IR:=(.seq (.ops [⟨(some 2),(.box 53 (.t 0)),none⟩,⟨(some 3),(.box 53 (.t 1)),none⟩,⟨(some 4),(.mv (.k (.c (.v (.bool false))))),none⟩]) (.kill [0,1,4,5,6,7,8,9,10,11] (.seq (.ops [⟨(some 5),(.fa 5 (.t 2)),none⟩,⟨(some 6),(.ld false 1 (.t 5)),none⟩,⟨(some 7),(.bin .neq (.t 6) (.k (.c (.v (.int .i64 (-1)))))),none⟩,⟨(some 8),(.mv (.t 7)),none⟩,⟨(some 9),(.fa 5 (.t 2)),(some (8,true))⟩,⟨(some 10),(.ld false 1 (.t 9)),(some (8,true))⟩,⟨(some 11),(.fa 4 (.t 3)),(some (8,true))⟩,⟨(some 12),(.ld false 1 (.t 11)),(some (8,true))⟩,⟨(some 13),(.bin .lss (.t 10) (.t 12)),(some (8,true))⟩,⟨(some 14),(.pick (.t 8) (.t 13) (.k (.c (.v (.bool false))))),none⟩,⟨(some 4),(.mv (.t 14)),none⟩]) (.kill [2,3,5,6,7,8,9,10,11,12,13,14] .ret))))
def rs58:List RS:=[(.t 4)]
def nt58:Nat:=15
def ir21:IR:=(.seq (.ops [⟨(some 2),(.mv (.k (.c (.v (.int .i64 0))))),none⟩]) (.kill [1,2,3,4,5,6,7,8,9,10,11] (.seq (.ops [⟨(some 3),(.mv (.t 0)),none⟩,⟨(some 2),(.mv (.t 3)),none⟩]) (.kill [0,3] .ret))))
def rs21:List RS:=[(.t 2)]
def nt21:Nat:=4
def aheadB (a b:Cl):Bool:=if (a.fin != -1)=true then decide (a.fin<b.beg) else false
def clA (c:Cl):SV:=.agg [.v (.int .i64 c.thread),.v (.int .i64 c.op),.v (.int .i64 c.arg),.v (.int .i64 c.data),.v (.int .i64 c.beg),.v (.int .i64 c.fin),.v (.int .i64 c.point),.v (.int .i64 c.kind),.v (.int .i64 c.val)]
def iA (n:Int):SV:=.c (.v (.int .i64 n))
set_option maxRecDepth 100000 in
set_option maxHeartbeats 400000 in
theorem ahead_calls (w:World) (a b:Cl):Calls Try.prog 58 #[.agg a.enc.toArray,.agg b.enc.toArray] w (RetV w (.bool (aheadB a b))):=by
 refine enter0 (A:=[]) (c:=ir58) (rs:=rs58) (nt:=nt58) [clA a,clA b] _ Try.func58 rfl (by kernel_rfl) (by kernel_rfl) rfl (fun E'=>by simp [clA,SV.den,SC.den,Cl.enc,iv]) (of_decide_eq_true rfl) ?_
 simp only [ir58,nt58,rs58,go_sem,↓reduceIte,Nat.reduceLT,Nat.reduceLeDiff,Nat.reduceAdd,Nat.reduceSub,Nat.reduceMul,Nat.reduceEqDiff,reduceCtorEq,Int.reduceToNat,Int.reduceEq,Int.reduceBEq,Int.reduceBNe,Int.reduceLT,Int.reduceLE,Int.reduceNeg,Int.reduceAdd,Int.reduceSub,Int.reduceMul,Int.reduceGE,Int.reduceGT,Cl.enc,iv,endO,dr_cons,clA]
 exact retV fun E=>by rw [den_c,den_b,aheadB]
set_option maxRecDepth 100000 in
set_option maxHeartbeats 400000 in
theorem num_calls (w:World) (n:Int):Calls Try.prog 21 #[.int .i64 n] w (RetV w (.int .i64 n)):=by
 refine enter0 (A:=[]) (c:=ir21) (rs:=rs21) (nt:=nt21) [iA n] _ Try.func21 rfl (by kernel_rfl) (by kernel_rfl) rfl (fun E'=>by simp [iA,SV.den,SC.den]) (of_decide_eq_true rfl) ?_
 simp only [ir21,nt21,rs21,go_sem,↓reduceIte,Nat.reduceLT,Nat.reduceLeDiff,Nat.reduceAdd,Nat.reduceSub,Nat.reduceMul,Nat.reduceEqDiff,reduceCtorEq,Int.reduceToNat,Int.reduceEq,Int.reduceBEq,Int.reduceBNe,Int.reduceLT,Int.reduceLE,Int.reduceNeg,Int.reduceAdd,Int.reduceSub,Int.reduceMul,Int.reduceGE,Int.reduceGT,Cl.enc,iv,endO,dr_cons,iA]
 exact retV fun E=>by rw [den_c,den_v]
end Go.Proofs.Ytkjeedlkkpgopaa.Z
namespace Go.Proofs.Ytkjeedlkkpgopaa.Z
open Go Go.RowKit
def cnt (p:Nat→Bool):Nat→Nat
 | 0=>0
 | k+1=>cnt p k+(if p k=true then 1 else 0)
end Go.Proofs.Ytkjeedlkkpgopaa.Z
namespace Go.Proofs.Ytkjeedlkkpgopaa.Z
open Go Go.RowKit
def ir23:IR:=(.seq (.ops [⟨(some 4),(.mv (.k (.c (.v (.bool false))))),none⟩]) (.kill [2,3,4,5,6,7,8,9,10,11] (.seq (.seq (.ops [⟨(some 6),(.mv (.t 0)),none⟩,⟨(some 7),(.len (.t 6)),none⟩,⟨(some 8),(.mv (.t 1)),none⟩,⟨(some 9),(.len (.t 8)),none⟩,⟨(some 10),(.bin .neq (.t 7) (.t 9)),none⟩]) (.kill [6,7,8,9] (.cond (.t 10) (.seq (.ops [⟨(some 4),(.mv (.k (.c (.v (.bool false))))),none⟩]) (.kill [0,1,10] .ret)) .skip))) (.kill [4,10] (.seq (.seq (.ops [⟨(some 5),(.mv (.k (.c (.v (.int .i64 0))))),none⟩]) (.blk 0 (.loop (.seq (.seq (.ops [⟨(some 11),(.mv (.t 5)),none⟩,⟨(some 12),(.mv (.t 0)),none⟩,⟨(some 13),(.len (.t 12)),none⟩,⟨(some 14),(.bin .lss (.t 11) (.t 13)),none⟩]) (.kill [4,11,12,13,15,16,17,18,19,20,21,22,23,24,25] (.cond (.t 14) .skip (.exit 0)))) (.kill [14] (.seq (.blk 1 (.seq (.draw [(⟨(some 17),(.mv (.t 0)),none⟩,([],[18,21,22,23,24])),(⟨(some 18),(.mv (.t 5)),none⟩,([0],[17,21,22,23,24])),(⟨(some 19),(.ia 1 (.t 17) (.t 18)),none⟩,([],[21,22,23,24])),(⟨(some 20),(.ld false 1 (.t 19)),none⟩,([],[21,22,23,24])),(⟨(some 21),(.mv (.t 1)),none⟩,([0,1,2,3],[17,18,19,20,22])),(⟨(some 22),(.mv (.t 5)),none⟩,([0,1,2,3,4],[17,18,19,20,21])),(⟨(some 23),(.ia 1 (.t 21) (.t 22)),none⟩,([0,1,2,3],[17,18,19,20])),(⟨(some 24),(.ld false 1 (.t 23)),none⟩,([0,1,2,3],[17,18,19,20])),(⟨(some 25),(.bin .neq (.t 20) (.t 24)),none⟩,([],[]))]) (.kill [17,18,19,20,21,22,23,24] (.cond (.t 25) (.seq (.ops [⟨(some 4),(.mv (.k (.c (.v (.bool false))))),none⟩]) (.kill [0,1,5,25] .ret)) .skip)))) (.kill [4,17,18,19,20,21,22,23,24,25] (.ops [⟨(some 15),(.mv (.t 5)),none⟩,⟨(some 16),(.bin .add (.t 15) (.k (.c (.v (.int .i64 1))))),none⟩,⟨(some 5),(.mv (.t 16)),none⟩])))))))) (.kill [0,1,4,5,11,12,13,14,15,16,17,18,19,20,21,22,23,24,25] (.seq (.ops [⟨(some 4),(.mv (.k (.c (.v (.bool true))))),none⟩]) .ret)))))))
def rs23:List RS:=[(.t 4)]
def nt23:Nat:=26
set_option maxRecDepth 100000 in
set_option maxHeartbeats 400000 in
theorem same_calls (w:World) (v v' : Value) (xs ys:List Int) (h:Arr w eI 1 v xs) (h' : Arr w eI 1 v' ys):Calls Try.prog 23 #[v,v'] w (RetV w (.bool (decide (xs=ys)))):=by
 have hlen:=Z.Arr.lenM h
 simp only [maxLen] at hlen
 refine enter2 (A:=[]) (c:=ir23) (rs:=rs23) (nt:=nt23) 0 eI_ok h 0 eI_ok h' [.c (.xv (0,0,0)),.c (.xv (1,0,0))] _ Try.func23 rfl (by kernel_rfl) (by kernel_rfl) rfl (fun E' h0 h1=>by simp [SV.den,SC.den,h0,h1]) (of_decide_eq_true rfl) ?_
 simp only [ir23,nt23,rs23,go_sem,↓reduceIte,Nat.reduceLT,Nat.reduceLeDiff,Nat.reduceAdd,Nat.reduceSub,Nat.reduceMul,Nat.reduceEqDiff,reduceCtorEq,Int.reduceToNat,Int.reduceEq,Int.reduceBEq,Int.reduceBNe,Int.reduceLT,Int.reduceLE,Int.reduceNeg,Int.reduceAdd,Int.reduceSub,Int.reduceMul,Int.reduceGE,Int.reduceGT,Cl.enc,iv,endO,dr_cons]
 refine both (fun hne=>?_) (fun heq=>?_)
 ·refine retV fun E=>?_
  rw [den_c,den_v,Value.bool.injEq,eq_comm,decide_eq_false_iff_not]
  rintro rfl
  simp at hne
 ·have hl:xs.length=ys.length:=by
   have:=heq
   simp only [b_decR,b_decL,bt_ite,bf_ite,bt_dec,bf_dec,bt_int,bf_int,bt_nint,bf_nint,bt_bool,bf_bool,bt_nbool,bf_nbool,bt_not,bf_not,bt_and,bf_and,bt_or,bf_or,Bool.false_eq_true,Bool.true_eq_false,Bool.not_eq_true,Bool.not_eq_false,reduceCtorEq,false_iff,true_iff,iff_false,iff_true,and_true,true_and,and_false,false_and,or_true,true_or,or_false,false_or,not_true_eq_false,not_false_eq_true,ne_eq] at this
   omega
  refine loopI (ι:={ i:Nat // i≤xs.length∧∀ k,k<i→xs.getD k 0=ys.getD k 0 }) (fun i=>⟨26,[(0,.c (.xv (0,0,0))),(1,.c (.xv (1,0,0))),(5,.c (.v (.int .i64 (i.1:Nat))))],[],[(0,.one (arrOf eI 1 xs 0)),(1,.one (arrOf eI 1 ys 0))],[],2⟩)
   (fun i=>xs.length - i.1) ⟨0,by omega,fun k hk=>by omega⟩ (le_tmps (by simp [TmpsSub,look])) ?_
  rintro ⟨i,hi,hg⟩
  simp only [go_sem,↓reduceIte,Nat.reduceLT,Nat.reduceLeDiff,Nat.reduceAdd,Nat.reduceSub,Nat.reduceMul,Nat.reduceEqDiff,reduceCtorEq,Int.reduceToNat,Int.reduceEq,Int.reduceBEq,Int.reduceBNe,Int.reduceLT,Int.reduceLE,Int.reduceNeg,Int.reduceAdd,Int.reduceSub,Int.reduceMul,Int.reduceGE,Int.reduceGT,Cl.enc,iv,endO,dr_cons,eI]
  refine both (fun hlt=>?_) (fun hge=>?_)
  ·rw [decide_eq_true_eq] at hlt
   refine draw_vc (by kernel_rfl) (mkTab_ok _ _) (of_decide_eq_true rfl) (of_decide_eq_true rfl) ?_
   simp only [go_sem,↓reduceIte,Nat.reduceLT,Nat.reduceLeDiff,Nat.reduceAdd,Nat.reduceSub,Nat.reduceMul,Nat.reduceEqDiff,reduceCtorEq,Int.reduceToNat,Int.reduceEq,Int.reduceBEq,Int.reduceBNe,Int.reduceLT,Int.reduceLE,Int.reduceNeg,Int.reduceAdd,Int.reduceSub,Int.reduceMul,Int.reduceGE,Int.reduceGT,Cl.enc,iv,endO,dr_cons,eI]
   have hy:i<ys.length:=by omega
   refine ⟨hlt,hlt,hy,hy,fun hne=>?_,fun heq=>?_⟩
   ·refine retV fun E=>?_
    rw [den_c,den_v,Value.bool.injEq,eq_comm,decide_eq_false_iff_not]
    rintro rfl
    simp at hne
   ·rw [wr_succ (by omega)]
    refine backI ⟨i+1,by omega,fun k hk=>?_⟩ (by simp only;omega) (le_tmps (by simp [TmpsSub,look]))
    by_cases e:k=i
    ·subst e
     simpa using heq
    ·exact hg k (by omega)
  ·rw [decide_eq_false_iff_not] at hge
   have:xs=ys:=by
    refine List.ext_getElem hl fun k hk hk'=>?_
    have:=hg k (by omega)
    simpa [List.getD_eq_getElem?_getD,List.getElem?_eq_getElem hk,List.getElem?_eq_getElem hk'] using this
   exact retV fun E=>by simp [SV.den,SC.den,this]
end Go.Proofs.Ytkjeedlkkpgopaa.Z
namespace Go.Proofs
open Go.Shelf Go.RowKit Go.Lib Go.Sort
def Ytkjeedlkkpgopaa.sortPts_ren:Go.Shelf.Ren:=⟨fun | 6=>43 | 15=>61 | 14=>60 | 28=>81 | 29=>82 | 20=>73 | 21=>74 | 22=>75 | 23=>76 | 24=>77 | 25=>78 | 26=>79 | 27=>80 | 46=>91 | 47=>92 | 48=>93 | 49=>94 | 50=>95 | 57=>101 | n=>n,fun | 22=>33 | 24=>3 | 25=>67 | 3=>3 | 39=>95 | 0=>0 | 53=>119 | 55=>121 | 4=>4 | 46=>113 | 45=>112 | 50=>62 | 5=>5 | 9=>9 | 66=>132 | 70=>136 | 76=>152 | 77=>42 | n=>n,fun | n=>n⟩
theorem Ytkjeedlkkpgopaa.sortPts:Go.Proofs.SlLaysF.n6 Try.prog Ytkjeedlkkpgopaa.sortPts_ren where
 mixed:=by kernel_rfl
 f6:=⟨"slices.SortFunc[[]int,int]",by decide,Try.func43.trans (congrArg some (by kernel_rfl))⟩
 f14:=⟨"slices.pdqsortCmpFunc[int]",by decide,Try.func60.trans (congrArg some (by kernel_rfl))⟩
 f15:=Try.func61.trans (congrArg some (by kernel_rfl))
 f20:=⟨"slices.insertionSortCmpFunc[int]",by decide,Try.func73.trans (congrArg some (by kernel_rfl))⟩
 f21:=⟨"slices.heapSortCmpFunc[int]",by decide,Try.func74.trans (congrArg some (by kernel_rfl))⟩
 f22:=⟨"slices.breakPatternsCmpFunc[int]",by decide,Try.func75.trans (congrArg some (by kernel_rfl))⟩
 f23:=⟨"slices.choosePivotCmpFunc[int]",by decide,Try.func76.trans (congrArg some (by kernel_rfl))⟩
 f24:=⟨"slices.reverseRangeCmpFunc[int]",by decide,Try.func77.trans (congrArg some (by kernel_rfl))⟩
 f25:=⟨"slices.partialInsertionSortCmpFunc[int]",by decide,Try.func78.trans (congrArg some (by kernel_rfl))⟩
 f26:=⟨"slices.partitionEqualCmpFunc[int]",by decide,Try.func79.trans (congrArg some (by kernel_rfl))⟩
 f27:=⟨"slices.partitionCmpFunc[int]",by decide,Try.func80.trans (congrArg some (by kernel_rfl))⟩
 f28:=Try.func81.trans (congrArg some (by kernel_rfl))
 f29:=Try.func82.trans (congrArg some (by kernel_rfl))
 f46:=⟨"slices.siftDownCmpFunc[int]",by decide,Try.func91.trans (congrArg some (by kernel_rfl))⟩
 f47:=Try.func92.trans (congrArg some (by kernel_rfl))
 f48:=Try.func93.trans (congrArg some (by kernel_rfl))
 f49:=⟨"slices.medianAdjacentCmpFunc[int]",by decide,Try.func94.trans (congrArg some (by kernel_rfl))⟩
 f50:=⟨"slices.medianCmpFunc[int]",by decide,Try.func95.trans (congrArg some (by kernel_rfl))⟩
 f57:=⟨"slices.order2CmpFunc[int]",by decide,Try.func101.trans (congrArg some (by kernel_rfl))⟩
 t0:=Try.underlying0
 a0:=Try.isAgg0
 z0:=Try.sizeOf0
 v0:=Try.zeroValue0
 t3:=Try.underlying3
 a3:=Try.isAgg3
 z3:=Try.sizeOf3
 v3:=Try.zeroValue3
 t4:=Try.underlying4
 a4:=Try.isAgg4
 z4:=Try.sizeOf4
 v4:=Try.zeroValue4
 t5:=Try.underlying5
 a5:=Try.isAgg5
 z5:=Try.sizeOf5
 v5:=Try.zeroValue5
 t9:=Try.underlying9
 a9:=Try.isAgg9
 z9:=Try.sizeOf9
 v9:=Try.zeroValue9
 t22:=Try.underlying33
 a22:=Try.isAgg33
 z22:=Try.sizeOf33
 v22:=Try.zeroValue33
 a24:=Try.isAgg3
 z24:=Try.sizeOf3
 t25:=Try.underlying67
 a25:=Try.isAgg67
 z25:=Try.sizeOf67
 v25:=Try.zeroValue67
 t39:=Try.underlying95
 a39:=Try.isAgg95
 z39:=Try.sizeOf95
 v39:=Try.zeroValue95
 t45:=Try.underlying112
 a45:=Try.isAgg112
 z45:=Try.sizeOf112
 v45:=Try.zeroValue112
 t46:=Try.underlying113
 a46:=Try.isAgg113
 z46:=Try.sizeOf113
 v46:=Try.zeroValue113
 t50:=Try.underlying62
 a50:=Try.isAgg62
 z50:=Try.sizeOf62
 v50:=Try.zeroValue62
 t53:=Try.underlying119
 a53:=Try.isAgg119
 z53:=Try.sizeOf119
 v53:=Try.zeroValue119
 t55:=Try.underlying121
 a55:=Try.isAgg121
 z55:=Try.sizeOf121
 v55:=Try.zeroValue121
 t66:=Try.underlying132
 a66:=Try.isAgg132
 z66:=Try.sizeOf132
 v66:=Try.zeroValue132
 t70:=Try.underlying136
 a70:=Try.isAgg136
 z70:=Try.sizeOf136
 v70:=Try.zeroValue136
 t76:=Try.underlying152
 a76:=Try.isAgg152
 z76:=Try.sizeOf152
 v76:=Try.zeroValue152
 t77:=Try.underlying42
 a77:=Try.isAgg42
 z77:=Try.sizeOf42
 v77:=Try.zeroValue42
namespace Ytkjeedlkkpgopaa.Z
open Go Go.RowKit
set_option maxHeartbeats 400000 in
theorem closure0 (W:World) (b blk off n cap:Nat) (i j:Int) (p q:Int) (h0:W.cell? ⟨b,0,none⟩=some (.slice (some ⟨blk,off,none⟩) n cap)) (hi:0≤i∧i<n) (hj:0≤j∧j<n)
  (h1:W.cell? ⟨blk,off+i.toNat * 9+6,none⟩=some (.int .i64 p)) (h2:W.cell? ⟨blk,off+j.toNat * 9+6,none⟩=some (.int .i64 q)) :
  Calls Try.prog 44 #[.int .i64 i,.int .i64 j,.pointer (some ⟨b,0,none⟩)] W fun e w'=>e = .returned (.int .i64 (IntKind.i64.wrap (p - q)))∧∃ q os,w' = Go.Sort.grow (W.drewN q) os:=by
 go_enter Try.func44,Try.ntmps44
 go_wp2
 go_region_held3 (fun w'=>w'.cell? ⟨b,0,none⟩=some (.slice (some ⟨blk,off,none⟩) n cap)∧w'.cell? ⟨blk,off+i.toNat * 9+6,none⟩=some (.int .i64 p)∧w'.cell? ⟨blk,off+j.toNat * 9+6,none⟩=some (.int .i64 q))
  (first | (exact ⟨h0,h1,h2⟩))
  (fail)
 all_goals go_wp2
 all_goals go_ret
 exact ⟨rfl,1,#[],(Go.Sort.grow_empty _).symm⟩
end Ytkjeedlkkpgopaa.Z
end Go.Proofs
