/- WitnessFreshSaid: what its proof is made of. No condition. -/
import Derived.Test.YtkjeedlkkpgopaaPkWitnessFreshAP
set_option linter.unusedSimpArgs false
set_option linter.unusedVariables false
namespace Go.Proofs.Ytkjeedlkkpgopaa.Z
open Go Go.RowKit
def fW (l:List Int) (V:Int) (c e:Nat):List SC:=[.v (.int .i64 (if e<c then V else l.getD e 0))]
def bA (l:List Int) (V:Int) (c:Nat):Blk:=.ar l.length 1 (fW l V c) 3
def kA (l:List Int) (V:Int) (y L:Nat):Blk:=.pr (KeepP (y,0,0) (12,0,0) l.length 1 (fW l V l.length) 3 L)
theorem fW_v {p:Nat→Prop} {σ:Nm→Nm} (l:List Int) (V:Int) (c e:Nat):fW l V c e=SC.renL σ (fW l V c e)∧SC.okL p (fW l V c e):=⟨by simp [fW,SC.renL,SC.ren],by simp [fW,SC.okL,SC.okN]⟩
theorem bA_le {p:Nat→Prop} {σ:Nm→Nm} {l:List Int} {V:Int} {c:Nat} {f:Nat→List SC} (h:∀ e,e<l.length→f e=fW l V c e):BlkLe p σ (.ar l.length 1 f 3) (bA l V c):=⟨Nat.le_refl _,rfl,rfl,fun e he=>by rw [h e he];exact fW_v l V c e⟩
theorem fW_0 {l:List Int} {V:Int} {e:Nat}:ats eI l 0 e=fW l V 0 e:=by simp [ats,eI,fW]
theorem fW_set {l:List Int} {V:Int} {j e:Nat}:setAt j (fW l V j) (SC.v (.int .i64 V) :: drop' 1 (fW l V j j)) e=fW l V (j+1) e:=by
 unfold setAt
 split
 ·next h=>subst h;simp [fW,drop']
 ·next h =>
  simp only [fW]
  rcases Nat.lt_or_ge e j with h2 | h2
  ·rw [if_pos h2,if_pos (by omega)]
  ·rw [if_neg (by omega),if_neg (by omega)]
def wR (xs:List Cl) (A Q:List Int):Own:=[(2,.one (.ar (xs++[mark]).length 9 (ats Cl.enc (xs++[mark]) cl0) 53)),(8,.one (.ar A.length 1 (ats eI A 0) 3)),(10,.one (.ar Q.length 1 (ats eI Q 0) 3)),
 (11,.one (.ar 4 1 (segs 1 [SC.sl (3,0,0) 1 0 A.length none,SC.sl (4,0,0) 1 0 A.length none,SC.sl (5,0,0) 1 0 Q.length none,SC.sl (6,0,0) 1 0 Q.length none]) 33))]
def wO (xs:List Cl) (A Q:List Int) (b3 b4 b5 b6:Blk):Own:=(3,.one b3) :: (4,.one b4) :: (5,.one b5) :: (6,.one b6) :: wR xs A Q
def wL (Q:List Int) (own:Own) (A:List Int) (xs:List Cl):Prop:=look own 2=look (wR xs A Q) 2∧look own 11=look (wR xs A Q) 11∧(∃ f,look own 8=some (.one (.ar A.length 1 f 3))∧∀ e,e<A.length→f e=ats eI A 0 e)∧∃ f,look own 10=some (.one (.ar Q.length 1 f 3))∧∀ e,e<Q.length→f e=ats eI Q 0 e
theorem wO_le {p:Nat→Prop} {τ:Nat→Nat} {own:Own} {xs:List Cl} {A Q:List Int} {b3 b4 b5 b6 g3 g4 g5 g6:Blk} (hp:∀ i,i<12→p i) (hτ:∀ i,i<12→τ i=i) (h3:look own 3=some (.one g3)) (h4:look own 4=some (.one g4)) (h5:look own 5=some (.one g5)) (h6:look own 6=some (.one g6))
  (e3:BlkLe p (idσ τ) g3 b3) (e4:BlkLe p (idσ τ) g4 b4) (e5:BlkLe p (idσ τ) g5 b5) (e6:BlkLe p (idσ τ) g6 b6) (hR:wL Q own A xs):OwnLe p (idσ τ) own (wO xs A Q b3 b4 b5 b6):=by
 obtain ⟨r2,r11,⟨f8,r8,q8⟩,f10,r10,q10⟩:=hR
 have q:∀ i,i<12→p i∧τ i=i:=fun i hi=>⟨hp i hi,hτ i hi⟩
 have a2:=q 2 (by decide);have a3:=q 3 (by decide);have a4:=q 4 (by decide);have a5:=q 5 (by decide);have a6:=q 6 (by decide);have a8:=q 8 (by decide);have a10:=q 10 (by decide);have a11:=q 11 (by decide)
 simp only [wR,look,Nat.reduceEqDiff,reduceIte] at r2 r11
 refine ⟨⟨a3.1,?_⟩,⟨a4.1,?_⟩,⟨a5.1,?_⟩,⟨a6.1,?_⟩,⟨a2.1,?_⟩,⟨a8.1,?_⟩,⟨a10.1,?_⟩,⟨a11.1,?_⟩,trivial⟩
 ·simp only [idσ,a3.2,atN,h3,Fm.get,and_self,if_true];exact e3
 ·simp only [idσ,a4.2,atN,h4,Fm.get,and_self,if_true];exact e4
 ·simp only [idσ,a5.2,atN,h5,Fm.get,and_self,if_true];exact e5
 ·simp only [idσ,a6.2,atN,h6,Fm.get,and_self,if_true];exact e6
 ·simp only [idσ,a2.2,atN,r2,Fm.get,and_self,if_true];exact ⟨Nat.le_refl _,rfl,rfl,fun e _=>⟨ren_ats.symm,ok_ats⟩⟩
 ·simp only [idσ,a8.2,atN,r8,Fm.get,and_self,if_true];exact ⟨Nat.le_refl _,rfl,rfl,fun e he=>by rw [q8 e he];exact ⟨ren_ats.symm,ok_ats⟩⟩
 ·simp only [idσ,a10.2,atN,r10,Fm.get,and_self,if_true];exact ⟨Nat.le_refl _,rfl,rfl,fun e he=>by rw [q10 e he];exact ⟨ren_ats.symm,ok_ats⟩⟩
 ·simp only [idσ,a11.2,atN,r11,Fm.get,and_self,if_true]
  refine ⟨Nat.le_refl _,rfl,rfl,fun e he=>?_⟩
  have:e=0∨e=1∨e=2∨e=3:=by omega
  rcases this with rfl | rfl | rfl | rfl <;> simp [segs,take',drop',SC.renL,SC.ren,SC.okL,SC.okN,idσ,a3,a4,a5,a6]
def wT (xs:List Cl) (A Q:List Int) (fe pe:Int):List (Nat×SV):=[(0,.c (.xv (0,0,0))),(1,.c (.xv (1,0,0))),(5,.c (.sl (2,0,0) 9 0 xs.length none)),(7,.c (.v (.int .i64 fe))),(11,.c (.v (.int .i64 pe))),(14,.c (.sl (8,0,0) 1 0 A.length none)),(15,.c (.sl (10,0,0) 1 0 Q.length none)),(16,.c (.sl (11,0,0) 1 0 4 none))]
theorem arrs2_le {p:Nat→Prop} {τ:Nat→Nat} {xs os:List Cl} {arrs:List (Nat×Fm ArrF)} (hp:∀ i,i<12→p i) (h0:τ 0=0) (h1:τ 1=1) (l0:look arrs 0=some (.one (arrOf Cl.enc 9 xs cl0))) (l1:look arrs 1=some (.one (arrOf Cl.enc 9 os cl0))):ArrsLe p (idσ τ) arrs [(0,.one (arrOf Cl.enc 9 xs cl0)),(1,.one (arrOf Cl.enc 9 os cl0))]:=by
 have p0:=hp 0 (by decide);have p1:=hp 1 (by decide)
 refine ⟨⟨p0,?_⟩,⟨p1,?_⟩,trivial⟩
 ·simp only [idσ,h0,atN,l0,Fm.get,and_self,if_true];exact ⟨rfl,rfl,fun e _=>⟨ren_ats.symm,ok_ats⟩,Nat.le_refl _⟩
 ·simp only [idσ,h1,atN,l1,Fm.get,and_self,if_true];exact ⟨rfl,rfl,fun e _=>⟨ren_ats.symm,ok_ats⟩,Nat.le_refl _⟩
theorem srch_deep {σ:Type} (h:Hist σ) {cand:List Nat} (nx:List Nat→Nat→Bool):∀ (f:Nat) (o:List Nat) (s:σ),∀ x∈h.srch cand nx f o s,x.length+1≤o.length+f
 | 0,o,s,x,hx=>by cases hx
 | f+1,o,s,x,hx=>by
  simp only [Hist.srch,List.mem_append,List.mem_flatMap] at hx
  rcases hx with hx | ⟨i,_,hx⟩
  ·split at hx
   ·rw [List.mem_singleton] at hx;subst hx;omega
   ·cases hx
  ·split at hx
   ·have:=srch_deep h nx f _ _ x hx
    simp only [List.length_append,List.length_singleton] at this
    omega
   ·cases hx
theorem findL_8 (xs:List Cl):(findL xs).length≤8:=by
 unfold findL
 split
 ·cases e:(allY xs).head? with
  | none=>simp
  | some x =>
   have h1:x∈allY xs:=List.mem_of_head? e
   have h2:=srch_deep _ _ _ _ _ x h1
   simp only [nmL,oI_len,List.length_map,List.length_nil] at h2 ⊢
   omega
 ·simp
theorem ptsV_len (xs:List Cl):(ptsV xs).length≤xs.length:=by
 unfold ptsV
 split
 ·rw [ptsL,List.length_mergeSort];exact pks_len xs _
 ·exact Nat.zero_le _
def mxC (xs os:List Cl) (j e:Nat):Cl:=if e<j then os.getD e cl0 else (xs++[mark]).getD e cl0
def mxA (xs os:List Cl) (j e:Nat):List SC:=(mxC xs os j e).enc.map SC.v
theorem mxA_0 {xs os:List Cl} {e:Nat}:ats Cl.enc (xs++[mark]) cl0 e=mxA xs os 0 e:=by simp [ats,mxA,mxC]
theorem mxA_set {xs os:List Cl} {j e:Nat}:setAt j (mxA xs os j) (SC.v (Value.int IntKind.i64 (os.getD j cl0).thread) :: SC.v (Value.int IntKind.i64 (os.getD j cl0).op) :: SC.v (Value.int IntKind.i64 (os.getD j cl0).arg) :: SC.v (Value.int IntKind.i64 (os.getD j cl0).data) :: SC.v (Value.int IntKind.i64 (os.getD j cl0).beg) ::
  SC.v (Value.int IntKind.i64 (os.getD j cl0).fin) :: SC.v (Value.int IntKind.i64 (os.getD j cl0).point) :: SC.v (Value.int IntKind.i64 (os.getD j cl0).kind) :: SC.v (Value.int IntKind.i64 (os.getD j cl0).val) :: drop' 9 (mxA xs os j j)) e=mxA xs os (j+1) e:=by
 unfold setAt
 split
 ·next h =>
  subst h
  simp only [mxA,mxC,Nat.lt_succ_self,Nat.lt_irrefl,if_true,if_false]
  rfl
 ·next h =>
  simp only [mxA,mxC]
  rcases Nat.lt_or_ge e j with h2 | h2
  ·rw [if_pos h2,if_pos (by omega)]
  ·rw [if_neg (by omega),if_neg (by omega)]
theorem mx_ats {xs os:List Cl} {j e:Nat} (h1:j≤xs.length) (h2:j≤os.length) (he:e<(os.take j++xs.drop j).length):mxA xs os j e=ats Cl.enc (os.take j++xs.drop j) cl0 e:=by
 have hl:(os.take j).length=j:=by simp;omega
 have he' : e<xs.length:=by simp at he;omega
 unfold mxA ats mxC
 rw [List.getD_eq_getElem?_getD (l:=os.take j++xs.drop j)]
 split
 ·next h=>rw [List.getElem?_append_left (by omega),List.getElem?_take,if_pos h,← List.getD_eq_getElem?_getD]
 ·next h=>rw [List.getElem?_append_right (by omega),hl,List.getElem?_drop,show j+(e - j)=e by omega,List.getD_eq_getElem?_getD,List.getElem?_append_left he']
theorem mx_le {p:Nat→Prop} {τ:Nat→Nat} {own:Own} {xs os:List Cl} {j:Nat} {f:Nat→List SC} (h:look own 2=some (.one (.ar (xs++[mark]).length 9 f 53))) (he:∀ e,e<(xs++[mark]).length→f e=mxA xs os j e) (p2:p 2:=by decide) (t2:τ 2=2:=by rfl):OwnLe p (idσ τ) own [(2,.one (.ar (xs++[mark]).length 9 (mxA xs os j) 53))]:=by
 refine ⟨⟨p2,?_⟩,trivial⟩
 simp only [idσ,t2,atN,h,Fm.get,and_self,if_true]
 exact ⟨Nat.le_refl _,rfl,rfl,fun e h=>by rw [he e h];exact ⟨(renL_v _ _).symm,okL_v _ _⟩⟩
theorem arrs2_le' {τ:Nat→Nat} {xs os:List Cl} {arrs:List (Nat×Fm ArrF)} (h0:τ 0=0) (h1:τ 1=1) (l0:look arrs 0=some (.one (arrOf Cl.enc 9 xs cl0))) (l1:look arrs 1=some (.one (arrOf Cl.enc 9 os cl0))):ArrsLe (· < 3) (idσ τ) arrs [(0,.one (arrOf Cl.enc 9 xs cl0)),(1,.one (arrOf Cl.enc 9 os cl0))]:=by
 refine ⟨⟨show 0<3 by decide,?_⟩,⟨show 1<3 by decide,?_⟩,trivial⟩
 ·simp only [idσ,h0,atN,l0,Fm.get,and_self,if_true];exact ⟨rfl,rfl,fun e _=>⟨ren_ats.symm,ok_ats⟩,Nat.le_refl _⟩
 ·simp only [idσ,h1,atN,l1,Fm.get,and_self,if_true];exact ⟨rfl,rfl,fun e _=>⟨ren_ats.symm,ok_ats⟩,Nat.le_refl _⟩
theorem fit_sm2 {n:Nat} (h:n≤17592186044416):(n+n / 4+192) * 8≤281474976710656:=by
 have h4:n / 4 * 4≤n:=Nat.div_mul_le_self _ _
 generalize n / 4=q at *
 omega
def ir13:IR:=(.seq (.ops [⟨(some 4),(.mv (.k (.c (.v (.bool false))))),none⟩]) (.kill [2,3,4,5,6,7,8,9,10,11] (.seq (.seq (.ops [⟨(some 33),(.call 30 []),none⟩,⟨(some 34),(.un .not (.t 33)),none⟩]) (.kill [33] (.cond (.t 34) (.seq (.ops [⟨(some 4),(.mv (.k (.c (.v (.bool false))))),none⟩]) (.kill [0,1,34] .ret)) .skip))) (.kill [4,34] (.seq (.ops [⟨(some 35),(.mv (.t 0)),none⟩,⟨(some 36),(.call 14 [(.t 35)]),none⟩,⟨(some 5),(.mv (.t 36)),none⟩]) (.kill [35,36] (.seq (.ops [⟨(some 38),(.mv (.t 5)),none⟩,⟨(some 39),(.call 26 [(.t 38)]),none⟩,⟨(some 37),(.mv (.t 39)),none⟩,⟨(some 40),(.ext 0 (.t 37)),none⟩,⟨(some 41),(.ext 1 (.t 37)),none⟩,⟨(some 6),(.mv (.t 40)),none⟩,⟨(some 7),(.mv (.t 41)),none⟩]) (.kill [37,38,39,40,41] (.seq (.ops [⟨(some 43),(.mv (.t 5)),none⟩,⟨(some 44),(.call 26 [(.t 43)]),none⟩,⟨(some 42),(.mv (.t 44)),none⟩,⟨(some 45),(.ext 0 (.t 42)),none⟩,⟨(some 46),(.ext 1 (.t 42)),none⟩,⟨(some 8),(.mv (.t 45)),none⟩,⟨(some 9),(.mv (.t 46)),none⟩]) (.kill [42,43,44,45,46] (.seq (.ops [⟨(some 48),(.mv (.t 5)),none⟩,⟨(some 49),(.call 22 [(.t 48)]),none⟩,⟨(some 47),(.mv (.t 49)),none⟩,⟨(some 50),(.ext 0 (.t 47)),none⟩,⟨(some 51),(.ext 1 (.t 47)),none⟩,⟨(some 10),(.mv (.t 50)),none⟩,⟨(some 11),(.mv (.t 51)),none⟩]) (.kill [47,48,49,50,51] (.seq (.ops [⟨(some 53),(.mv (.t 5)),none⟩,⟨(some 54),(.call 22 [(.t 53)]),none⟩,⟨(some 52),(.mv (.t 54)),none⟩,⟨(some 55),(.ext 0 (.t 52)),none⟩,⟨(some 56),(.ext 1 (.t 52)),none⟩,⟨(some 12),(.mv (.t 55)),none⟩,⟨(some 13),(.mv (.t 56)),none⟩]) (.kill [52,53,54,55,56] (.seq (.seq (.ops [⟨(some 57),(.mv (.t 7)),none⟩,⟨(some 58),(.mv (.t 9)),none⟩,⟨(some 59),(.bin .neq (.t 57) (.t 58)),none⟩,⟨(some 60),(.mv (.t 59)),none⟩,⟨(some 61),(.mv (.t 11)),(some (60,false))⟩,⟨(some 62),(.mv (.t 13)),(some (60,false))⟩,⟨(some 63),(.bin .neq (.t 61) (.t 62)),(some (60,false))⟩,⟨(some 64),(.pick (.t 60) (.k (.c (.v (.bool true)))) (.t 63)),none⟩,⟨(some 65),(.mv (.t 64)),none⟩,⟨(some 66),(.mv (.t 6)),(some (65,false))⟩,⟨(some 67),(.mv (.t 8)),(some (65,false))⟩,⟨(some 68),(.call 23 [(.t 66),(.t 67)]),(some (65,false))⟩,⟨(some 69),(.un .not (.t 68)),(some (65,false))⟩,⟨(some 70),(.pick (.t 65) (.k (.c (.v (.bool true)))) (.t 69)),none⟩,⟨(some 71),(.mv (.t 70)),none⟩,⟨(some 72),(.mv (.t 10)),(some (71,false))⟩,⟨(some 73),(.mv (.t 12)),(some (71,false))⟩,⟨(some 74),(.call 23 [(.t 72),(.t 73)]),(some (71,false))⟩,⟨(some 75),(.un .not (.t 74)),(some (71,false))⟩,⟨(some 76),(.pick (.t 71) (.k (.c (.v (.bool true)))) (.t 75)),none⟩]) (.kill [9,13,57,58,59,60,61,62,63,64,65,66,67,68,69,70,71,72,73,74,75] (.cond (.t 76) (.seq (.ops [⟨(some 4),(.mv (.k (.c (.v (.bool false))))),none⟩]) (.kill [0,1,5,6,7,8,10,11,12,76] .ret)) .skip))) (.kill [4,76] (.seq (.ops [⟨(some 77),(.mkSl 3 0 1 [] []),none⟩,⟨(some 78),(.mv (.t 6)),none⟩,⟨(some 79),(.app 3 1 8 [(.v (.int .i64 0))] (.t 77) (.t 78)),none⟩,⟨(some 14),(.mv (.t 79)),none⟩]) (.kill [77,78,79] (.seq (.ops [⟨(some 80),(.mkSl 3 0 1 [] []),none⟩,⟨(some 81),(.mv (.t 10)),none⟩,⟨(some 82),(.app 3 1 8 [(.v (.int .i64 0))] (.t 80) (.t 81)),none⟩,⟨(some 15),(.mv (.t 82)),none⟩]) (.kill [80,81,82] (.seq (.ops [⟨(some 83),(.mv (.t 6)),none⟩,⟨(some 84),(.mv (.t 8)),none⟩,⟨(some 85),(.mv (.t 10)),none⟩,⟨(some 86),(.mv (.t 12)),none⟩,⟨(some 87),(.mkSl 33 4 1 [(.v (.slice none 0 0)),(.v (.slice none 0 0)),(.v (.slice none 0 0)),(.v (.slice none 0 0))] [(0,(1,(.t 83))),(1,(1,(.t 84))),(2,(1,(.t 85))),(3,(1,(.t 86)))]),none⟩,⟨(some 16),(.mv (.t 87)),none⟩]) (.kill [6,8,10,12,83,84,85,86,87] (.seq (.seq (.ops [⟨(some 17),(.mv (.k (.c (.v (.int .i64 0))))),none⟩]) (.blk 0 (.loop (.seq (.seq (.ops [⟨(some 88),(.mv (.t 17)),none⟩,⟨(some 89),(.bin .lss (.t 88) (.k (.c (.v (.int .i64 4))))),none⟩]) (.kill [18,88,90,91,92,93,94,95,96,97,98,99,100,101,102,103,104,105,106,107,108] (.cond (.t 89) .skip (.exit 0)))) (.kill [89] (.seq (.blk 1 (.seq (.ops [⟨(some 18),(.mv (.k (.c (.v (.int .i64 0))))),none⟩]) (.blk 2 (.loop (.seq (.seq (.ops [⟨(some 92),(.mv (.t 18)),none⟩,⟨(some 93),(.mv (.t 16)),none⟩,⟨(some 94),(.mv (.t 17)),none⟩,⟨(some 95),(.ia 1 (.t 93) (.t 94)),none⟩,⟨(some 96),(.ld false 1 (.t 95)),none⟩,⟨(some 97),(.len (.t 96)),none⟩,⟨(some 98),(.bin .lss (.t 92) (.t 97)),none⟩]) (.kill [92,93,94,95,96,97,99,100,101,102,103,104,105,106,107,108] (.cond (.t 98) .skip (.exit 2)))) (.kill [98] (.seq (.blk 3 (.ops [⟨(some 101),(.mv (.t 16)),none⟩,⟨(some 102),(.mv (.t 17)),none⟩,⟨(some 103),(.ia 1 (.t 101) (.t 102)),none⟩,⟨(some 104),(.ld false 1 (.t 103)),none⟩,⟨(some 105),(.mv (.t 18)),none⟩,⟨(some 106),(.mv (.t 17)),none⟩,⟨(some 107),(.bin .add (.k (.c (.v (.int .i64 1000)))) (.t 106)),none⟩,⟨(some 108),(.ia 1 (.t 104) (.t 105)),none⟩,⟨none,(.st 1 (.t 108) (.t 107)),none⟩])) (.kill [101,102,103,104,105,106,107,108] (.ops [⟨(some 99),(.mv (.t 18)),none⟩,⟨(some 100),(.bin .add (.t 99) (.k (.c (.v (.int .i64 1))))),none⟩,⟨(some 18),(.mv (.t 100)),none⟩]))))))))) (.kill [18,92,93,94,95,96,97,98,99,100,101,102,103,104,105,106,107,108] (.ops [⟨(some 90),(.mv (.t 17)),none⟩,⟨(some 91),(.bin .add (.t 90) (.k (.c (.v (.int .i64 1))))),none⟩,⟨(some 17),(.mv (.t 91)),none⟩])))))))) (.kill [17,18,88,89,90,91,92,93,94,95,96,97,98,99,100,101,102,103,104,105,106,107,108] (.seq (.seq (.ops [⟨(some 19),(.mv (.k (.c (.v (.int .i64 0))))),none⟩]) (.blk 4 (.loop (.seq (.seq (.ops [⟨(some 109),(.mv (.t 19)),none⟩,⟨(some 110),(.bin .lss (.t 109) (.k (.c (.v (.int .i64 4))))),none⟩]) (.kill [20,21,109,111,112,113,114,115,116,117,118,119,120,121,122,123,124,125] (.cond (.t 110) .skip (.exit 4)))) (.kill [110] (.seq (.blk 5 (.seq (.ops [⟨(some 113),(.mv (.t 16)),none⟩,⟨(some 114),(.mv (.t 19)),none⟩,⟨(some 115),(.ia 1 (.t 113) (.t 114)),none⟩,⟨(some 116),(.ld false 1 (.t 115)),none⟩,⟨(some 20),(.mv (.t 116)),none⟩]) (.kill [113,114,115,116] (.seq (.ops [⟨(some 21),(.mv (.k (.c (.v (.int .i64 0))))),none⟩]) (.blk 6 (.loop (.seq (.seq (.ops [⟨(some 117),(.mv (.t 21)),none⟩,⟨(some 118),(.bin .lss (.t 117) (.k (.c (.v (.int .i64 20))))),none⟩]) (.kill [117,119,120,121,122,123,124,125] (.cond (.t 118) .skip (.exit 6)))) (.kill [118] (.seq (.blk 7 (.ops [⟨(some 121),(.mv (.t 20)),none⟩,⟨(some 122),(.mv (.t 19)),none⟩,⟨(some 123),(.bin .add (.k (.c (.v (.int .i64 5000)))) (.t 122)),none⟩,⟨(some 124),(.mkSl 3 1 1 [(.v (.int .i64 0))] [(0,(1,(.t 123)))]),none⟩,⟨(some 125),(.app 3 1 8 [(.v (.int .i64 0))] (.t 121) (.t 124)),none⟩,⟨(some 20),(.mv (.t 125)),none⟩])) (.kill [121,122,123,124,125] (.ops [⟨(some 119),(.mv (.t 21)),none⟩,⟨(some 120),(.bin .add (.t 119) (.k (.c (.v (.int .i64 1))))),none⟩,⟨(some 21),(.mv (.t 120)),none⟩]))))))))))) (.kill [20,21,113,114,115,116,117,118,119,120,121,122,123,124,125] (.ops [⟨(some 111),(.mv (.t 19)),none⟩,⟨(some 112),(.bin .add (.t 111) (.k (.c (.v (.int .i64 1))))),none⟩,⟨(some 19),(.mv (.t 112)),none⟩])))))))) (.kill [19,20,21,109,110,111,112,113,114,115,116,117,118,119,120,121,122,123,124,125] (.seq (.seq (.ops [⟨(some 22),(.mv (.k (.c (.v (.int .i64 0))))),none⟩]) (.blk 8 (.loop (.seq (.seq (.ops [⟨(some 126),(.mv (.t 22)),none⟩,⟨(some 127),(.bin .lss (.t 126) (.k (.c (.v (.int .i64 4))))),none⟩]) (.kill [4,23,126,128,129,130,131,132,133,134,135,136,137,138,139,140,141,142,143,144,145,146,147,148] (.cond (.t 127) .skip (.exit 8)))) (.kill [127] (.seq (.blk 9 (.seq (.ops [⟨(some 23),(.mv (.k (.c (.v (.int .i64 0))))),none⟩]) (.blk 10 (.loop (.seq (.seq (.ops [⟨(some 130),(.mv (.t 23)),none⟩,⟨(some 131),(.mv (.t 16)),none⟩,⟨(some 132),(.mv (.t 22)),none⟩,⟨(some 133),(.ia 1 (.t 131) (.t 132)),none⟩,⟨(some 134),(.ld false 1 (.t 133)),none⟩,⟨(some 135),(.len (.t 134)),none⟩,⟨(some 136),(.bin .lss (.t 130) (.t 135)),none⟩]) (.kill [4,130,131,132,133,134,135,137,138,139,140,141,142,143,144,145,146,147,148] (.cond (.t 136) .skip (.exit 10)))) (.kill [136] (.seq (.blk 11 (.seq (.ops [⟨(some 139),(.mv (.t 16)),none⟩,⟨(some 140),(.mv (.t 22)),none⟩,⟨(some 141),(.ia 1 (.t 139) (.t 140)),none⟩,⟨(some 142),(.ld false 1 (.t 141)),none⟩,⟨(some 143),(.mv (.t 23)),none⟩,⟨(some 144),(.ia 1 (.t 142) (.t 143)),none⟩,⟨(some 145),(.ld false 1 (.t 144)),none⟩,⟨(some 146),(.mv (.t 22)),none⟩,⟨(some 147),(.bin .add (.k (.c (.v (.int .i64 1000)))) (.t 146)),none⟩,⟨(some 148),(.bin .neq (.t 145) (.t 147)),none⟩]) (.kill [139,140,141,142,143,144,145,146,147] (.cond (.t 148) (.seq (.ops [⟨(some 4),(.mv (.k (.c (.v (.bool false))))),none⟩]) (.kill [0,1,5,7,11,14,15,16,22,23,148] .ret)) .skip)))) (.kill [4,139,140,141,142,143,144,145,146,147,148] (.ops [⟨(some 137),(.mv (.t 23)),none⟩,⟨(some 138),(.bin .add (.t 137) (.k (.c (.v (.int .i64 1))))),none⟩,⟨(some 23),(.mv (.t 138)),none⟩]))))))))) (.kill [4,23,130,131,132,133,134,135,136,137,138,139,140,141,142,143,144,145,146,147,148] (.ops [⟨(some 128),(.mv (.t 22)),none⟩,⟨(some 129),(.bin .add (.t 128) (.k (.c (.v (.int .i64 1))))),none⟩,⟨(some 22),(.mv (.t 129)),none⟩])))))))) (.kill [4,16,22,23,126,127,128,129,130,131,132,133,134,135,136,137,138,139,140,141,142,143,144,145,146,147,148] (.seq (.ops [⟨(some 150),(.mv (.t 5)),none⟩,⟨(some 151),(.call 26 [(.t 150)]),none⟩,⟨(some 149),(.mv (.t 151)),none⟩,⟨(some 152),(.ext 0 (.t 149)),none⟩,⟨(some 153),(.ext 1 (.t 149)),none⟩,⟨(some 24),(.mv (.t 152)),none⟩,⟨(some 25),(.mv (.t 153)),none⟩]) (.kill [149,150,151,152,153] (.seq (.ops [⟨(some 155),(.mv (.t 5)),none⟩,⟨(some 156),(.call 22 [(.t 155)]),none⟩,⟨(some 154),(.mv (.t 156)),none⟩,⟨(some 157),(.ext 0 (.t 154)),none⟩,⟨(some 158),(.ext 1 (.t 154)),none⟩,⟨(some 26),(.mv (.t 157)),none⟩,⟨(some 27),(.mv (.t 158)),none⟩]) (.kill [154,155,156,157,158] (.seq (.seq (.ops [⟨(some 159),(.mv (.t 25)),none⟩,⟨(some 160),(.mv (.t 7)),none⟩,⟨(some 161),(.bin .neq (.t 159) (.t 160)),none⟩,⟨(some 162),(.mv (.t 161)),none⟩,⟨(some 163),(.mv (.t 27)),(some (162,false))⟩,⟨(some 164),(.mv (.t 11)),(some (162,false))⟩,⟨(some 165),(.bin .neq (.t 163) (.t 164)),(some (162,false))⟩,⟨(some 166),(.pick (.t 162) (.k (.c (.v (.bool true)))) (.t 165)),none⟩,⟨(some 167),(.mv (.t 166)),none⟩,⟨(some 168),(.mv (.t 24)),(some (167,false))⟩,⟨(some 169),(.mv (.t 14)),(some (167,false))⟩,⟨(some 170),(.call 23 [(.t 168),(.t 169)]),(some (167,false))⟩,⟨(some 171),(.un .not (.t 170)),(some (167,false))⟩,⟨(some 172),(.pick (.t 167) (.k (.c (.v (.bool true)))) (.t 171)),none⟩,⟨(some 173),(.mv (.t 172)),none⟩,⟨(some 174),(.mv (.t 26)),(some (173,false))⟩,⟨(some 175),(.mv (.t 15)),(some (173,false))⟩,⟨(some 176),(.call 23 [(.t 174),(.t 175)]),(some (173,false))⟩,⟨(some 177),(.un .not (.t 176)),(some (173,false))⟩,⟨(some 178),(.pick (.t 173) (.k (.c (.v (.bool true)))) (.t 177)),none⟩,⟨(some 179),(.mv (.t 178)),none⟩,⟨(some 180),(.mv (.t 5)),(some (179,false))⟩,⟨(some 181),(.mv (.t 0)),(some (179,false))⟩,⟨(some 182),(.call 17 [(.t 180),(.t 181)]),(some (179,false))⟩,⟨(some 183),(.un .not (.t 182)),(some (179,false))⟩,⟨(some 184),(.pick (.t 179) (.k (.c (.v (.bool true)))) (.t 183)),none⟩]) (.kill [0,7,11,14,15,24,25,26,27,159,160,161,162,163,164,165,166,167,168,169,170,171,172,173,174,175,176,177,178,179,180,181,182,183] (.cond (.t 184) (.seq (.ops [⟨(some 4),(.mv (.k (.c (.v (.bool false))))),none⟩]) (.kill [1,5,184] .ret)) .skip))) (.kill [4,184] (.seq (.seq (.ops [⟨(some 28),(.mv (.k (.c (.v (.int .i64 0))))),none⟩]) (.blk 12 (.loop (.seq (.seq (.ops [⟨(some 185),(.mv (.t 28)),none⟩,⟨(some 186),(.mv (.t 5)),none⟩,⟨(some 187),(.len (.t 186)),none⟩,⟨(some 188),(.bin .lss (.t 185) (.t 187)),none⟩,⟨(some 189),(.mv (.t 188)),none⟩,⟨(some 190),(.mv (.t 28)),(some (189,true))⟩,⟨(some 191),(.mv (.t 1)),(some (189,true))⟩,⟨(some 192),(.len (.t 191)),(some (189,true))⟩,⟨(some 193),(.bin .lss (.t 190) (.t 192)),(some (189,true))⟩,⟨(some 194),(.pick (.t 189) (.t 193) (.k (.c (.v (.bool false))))),none⟩]) (.kill [185,186,187,188,189,190,191,192,193,195,196,197,198,199,200,201,202,203] (.cond (.t 194) .skip (.exit 12)))) (.kill [194] (.seq (.blk 13 (.ops [⟨(some 197),(.mv (.t 5)),none⟩,⟨(some 198),(.mv (.t 28)),none⟩,⟨(some 199),(.mv (.t 1)),none⟩,⟨(some 200),(.mv (.t 28)),none⟩,⟨(some 201),(.ia 9 (.t 199) (.t 200)),none⟩,⟨(some 202),(.ld true 9 (.t 201)),none⟩,⟨(some 203),(.ia 9 (.t 197) (.t 198)),none⟩,⟨none,(.st 9 (.t 203) (.t 202)),none⟩])) (.kill [197,198,199,200,201,202,203] (.ops [⟨(some 195),(.mv (.t 28)),none⟩,⟨(some 196),(.bin .add (.t 195) (.k (.c (.v (.int .i64 1))))),none⟩,⟨(some 28),(.mv (.t 196)),none⟩])))))))) (.kill [1,28,185,186,187,188,189,190,191,192,193,194,195,196,197,198,199,200,201,202,203] (.seq (.ops [⟨(some 205),(.mv (.t 5)),none⟩,⟨(some 206),(.call 26 [(.t 205)]),none⟩,⟨(some 204),(.mv (.t 206)),none⟩,⟨(some 207),(.ext 0 (.t 204)),none⟩,⟨(some 208),(.ext 1 (.t 204)),none⟩,⟨(some 29),(.mv (.t 207)),none⟩,⟨(some 30),(.mv (.t 208)),none⟩]) (.kill [204,205,206,207,208] (.seq (.ops [⟨(some 210),(.mv (.t 5)),none⟩,⟨(some 211),(.call 14 [(.t 210)]),none⟩,⟨(some 212),(.call 26 [(.t 211)]),none⟩,⟨(some 209),(.mv (.t 212)),none⟩,⟨(some 213),(.ext 0 (.t 209)),none⟩,⟨(some 214),(.ext 1 (.t 209)),none⟩,⟨(some 31),(.mv (.t 213)),none⟩,⟨(some 32),(.mv (.t 214)),none⟩]) (.kill [5,209,210,211,212,213,214] (.seq (.ops [⟨(some 215),(.mv (.t 30)),none⟩,⟨(some 216),(.mv (.t 32)),none⟩,⟨(some 217),(.bin .eql (.t 215) (.t 216)),none⟩,⟨(some 218),(.mv (.t 217)),none⟩,⟨(some 219),(.mv (.t 29)),(some (218,true))⟩,⟨(some 220),(.mv (.t 31)),(some (218,true))⟩,⟨(some 221),(.call 23 [(.t 219),(.t 220)]),(some (218,true))⟩,⟨(some 222),(.pick (.t 218) (.t 221) (.k (.c (.v (.bool false))))),none⟩,⟨(some 4),(.mv (.t 222)),none⟩]) (.kill [29,30,31,32,215,216,217,218,219,220,221,222] .ret))))))))))))))))))))))))))))))))))))))))))
def rs13:List RS:=[(.t 4)]
def nt13:Nat:=223
set_option maxRecDepth 100000 in
set_option maxHeartbeats 4000000 in
theorem freshW_walk (w:World) (v v' : Value) (xs os:List Cl) (hsz:(xs.length+1) * 72≤140737488355328) (hr:∀ c∈xs,c.point≤9223372036854775807) (h:Arr w Cl.enc 9 v xs) (h' : Arr w Cl.enc 9 v' os):Calls Try.prog 13 #[v,v'] w (RetV w (.bool true)):=by
 refine enter2 (A:=[]) (c:=ir13) (rs:=rs13) (nt:=nt13) cl0 cl_ok h cl0 cl_ok h' [.c (.xv (0,0,0)),.c (.xv (1,0,0))] _ Try.func13 rfl (by kernel_rfl) (by kernel_rfl) rfl (fun E' h0 h1=>by simp [SV.den,SC.den,h0,h1]) (of_decide_eq_true rfl) ?_
 simp (maxSteps:=2000000) only [ir13,nt13,rs13,go_sem,↓reduceIte,Nat.reduceLT,Nat.reduceLeDiff,Nat.reduceAdd,Nat.reduceSub,Nat.reduceMul,Nat.reduceEqDiff,reduceCtorEq,Int.reduceToNat,Int.reduceEq,Int.reduceBEq,Int.reduceBNe,Int.reduceLT,Int.reduceLE,Int.reduceNeg,Int.reduceAdd,Int.reduceSub,Int.reduceMul,Int.reduceGE,Int.reduceGT,Cl.enc,iv,endO]
 refine callV (.c (.v (.bool true))) (.bool true) (fun E=>rfl) (fun E a w' hs=>awake_calls w') ?_
 simp (maxSteps:=2000000) only [go_sem,↓reduceIte,Nat.reduceLT,Nat.reduceLeDiff,Nat.reduceAdd,Nat.reduceSub,Nat.reduceMul,Nat.reduceEqDiff,reduceCtorEq,Int.reduceToNat,Int.reduceEq,Int.reduceBEq,Int.reduceBNe,Int.reduceLT,Int.reduceLE,Int.reduceNeg,Int.reduceAdd,Int.reduceSub,Int.reduceMul,Int.reduceGE,Int.reduceGT,Cl.enc,iv,endO]
 refine callN 1 (lsT 9 xs.length) (lsO 53 9 Cl.enc (xs++[mark]) cl0) (fun E a w' hs=>twin_calls w' _ xs (arr_at (d:=cl0) hs 0 rfl) hsz) ?_
 simp (maxSteps:=2000000) only [go_sem,↓reduceIte,Nat.reduceLT,Nat.reduceLeDiff,Nat.reduceAdd,Nat.reduceSub,Nat.reduceMul,Nat.reduceEqDiff,reduceCtorEq,Int.reduceToNat,Int.reduceEq,Int.reduceBEq,Int.reduceBNe,Int.reduceLT,Int.reduceLE,Int.reduceNeg,Int.reduceAdd,Int.reduceSub,Int.reduceMul,Int.reduceGE,Int.reduceGT,Cl.enc,iv,endO,lsT,lsO]
 have hu:(decide (xs=xs) && mark.thread == -77)=true:=by simp [mark]
 have uns:∀ {C:Ctx} {E:Env} {S:St} {a:Act} {w' : World},Sat C.B C.W C.w0 E S a w'→look S.own 2=some (.one (.ar (xs++[mark]).length 9 (ats Cl.enc (xs++[mark]) cl0) 53))→look S.arrs 0=some (.one (arrOf Cl.enc 9 xs cl0)) →
   Calls Try.prog 17 #[(SC.sl (2,0,0) 9 0 xs.length none).den E,E.χ (0,0,0)] w' (RetV w' (.bool true)):=fun hs h1 h2=>by
  have:=unspoilt_calls _ _ _ xs xs mark (tw_tw hs 2 h1) (arr_at (d:=cl0) (l:=0) hs 0 (by simp [atN,h2,Fm.get])) rfl
  rw [hu] at this
  exact this
 have hfind:=fun w' (v:Value) (h:Arr w' Cl.enc 9 v xs)=>find_calls w' v xs (by omega) h
 have hpts:=fun w' (v:Value) (h:Arr w' Cl.enc 9 v xs)=>points_calls w' v xs (by omega) hr h
 have hlp:(ptsV xs).length≤xs.length:=ptsV_len xs
 have hlf:(findL xs).length≤8:=findL_8 xs
 generalize findE xs=fe at hfind
 generalize findL xs=A at hfind hlf
 generalize (if mayQ xs=true then (0:Int) else 120)=pe at hpts
 generalize ptsV xs=Q at hpts hlp
 refine callN 1 (leT 1 A.length fe) (lsO 3 1 eI A 0) (fun E a w' hs=>hfind w' _ (arr_tw hs 2 rfl)) ?_
 simp (maxSteps:=2000000) only [go_sem,↓reduceIte,Nat.reduceLT,Nat.reduceLeDiff,Nat.reduceAdd,Nat.reduceSub,Nat.reduceMul,Nat.reduceEqDiff,reduceCtorEq,Int.reduceToNat,Int.reduceEq,Int.reduceBEq,Int.reduceBNe,Int.reduceLT,Int.reduceLE,Int.reduceNeg,Int.reduceAdd,Int.reduceSub,Int.reduceMul,Int.reduceGE,Int.reduceGT,Cl.enc,iv,endO,leT,lsO]
 refine callN 1 (leT 1 A.length fe) (lsO 3 1 eI A 0) (fun E a w' hs=>hfind w' _ (arr_tw hs 2 rfl)) ?_
 simp (maxSteps:=2000000) only [go_sem,↓reduceIte,Nat.reduceLT,Nat.reduceLeDiff,Nat.reduceAdd,Nat.reduceSub,Nat.reduceMul,Nat.reduceEqDiff,reduceCtorEq,Int.reduceToNat,Int.reduceEq,Int.reduceBEq,Int.reduceBNe,Int.reduceLT,Int.reduceLE,Int.reduceNeg,Int.reduceAdd,Int.reduceSub,Int.reduceMul,Int.reduceGE,Int.reduceGT,Cl.enc,iv,endO,leT,lsO]
 refine callN 1 (leT 1 Q.length pe) (lsO 3 1 eI Q 0) (fun E a w' hs=>hpts w' _ (arr_tw hs 2 rfl)) ?_
 simp (maxSteps:=2000000) only [go_sem,↓reduceIte,Nat.reduceLT,Nat.reduceLeDiff,Nat.reduceAdd,Nat.reduceSub,Nat.reduceMul,Nat.reduceEqDiff,reduceCtorEq,Int.reduceToNat,Int.reduceEq,Int.reduceBEq,Int.reduceBNe,Int.reduceLT,Int.reduceLE,Int.reduceNeg,Int.reduceAdd,Int.reduceSub,Int.reduceMul,Int.reduceGE,Int.reduceGT,Cl.enc,iv,endO,leT,lsO]
 refine callN 1 (leT 1 Q.length pe) (lsO 3 1 eI Q 0) (fun E a w' hs=>hpts w' _ (arr_tw hs 2 rfl)) ?_
 simp (maxSteps:=2000000) only [go_sem,↓reduceIte,Nat.reduceLT,Nat.reduceLeDiff,Nat.reduceAdd,Nat.reduceSub,Nat.reduceMul,Nat.reduceEqDiff,reduceCtorEq,Int.reduceToNat,Int.reduceEq,Int.reduceBEq,Int.reduceBNe,Int.reduceLT,Int.reduceLE,Int.reduceNeg,Int.reduceAdd,Int.reduceSub,Int.reduceMul,Int.reduceGE,Int.reduceGT,Cl.enc,iv,endO,leT,lsO,bne_self_eq_false,beq_self_eq_true]
 refine guardW (.c (.v (.bool true))) (.bool true) (fun E=>rfl) (fun E a w' hs=>by
  have:=same_calls w' _ _ A A (own_at (d:=0) hs 3 _ rfl rfl) (own_at (d:=0) hs 4 _ rfl rfl)
  rw [decide_eq_true rfl] at this
  exact this) ?_
 simp (maxSteps:=2000000) only [go_sem,↓reduceIte,Nat.reduceLT,Nat.reduceLeDiff,Nat.reduceAdd,Nat.reduceSub,Nat.reduceMul,Nat.reduceEqDiff,reduceCtorEq,Int.reduceToNat,Int.reduceEq,Int.reduceBEq,Int.reduceBNe,Int.reduceLT,Int.reduceLE,Int.reduceNeg,Int.reduceAdd,Int.reduceSub,Int.reduceMul,Int.reduceGE,Int.reduceGT,Cl.enc,iv,endO]
 refine guardW (.c (.v (.bool true))) (.bool true) (fun E=>rfl) (fun E a w' hs=>by
  have:=same_calls w' _ _ Q Q (own_at (d:=0) hs 5 _ rfl rfl) (own_at (d:=0) hs 6 _ rfl rfl)
  rw [decide_eq_true rfl] at this
  exact this) ?_
 -- fill
 simp (maxSteps:=2000000) only [go_sem,↓reduceIte,Nat.reduceLT,Nat.reduceLeDiff,Nat.reduceAdd,Nat.reduceSub,Nat.reduceMul,Nat.reduceEqDiff,reduceCtorEq,Int.reduceToNat,Int.reduceEq,Int.reduceBEq,Int.reduceBNe,Int.reduceLT,Int.reduceLE,Int.reduceNeg,Int.reduceAdd,Int.reduceSub,Int.reduceMul,Int.reduceGE,Int.reduceGT,Cl.enc,iv,endO]
 refine And.intro (by decide) (And.intro ⟨Nat.le_refl _,fit_sm2 (by omega),by simp only [maxLen];omega⟩ (And.intro (by decide) (And.intro ⟨Nat.le_refl _,fit_sm2 (by omega),by simp only [maxLen];omega⟩ (And.intro (by decide) ?_))))
 refine loop_unr 5 ?_
 intro ι0 I0 μ0 i0 hk0
 simp (maxSteps:=2000000) only [go_sem,↓reduceIte,Nat.reduceLT,Nat.reduceLeDiff,Nat.reduceAdd,Nat.reduceSub,Nat.reduceMul,Nat.reduceEqDiff,reduceCtorEq,Int.reduceToNat,Int.reduceEq,Int.reduceBEq,Int.reduceBNe,Int.reduceLT,Int.reduceLE,Int.reduceNeg,Int.reduceAdd,Int.reduceSub,Int.reduceMul,Int.reduceGE,Int.reduceGT,Cl.enc,iv,endO]
 refine loopI (ι:={ j:Nat // j≤A.length }) (fun j=>⟨223,wT xs A Q fe pe++[(17,.c (.v (.int .i64 0))),(18,.c (.v (.int .i64 (j.1:Nat))))],wO xs A Q (bA A (1000:Int) j.1) (bA A (1001:Int) 0) (bA Q (1002:Int) 0) (bA Q (1003:Int) 0),[(0,.one (arrOf Cl.enc 9 xs cl0)),(1,.one (arrOf Cl.enc 9 os cl0))],[],12⟩) (fun j=>A.length - j.1) ⟨0,by omega⟩ (le_ren id rfl rfl (by simp [wT,St.putT,setL,TmpsLe,look,SV.ren,SC.ren,idσ,SV.okN,SC.okN]) (wO_le (fun i h=>Nat.lt_of_lt_of_le h (show 12≤12 by decide)) (fun i h=>rfl) rfl rfl rfl rfl (bA_le fun _ _=>fW_0) (bA_le fun _ _=>fW_0) (bA_le fun _ _=>fW_0) (bA_le fun _ _=>fW_0) ⟨rfl,rfl,⟨_,rfl,fun e _=>by simp [appAt]⟩,_,rfl,fun e _=>by simp [appAt]⟩) (arrs2_le (fun i h=>Nat.lt_of_lt_of_le h (show 12≤12 by decide)) rfl rfl rfl rfl) rfl) ?_
 rintro ⟨j,hj⟩
 simp (maxSteps:=2000000) only [go_sem,↓reduceIte,Nat.reduceLT,Nat.reduceLeDiff,Nat.reduceAdd,Nat.reduceSub,Nat.reduceMul,Nat.reduceEqDiff,reduceCtorEq,Int.reduceToNat,Int.reduceEq,Int.reduceBEq,Int.reduceBNe,Int.reduceLT,Int.reduceLE,Int.reduceNeg,Int.reduceAdd,Int.reduceSub,Int.reduceMul,Int.reduceGE,Int.reduceGT,Cl.enc,iv,endO,wT,wO,wR,bA,kA,List.cons_append,List.nil_append]
 refine both (fun hjl=>?_) (fun hjg=>?_)
 ·have hjl:j<A.length:=of_decide_eq_true hjl
  refine And.intro ⟨hjl,Nat.le_refl _⟩ (And.intro hjl ?_)
  rw [wr_succ (by omega)]
  exact backI ⟨j+1,hjl⟩ (by simp only;omega) (le_ren id rfl rfl (by simp [wT,St.putT,setL,TmpsLe,look,SV.ren,SC.ren,idσ,SV.okN,SC.okN]) (wO_le (fun i h=>Nat.lt_of_lt_of_le h (show 12≤12 by decide)) (fun i h=>rfl) rfl rfl rfl rfl (bA_le fun _ _=>fW_set) (bA_le fun _ _=>rfl) (bA_le fun _ _=>rfl) (bA_le fun _ _=>rfl) ⟨rfl,rfl,⟨_,rfl,fun e _=>rfl⟩,_,rfl,fun e _=>rfl⟩) (arrs2_le (fun i h=>Nat.lt_of_lt_of_le h (show 12≤12 by decide)) rfl rfl rfl rfl) rfl)
 have hje:j=A.length:=by have:=of_decide_eq_false hjg;omega
 subst hje
 clear hjg hj
 refine hk0 _ ?_
 intro ι1 I1 μ1 i1 hk1
 simp (maxSteps:=2000000) only [go_sem,↓reduceIte,Nat.reduceLT,Nat.reduceLeDiff,Nat.reduceAdd,Nat.reduceSub,Nat.reduceMul,Nat.reduceEqDiff,reduceCtorEq,Int.reduceToNat,Int.reduceEq,Int.reduceBEq,Int.reduceBNe,Int.reduceLT,Int.reduceLE,Int.reduceNeg,Int.reduceAdd,Int.reduceSub,Int.reduceMul,Int.reduceGE,Int.reduceGT,Cl.enc,iv,endO]
 refine loopI (ι:={ j:Nat // j≤A.length }) (fun j=>⟨223,wT xs A Q fe pe++[(17,.c (.v (.int .i64 1))),(18,.c (.v (.int .i64 (j.1:Nat))))],wO xs A Q (bA A (1000:Int) A.length) (bA A (1001:Int) j.1) (bA Q (1002:Int) 0) (bA Q (1003:Int) 0),[(0,.one (arrOf Cl.enc 9 xs cl0)),(1,.one (arrOf Cl.enc 9 os cl0))],[],12⟩) (fun j=>A.length - j.1) ⟨0,by omega⟩ (le_ren id rfl rfl (by simp [wT,St.putT,setL,TmpsLe,look,SV.ren,SC.ren,idσ,SV.okN,SC.okN]) (wO_le (fun i h=>Nat.lt_of_lt_of_le h (show 12≤12 by decide)) (fun i h=>rfl) rfl rfl rfl rfl (bA_le fun _ _=>rfl) (bA_le fun _ _=>rfl) (bA_le fun _ _=>rfl) (bA_le fun _ _=>rfl) ⟨rfl,rfl,⟨_,rfl,fun e _=>rfl⟩,_,rfl,fun e _=>rfl⟩) (arrs2_le (fun i h=>Nat.lt_of_lt_of_le h (show 12≤12 by decide)) rfl rfl rfl rfl) rfl) ?_
 rintro ⟨j,hj⟩
 simp (maxSteps:=2000000) only [go_sem,↓reduceIte,Nat.reduceLT,Nat.reduceLeDiff,Nat.reduceAdd,Nat.reduceSub,Nat.reduceMul,Nat.reduceEqDiff,reduceCtorEq,Int.reduceToNat,Int.reduceEq,Int.reduceBEq,Int.reduceBNe,Int.reduceLT,Int.reduceLE,Int.reduceNeg,Int.reduceAdd,Int.reduceSub,Int.reduceMul,Int.reduceGE,Int.reduceGT,Cl.enc,iv,endO,wT,wO,wR,bA,kA,List.cons_append,List.nil_append]
 refine both (fun hjl=>?_) (fun hjg=>?_)
 ·have hjl:j<A.length:=of_decide_eq_true hjl
  refine And.intro ⟨hjl,Nat.le_refl _⟩ (And.intro hjl ?_)
  rw [wr_succ (by omega)]
  exact backI ⟨j+1,hjl⟩ (by simp only;omega) (le_ren id rfl rfl (by simp [wT,St.putT,setL,TmpsLe,look,SV.ren,SC.ren,idσ,SV.okN,SC.okN]) (wO_le (fun i h=>Nat.lt_of_lt_of_le h (show 12≤12 by decide)) (fun i h=>rfl) rfl rfl rfl rfl (bA_le fun _ _=>rfl) (bA_le fun _ _=>fW_set) (bA_le fun _ _=>rfl) (bA_le fun _ _=>rfl) ⟨rfl,rfl,⟨_,rfl,fun e _=>rfl⟩,_,rfl,fun e _=>rfl⟩) (arrs2_le (fun i h=>Nat.lt_of_lt_of_le h (show 12≤12 by decide)) rfl rfl rfl rfl) rfl)
 have hje:j=A.length:=by have:=of_decide_eq_false hjg;omega
 subst hje
 clear hjg hj
 refine hk1 _ ?_
 intro ι2 I2 μ2 i2 hk2
 simp (maxSteps:=2000000) only [go_sem,↓reduceIte,Nat.reduceLT,Nat.reduceLeDiff,Nat.reduceAdd,Nat.reduceSub,Nat.reduceMul,Nat.reduceEqDiff,reduceCtorEq,Int.reduceToNat,Int.reduceEq,Int.reduceBEq,Int.reduceBNe,Int.reduceLT,Int.reduceLE,Int.reduceNeg,Int.reduceAdd,Int.reduceSub,Int.reduceMul,Int.reduceGE,Int.reduceGT,Cl.enc,iv,endO]
 refine loopI (ι:={ j:Nat // j≤Q.length }) (fun j=>⟨223,wT xs A Q fe pe++[(17,.c (.v (.int .i64 2))),(18,.c (.v (.int .i64 (j.1:Nat))))],wO xs A Q (bA A (1000:Int) A.length) (bA A (1001:Int) A.length) (bA Q (1002:Int) j.1) (bA Q (1003:Int) 0),[(0,.one (arrOf Cl.enc 9 xs cl0)),(1,.one (arrOf Cl.enc 9 os cl0))],[],12⟩) (fun j=>Q.length - j.1) ⟨0,by omega⟩ (le_ren id rfl rfl (by simp [wT,St.putT,setL,TmpsLe,look,SV.ren,SC.ren,idσ,SV.okN,SC.okN]) (wO_le (fun i h=>Nat.lt_of_lt_of_le h (show 12≤12 by decide)) (fun i h=>rfl) rfl rfl rfl rfl (bA_le fun _ _=>rfl) (bA_le fun _ _=>rfl) (bA_le fun _ _=>rfl) (bA_le fun _ _=>rfl) ⟨rfl,rfl,⟨_,rfl,fun e _=>rfl⟩,_,rfl,fun e _=>rfl⟩) (arrs2_le (fun i h=>Nat.lt_of_lt_of_le h (show 12≤12 by decide)) rfl rfl rfl rfl) rfl) ?_
 rintro ⟨j,hj⟩
 simp (maxSteps:=2000000) only [go_sem,↓reduceIte,Nat.reduceLT,Nat.reduceLeDiff,Nat.reduceAdd,Nat.reduceSub,Nat.reduceMul,Nat.reduceEqDiff,reduceCtorEq,Int.reduceToNat,Int.reduceEq,Int.reduceBEq,Int.reduceBNe,Int.reduceLT,Int.reduceLE,Int.reduceNeg,Int.reduceAdd,Int.reduceSub,Int.reduceMul,Int.reduceGE,Int.reduceGT,Cl.enc,iv,endO,wT,wO,wR,bA,kA,List.cons_append,List.nil_append]
 refine both (fun hjl=>?_) (fun hjg=>?_)
 ·have hjl:j<Q.length:=of_decide_eq_true hjl
  refine And.intro ⟨hjl,Nat.le_refl _⟩ (And.intro hjl ?_)
  rw [wr_succ (by omega)]
  exact backI ⟨j+1,hjl⟩ (by simp only;omega) (le_ren id rfl rfl (by simp [wT,St.putT,setL,TmpsLe,look,SV.ren,SC.ren,idσ,SV.okN,SC.okN]) (wO_le (fun i h=>Nat.lt_of_lt_of_le h (show 12≤12 by decide)) (fun i h=>rfl) rfl rfl rfl rfl (bA_le fun _ _=>rfl) (bA_le fun _ _=>rfl) (bA_le fun _ _=>fW_set) (bA_le fun _ _=>rfl) ⟨rfl,rfl,⟨_,rfl,fun e _=>rfl⟩,_,rfl,fun e _=>rfl⟩) (arrs2_le (fun i h=>Nat.lt_of_lt_of_le h (show 12≤12 by decide)) rfl rfl rfl rfl) rfl)
 have hje:j=Q.length:=by have:=of_decide_eq_false hjg;omega
 subst hje
 clear hjg hj
 refine hk2 _ ?_
 intro ι3 I3 μ3 i3 hk3
 simp (maxSteps:=2000000) only [go_sem,↓reduceIte,Nat.reduceLT,Nat.reduceLeDiff,Nat.reduceAdd,Nat.reduceSub,Nat.reduceMul,Nat.reduceEqDiff,reduceCtorEq,Int.reduceToNat,Int.reduceEq,Int.reduceBEq,Int.reduceBNe,Int.reduceLT,Int.reduceLE,Int.reduceNeg,Int.reduceAdd,Int.reduceSub,Int.reduceMul,Int.reduceGE,Int.reduceGT,Cl.enc,iv,endO]
 refine loopI (ι:={ j:Nat // j≤Q.length }) (fun j=>⟨223,wT xs A Q fe pe++[(17,.c (.v (.int .i64 3))),(18,.c (.v (.int .i64 (j.1:Nat))))],wO xs A Q (bA A (1000:Int) A.length) (bA A (1001:Int) A.length) (bA Q (1002:Int) Q.length) (bA Q (1003:Int) j.1),[(0,.one (arrOf Cl.enc 9 xs cl0)),(1,.one (arrOf Cl.enc 9 os cl0))],[],12⟩) (fun j=>Q.length - j.1) ⟨0,by omega⟩ (le_ren id rfl rfl (by simp [wT,St.putT,setL,TmpsLe,look,SV.ren,SC.ren,idσ,SV.okN,SC.okN]) (wO_le (fun i h=>Nat.lt_of_lt_of_le h (show 12≤12 by decide)) (fun i h=>rfl) rfl rfl rfl rfl (bA_le fun _ _=>rfl) (bA_le fun _ _=>rfl) (bA_le fun _ _=>rfl) (bA_le fun _ _=>rfl) ⟨rfl,rfl,⟨_,rfl,fun e _=>rfl⟩,_,rfl,fun e _=>rfl⟩) (arrs2_le (fun i h=>Nat.lt_of_lt_of_le h (show 12≤12 by decide)) rfl rfl rfl rfl) rfl) ?_
 rintro ⟨j,hj⟩
 simp (maxSteps:=2000000) only [go_sem,↓reduceIte,Nat.reduceLT,Nat.reduceLeDiff,Nat.reduceAdd,Nat.reduceSub,Nat.reduceMul,Nat.reduceEqDiff,reduceCtorEq,Int.reduceToNat,Int.reduceEq,Int.reduceBEq,Int.reduceBNe,Int.reduceLT,Int.reduceLE,Int.reduceNeg,Int.reduceAdd,Int.reduceSub,Int.reduceMul,Int.reduceGE,Int.reduceGT,Cl.enc,iv,endO,wT,wO,wR,bA,kA,List.cons_append,List.nil_append]
 refine both (fun hjl=>?_) (fun hjg=>?_)
 ·have hjl:j<Q.length:=of_decide_eq_true hjl
  refine And.intro ⟨hjl,Nat.le_refl _⟩ (And.intro hjl ?_)
  rw [wr_succ (by omega)]
  exact backI ⟨j+1,hjl⟩ (by simp only;omega) (le_ren id rfl rfl (by simp [wT,St.putT,setL,TmpsLe,look,SV.ren,SC.ren,idσ,SV.okN,SC.okN]) (wO_le (fun i h=>Nat.lt_of_lt_of_le h (show 12≤12 by decide)) (fun i h=>rfl) rfl rfl rfl rfl (bA_le fun _ _=>rfl) (bA_le fun _ _=>rfl) (bA_le fun _ _=>rfl) (bA_le fun _ _=>fW_set) ⟨rfl,rfl,⟨_,rfl,fun e _=>rfl⟩,_,rfl,fun e _=>rfl⟩) (arrs2_le (fun i h=>Nat.lt_of_lt_of_le h (show 12≤12 by decide)) rfl rfl rfl rfl) rfl)
 have hje:j=Q.length:=by have:=of_decide_eq_false hjg;omega
 subst hje
 clear hjg hj
 refine hk3 _ ?_
 intro ι I μ i hk
 simp (maxSteps:=2000000) only [go_sem,↓reduceIte,Nat.reduceLT,Nat.reduceLeDiff,Nat.reduceAdd,Nat.reduceSub,Nat.reduceMul,Nat.reduceEqDiff,reduceCtorEq,Int.reduceToNat,Int.reduceEq,Int.reduceBEq,Int.reduceBNe,Int.reduceLT,Int.reduceLE,Int.reduceNeg,Int.reduceAdd,Int.reduceSub,Int.reduceMul,Int.reduceGE,Int.reduceGT,Cl.enc,iv,endO]
 clear hk hk0 hk1 hk2 hk3
 refine loop_unr 5 ?_
 intro ι0 I0 μ0 i0 hk0
 simp (maxSteps:=2000000) only [go_sem,↓reduceIte,Nat.reduceLT,Nat.reduceLeDiff,Nat.reduceAdd,Nat.reduceSub,Nat.reduceMul,Nat.reduceEqDiff,reduceCtorEq,Int.reduceToNat,Int.reduceEq,Int.reduceBEq,Int.reduceBNe,Int.reduceLT,Int.reduceLE,Int.reduceNeg,Int.reduceAdd,Int.reduceSub,Int.reduceMul,Int.reduceGE,Int.reduceGT,Cl.enc,iv,endO,wT,wO,wR,bA,kA,List.cons_append,List.nil_append]
 refine loopI (ι:={ j:Nat // j≤20 }) (fun j=>⟨223,wT xs A Q fe pe++[(19,.c (.v (.int .i64 0))),(20,.c (.xv (12,0,0))),(21,.c (.v (.int .i64 (j.1:Nat))))],wO xs A Q (kA A (1000:Int) 3 (A.length+j.1)) (bA A (1001:Int) A.length) (bA Q (1002:Int) Q.length) (bA Q (1003:Int) Q.length),[(0,.one (arrOf Cl.enc 9 xs cl0)),(1,.one (arrOf Cl.enc 9 os cl0))],[],13⟩) (fun j=>20 - j.1) ⟨0,by omega⟩ (le_tr (keep_in (t:=20) (y:=(3,0,0)) rfl rfl ⟨rfl,rfl⟩) (le_ren id rfl rfl (by simp [wT,St.putT,setL,TmpsLe,look,SV.ren,SC.ren,idσ,SV.okN,SC.okN]) (wO_le (fun i h=>Nat.lt_of_lt_of_le h (show 12≤13 by decide)) (fun i h=>rfl) rfl rfl rfl rfl (keep_le rfl rfl (show 3<13 by decide) (show 12<13 by decide) (fun e _=>fW_v A _ _ e)) (bA_le fun _ _=>rfl) (bA_le fun _ _=>rfl) (bA_le fun _ _=>rfl) ⟨rfl,rfl,⟨_,rfl,fun e _=>rfl⟩,_,rfl,fun e _=>rfl⟩) (arrs2_le (fun i h=>Nat.lt_of_lt_of_le h (show 12≤13 by decide)) rfl rfl rfl rfl) rfl)) ?_
 rintro ⟨j,hj⟩
 simp (maxSteps:=2000000) only [go_sem,↓reduceIte,Nat.reduceLT,Nat.reduceLeDiff,Nat.reduceAdd,Nat.reduceSub,Nat.reduceMul,Nat.reduceEqDiff,reduceCtorEq,Int.reduceToNat,Int.reduceEq,Int.reduceBEq,Int.reduceBNe,Int.reduceLT,Int.reduceLE,Int.reduceNeg,Int.reduceAdd,Int.reduceSub,Int.reduceMul,Int.reduceGE,Int.reduceGT,Cl.enc,iv,endO,wT,wO,wR,bA,kA,List.cons_append,List.nil_append]
 refine both (fun hjl=>?_) (fun hjg=>?_)
 ·have hjl:j<20:=by have:=of_decide_eq_true hjl;omega
  have f1:(A.length+j+1+(A.length+j+1) / 4+192) * 8≤281474976710656:=fit_sm2 (by omega)
  have f3:A.length+j+1≤maxLen:=by simp only [maxLen];omega
  refine And.intro (by decide) ?_
  refine keep_app (y:=(3,0,0)) (z:=(12,0,0)) (k:=A.length) (L:=A.length+j) (m:=1) (ty0:=3) (f:=fW A (1000:Int) A.length) (by exact (mkTab_ok _ _).1) (by rfl) (by rfl) (by rfl) (by exact ⟨⟨rfl,rfl⟩,rfl,rfl,by decide⟩) (by rfl) (by exact ⟨rfl,rfl⟩) (by decide) (by rfl) f1 f3 ?_
  simp (maxSteps:=2000000) only [go_sem,↓reduceIte,Nat.reduceLT,Nat.reduceLeDiff,Nat.reduceAdd,Nat.reduceSub,Nat.reduceMul,Nat.reduceEqDiff,reduceCtorEq,Int.reduceToNat,Int.reduceEq,Int.reduceBEq,Int.reduceBNe,Int.reduceLT,Int.reduceLE,Int.reduceNeg,Int.reduceAdd,Int.reduceSub,Int.reduceMul,Int.reduceGE,Int.reduceGT,Cl.enc,iv,endO]
  rw [wr_succ (by omega)]
  exact backI ⟨j+1,hjl⟩ (by simp only;omega) (le_ren (fun i=>if i=12 then 14 else i) rfl rfl (by simp [wT,St.putT,setL,TmpsLe,look,SV.ren,SC.ren,idσ,SV.okN,SC.okN]) (wO_le (fun i h=>Nat.lt_of_lt_of_le h (show 12≤13 by decide)) (fun i h=>by rw [if_neg (by omega)]) rfl rfl rfl rfl (keep_le rfl rfl (show 3<13 by decide) (show 12<13 by decide) (fun e _=>fW_v A _ _ e)) (bA_le fun _ _=>rfl) (bA_le fun _ _=>rfl) (bA_le fun _ _=>rfl) ⟨rfl,rfl,⟨_,rfl,fun e _=>rfl⟩,_,rfl,fun e _=>rfl⟩) (arrs2_le (fun i h=>Nat.lt_of_lt_of_le h (show 12≤13 by decide)) rfl rfl rfl rfl) rfl)
 have hje:j=20:=by have:=of_decide_eq_false hjg;omega
 subst hje
 clear hjg hj
 refine hk0 _ ?_
 intro ι1 I1 μ1 i1 hk1
 simp (maxSteps:=2000000) only [go_sem,↓reduceIte,Nat.reduceLT,Nat.reduceLeDiff,Nat.reduceAdd,Nat.reduceSub,Nat.reduceMul,Nat.reduceEqDiff,reduceCtorEq,Int.reduceToNat,Int.reduceEq,Int.reduceBEq,Int.reduceBNe,Int.reduceLT,Int.reduceLE,Int.reduceNeg,Int.reduceAdd,Int.reduceSub,Int.reduceMul,Int.reduceGE,Int.reduceGT,Cl.enc,iv,endO,wT,wO,wR,bA,kA,List.cons_append,List.nil_append]
 refine loopI (ι:={ j:Nat // j≤20 }) (fun j=>⟨223,wT xs A Q fe pe++[(19,.c (.v (.int .i64 1))),(20,.c (.xv (12,0,0))),(21,.c (.v (.int .i64 (j.1:Nat))))],wO xs A Q (bA A (1000:Int) A.length) (kA A (1001:Int) 4 (A.length+j.1)) (bA Q (1002:Int) Q.length) (bA Q (1003:Int) Q.length),[(0,.one (arrOf Cl.enc 9 xs cl0)),(1,.one (arrOf Cl.enc 9 os cl0))],[],13⟩) (fun j=>20 - j.1) ⟨0,by omega⟩ (le_tr (keep_out (y:=(3,0,0)) (z:=(12,0,0)) (k:=A.length) (s:=1) (ty:=3) (L:=A.length+20) (f:=fW A (1000:Int) A.length) rfl ⟨rfl,rfl⟩) (le_tr (keep_in (t:=20) (y:=(4,0,0)) rfl rfl ⟨rfl,rfl⟩) (le_ren (fun i=>if i=12 then 13 else i) rfl rfl (by simp [wT,St.putT,setL,TmpsLe,look,SV.ren,SC.ren,idσ,SV.okN,SC.okN]) (wO_le (fun i h=>Nat.lt_of_lt_of_le h (show 12≤13 by decide)) (fun i h=>by rw [if_neg (by omega)]) rfl rfl rfl rfl (bA_le fun _ _=>rfl) (keep_le rfl rfl (show 4<13 by decide) (show 12<13 by decide) (fun e _=>fW_v A _ _ e)) (bA_le fun _ _=>rfl) (bA_le fun _ _=>rfl) ⟨rfl,rfl,⟨_,rfl,fun e _=>rfl⟩,_,rfl,fun e _=>rfl⟩) (arrs2_le (fun i h=>Nat.lt_of_lt_of_le h (show 12≤13 by decide)) rfl rfl rfl rfl) rfl))) ?_
 rintro ⟨j,hj⟩
 simp (maxSteps:=2000000) only [go_sem,↓reduceIte,Nat.reduceLT,Nat.reduceLeDiff,Nat.reduceAdd,Nat.reduceSub,Nat.reduceMul,Nat.reduceEqDiff,reduceCtorEq,Int.reduceToNat,Int.reduceEq,Int.reduceBEq,Int.reduceBNe,Int.reduceLT,Int.reduceLE,Int.reduceNeg,Int.reduceAdd,Int.reduceSub,Int.reduceMul,Int.reduceGE,Int.reduceGT,Cl.enc,iv,endO,wT,wO,wR,bA,kA,List.cons_append,List.nil_append]
 refine both (fun hjl=>?_) (fun hjg=>?_)
 ·have hjl:j<20:=by have:=of_decide_eq_true hjl;omega
  have f1:(A.length+j+1+(A.length+j+1) / 4+192) * 8≤281474976710656:=fit_sm2 (by omega)
  have f3:A.length+j+1≤maxLen:=by simp only [maxLen];omega
  refine And.intro (by decide) ?_
  refine keep_app (y:=(4,0,0)) (z:=(12,0,0)) (k:=A.length) (L:=A.length+j) (m:=1) (ty0:=3) (f:=fW A (1001:Int) A.length) (by exact (mkTab_ok _ _).1) (by rfl) (by rfl) (by rfl) (by exact ⟨⟨rfl,rfl⟩,rfl,rfl,by decide⟩) (by rfl) (by exact ⟨rfl,rfl⟩) (by decide) (by rfl) f1 f3 ?_
  simp (maxSteps:=2000000) only [go_sem,↓reduceIte,Nat.reduceLT,Nat.reduceLeDiff,Nat.reduceAdd,Nat.reduceSub,Nat.reduceMul,Nat.reduceEqDiff,reduceCtorEq,Int.reduceToNat,Int.reduceEq,Int.reduceBEq,Int.reduceBNe,Int.reduceLT,Int.reduceLE,Int.reduceNeg,Int.reduceAdd,Int.reduceSub,Int.reduceMul,Int.reduceGE,Int.reduceGT,Cl.enc,iv,endO]
  rw [wr_succ (by omega)]
  exact backI ⟨j+1,hjl⟩ (by simp only;omega) (le_ren (fun i=>if i=12 then 14 else i) rfl rfl (by simp [wT,St.putT,setL,TmpsLe,look,SV.ren,SC.ren,idσ,SV.okN,SC.okN]) (wO_le (fun i h=>Nat.lt_of_lt_of_le h (show 12≤13 by decide)) (fun i h=>by rw [if_neg (by omega)]) rfl rfl rfl rfl (bA_le fun _ _=>rfl) (keep_le rfl rfl (show 4<13 by decide) (show 12<13 by decide) (fun e _=>fW_v A _ _ e)) (bA_le fun _ _=>rfl) (bA_le fun _ _=>rfl) ⟨rfl,rfl,⟨_,rfl,fun e _=>rfl⟩,_,rfl,fun e _=>rfl⟩) (arrs2_le (fun i h=>Nat.lt_of_lt_of_le h (show 12≤13 by decide)) rfl rfl rfl rfl) rfl)
 have hje:j=20:=by have:=of_decide_eq_false hjg;omega
 subst hje
 clear hjg hj
 refine hk1 _ ?_
 intro ι2 I2 μ2 i2 hk2
 simp (maxSteps:=2000000) only [go_sem,↓reduceIte,Nat.reduceLT,Nat.reduceLeDiff,Nat.reduceAdd,Nat.reduceSub,Nat.reduceMul,Nat.reduceEqDiff,reduceCtorEq,Int.reduceToNat,Int.reduceEq,Int.reduceBEq,Int.reduceBNe,Int.reduceLT,Int.reduceLE,Int.reduceNeg,Int.reduceAdd,Int.reduceSub,Int.reduceMul,Int.reduceGE,Int.reduceGT,Cl.enc,iv,endO,wT,wO,wR,bA,kA,List.cons_append,List.nil_append]
 refine loopI (ι:={ j:Nat // j≤20 }) (fun j=>⟨223,wT xs A Q fe pe++[(19,.c (.v (.int .i64 2))),(20,.c (.xv (12,0,0))),(21,.c (.v (.int .i64 (j.1:Nat))))],wO xs A Q (bA A (1000:Int) A.length) (bA A (1001:Int) A.length) (kA Q (1002:Int) 5 (Q.length+j.1)) (bA Q (1003:Int) Q.length),[(0,.one (arrOf Cl.enc 9 xs cl0)),(1,.one (arrOf Cl.enc 9 os cl0))],[],13⟩) (fun j=>20 - j.1) ⟨0,by omega⟩ (le_tr (keep_out (y:=(4,0,0)) (z:=(12,0,0)) (k:=A.length) (s:=1) (ty:=3) (L:=A.length+20) (f:=fW A (1001:Int) A.length) rfl ⟨rfl,rfl⟩) (le_tr (keep_in (t:=20) (y:=(5,0,0)) rfl rfl ⟨rfl,rfl⟩) (le_ren (fun i=>if i=12 then 13 else i) rfl rfl (by simp [wT,St.putT,setL,TmpsLe,look,SV.ren,SC.ren,idσ,SV.okN,SC.okN]) (wO_le (fun i h=>Nat.lt_of_lt_of_le h (show 12≤13 by decide)) (fun i h=>by rw [if_neg (by omega)]) rfl rfl rfl rfl (bA_le fun _ _=>rfl) (bA_le fun _ _=>rfl) (keep_le rfl rfl (show 5<13 by decide) (show 12<13 by decide) (fun e _=>fW_v Q _ _ e)) (bA_le fun _ _=>rfl) ⟨rfl,rfl,⟨_,rfl,fun e _=>rfl⟩,_,rfl,fun e _=>rfl⟩) (arrs2_le (fun i h=>Nat.lt_of_lt_of_le h (show 12≤13 by decide)) rfl rfl rfl rfl) rfl))) ?_
 rintro ⟨j,hj⟩
 simp (maxSteps:=2000000) only [go_sem,↓reduceIte,Nat.reduceLT,Nat.reduceLeDiff,Nat.reduceAdd,Nat.reduceSub,Nat.reduceMul,Nat.reduceEqDiff,reduceCtorEq,Int.reduceToNat,Int.reduceEq,Int.reduceBEq,Int.reduceBNe,Int.reduceLT,Int.reduceLE,Int.reduceNeg,Int.reduceAdd,Int.reduceSub,Int.reduceMul,Int.reduceGE,Int.reduceGT,Cl.enc,iv,endO,wT,wO,wR,bA,kA,List.cons_append,List.nil_append]
 refine both (fun hjl=>?_) (fun hjg=>?_)
 ·have hjl:j<20:=by have:=of_decide_eq_true hjl;omega
  have f1:(Q.length+j+1+(Q.length+j+1) / 4+192) * 8≤281474976710656:=fit_sm2 (by omega)
  have f3:Q.length+j+1≤maxLen:=by simp only [maxLen];omega
  refine And.intro (by decide) ?_
  refine keep_app (y:=(5,0,0)) (z:=(12,0,0)) (k:=Q.length) (L:=Q.length+j) (m:=1) (ty0:=3) (f:=fW Q (1002:Int) Q.length) (by exact (mkTab_ok _ _).1) (by rfl) (by rfl) (by rfl) (by exact ⟨⟨rfl,rfl⟩,rfl,rfl,by decide⟩) (by rfl) (by exact ⟨rfl,rfl⟩) (by decide) (by rfl) f1 f3 ?_
  simp (maxSteps:=2000000) only [go_sem,↓reduceIte,Nat.reduceLT,Nat.reduceLeDiff,Nat.reduceAdd,Nat.reduceSub,Nat.reduceMul,Nat.reduceEqDiff,reduceCtorEq,Int.reduceToNat,Int.reduceEq,Int.reduceBEq,Int.reduceBNe,Int.reduceLT,Int.reduceLE,Int.reduceNeg,Int.reduceAdd,Int.reduceSub,Int.reduceMul,Int.reduceGE,Int.reduceGT,Cl.enc,iv,endO]
  rw [wr_succ (by omega)]
  exact backI ⟨j+1,hjl⟩ (by simp only;omega) (le_ren (fun i=>if i=12 then 14 else i) rfl rfl (by simp [wT,St.putT,setL,TmpsLe,look,SV.ren,SC.ren,idσ,SV.okN,SC.okN]) (wO_le (fun i h=>Nat.lt_of_lt_of_le h (show 12≤13 by decide)) (fun i h=>by rw [if_neg (by omega)]) rfl rfl rfl rfl (bA_le fun _ _=>rfl) (bA_le fun _ _=>rfl) (keep_le rfl rfl (show 5<13 by decide) (show 12<13 by decide) (fun e _=>fW_v Q _ _ e)) (bA_le fun _ _=>rfl) ⟨rfl,rfl,⟨_,rfl,fun e _=>rfl⟩,_,rfl,fun e _=>rfl⟩) (arrs2_le (fun i h=>Nat.lt_of_lt_of_le h (show 12≤13 by decide)) rfl rfl rfl rfl) rfl)
 have hje:j=20:=by have:=of_decide_eq_false hjg;omega
 subst hje
 clear hjg hj
 refine hk2 _ ?_
 intro ι3 I3 μ3 i3 hk3
 simp (maxSteps:=2000000) only [go_sem,↓reduceIte,Nat.reduceLT,Nat.reduceLeDiff,Nat.reduceAdd,Nat.reduceSub,Nat.reduceMul,Nat.reduceEqDiff,reduceCtorEq,Int.reduceToNat,Int.reduceEq,Int.reduceBEq,Int.reduceBNe,Int.reduceLT,Int.reduceLE,Int.reduceNeg,Int.reduceAdd,Int.reduceSub,Int.reduceMul,Int.reduceGE,Int.reduceGT,Cl.enc,iv,endO,wT,wO,wR,bA,kA,List.cons_append,List.nil_append]
 refine loopI (ι:={ j:Nat // j≤20 }) (fun j=>⟨223,wT xs A Q fe pe++[(19,.c (.v (.int .i64 3))),(20,.c (.xv (12,0,0))),(21,.c (.v (.int .i64 (j.1:Nat))))],wO xs A Q (bA A (1000:Int) A.length) (bA A (1001:Int) A.length) (bA Q (1002:Int) Q.length) (kA Q (1003:Int) 6 (Q.length+j.1)),[(0,.one (arrOf Cl.enc 9 xs cl0)),(1,.one (arrOf Cl.enc 9 os cl0))],[],13⟩) (fun j=>20 - j.1) ⟨0,by omega⟩ (le_tr (keep_out (y:=(5,0,0)) (z:=(12,0,0)) (k:=Q.length) (s:=1) (ty:=3) (L:=Q.length+20) (f:=fW Q (1002:Int) Q.length) rfl ⟨rfl,rfl⟩) (le_tr (keep_in (t:=20) (y:=(6,0,0)) rfl rfl ⟨rfl,rfl⟩) (le_ren (fun i=>if i=12 then 13 else i) rfl rfl (by simp [wT,St.putT,setL,TmpsLe,look,SV.ren,SC.ren,idσ,SV.okN,SC.okN]) (wO_le (fun i h=>Nat.lt_of_lt_of_le h (show 12≤13 by decide)) (fun i h=>by rw [if_neg (by omega)]) rfl rfl rfl rfl (bA_le fun _ _=>rfl) (bA_le fun _ _=>rfl) (bA_le fun _ _=>rfl) (keep_le rfl rfl (show 6<13 by decide) (show 12<13 by decide) (fun e _=>fW_v Q _ _ e)) ⟨rfl,rfl,⟨_,rfl,fun e _=>rfl⟩,_,rfl,fun e _=>rfl⟩) (arrs2_le (fun i h=>Nat.lt_of_lt_of_le h (show 12≤13 by decide)) rfl rfl rfl rfl) rfl))) ?_
 rintro ⟨j,hj⟩
 simp (maxSteps:=2000000) only [go_sem,↓reduceIte,Nat.reduceLT,Nat.reduceLeDiff,Nat.reduceAdd,Nat.reduceSub,Nat.reduceMul,Nat.reduceEqDiff,reduceCtorEq,Int.reduceToNat,Int.reduceEq,Int.reduceBEq,Int.reduceBNe,Int.reduceLT,Int.reduceLE,Int.reduceNeg,Int.reduceAdd,Int.reduceSub,Int.reduceMul,Int.reduceGE,Int.reduceGT,Cl.enc,iv,endO,wT,wO,wR,bA,kA,List.cons_append,List.nil_append]
 refine both (fun hjl=>?_) (fun hjg=>?_)
 ·have hjl:j<20:=by have:=of_decide_eq_true hjl;omega
  have f1:(Q.length+j+1+(Q.length+j+1) / 4+192) * 8≤281474976710656:=fit_sm2 (by omega)
  have f3:Q.length+j+1≤maxLen:=by simp only [maxLen];omega
  refine And.intro (by decide) ?_
  refine keep_app (y:=(6,0,0)) (z:=(12,0,0)) (k:=Q.length) (L:=Q.length+j) (m:=1) (ty0:=3) (f:=fW Q (1003:Int) Q.length) (by exact (mkTab_ok _ _).1) (by rfl) (by rfl) (by rfl) (by exact ⟨⟨rfl,rfl⟩,rfl,rfl,by decide⟩) (by rfl) (by exact ⟨rfl,rfl⟩) (by decide) (by rfl) f1 f3 ?_
  simp (maxSteps:=2000000) only [go_sem,↓reduceIte,Nat.reduceLT,Nat.reduceLeDiff,Nat.reduceAdd,Nat.reduceSub,Nat.reduceMul,Nat.reduceEqDiff,reduceCtorEq,Int.reduceToNat,Int.reduceEq,Int.reduceBEq,Int.reduceBNe,Int.reduceLT,Int.reduceLE,Int.reduceNeg,Int.reduceAdd,Int.reduceSub,Int.reduceMul,Int.reduceGE,Int.reduceGT,Cl.enc,iv,endO]
  rw [wr_succ (by omega)]
  exact backI ⟨j+1,hjl⟩ (by simp only;omega) (le_ren (fun i=>if i=12 then 14 else i) rfl rfl (by simp [wT,St.putT,setL,TmpsLe,look,SV.ren,SC.ren,idσ,SV.okN,SC.okN]) (wO_le (fun i h=>Nat.lt_of_lt_of_le h (show 12≤13 by decide)) (fun i h=>by rw [if_neg (by omega)]) rfl rfl rfl rfl (bA_le fun _ _=>rfl) (bA_le fun _ _=>rfl) (bA_le fun _ _=>rfl) (keep_le rfl rfl (show 6<13 by decide) (show 12<13 by decide) (fun e _=>fW_v Q _ _ e)) ⟨rfl,rfl,⟨_,rfl,fun e _=>rfl⟩,_,rfl,fun e _=>rfl⟩) (arrs2_le (fun i h=>Nat.lt_of_lt_of_le h (show 12≤13 by decide)) rfl rfl rfl rfl) rfl)
 have hje:j=20:=by have:=of_decide_eq_false hjg;omega
 subst hje
 clear hjg hj
 refine hk3 _ ?_
 intro ι I μ i hk
 simp (maxSteps:=2000000) only [go_sem,↓reduceIte,Nat.reduceLT,Nat.reduceLeDiff,Nat.reduceAdd,Nat.reduceSub,Nat.reduceMul,Nat.reduceEqDiff,reduceCtorEq,Int.reduceToNat,Int.reduceEq,Int.reduceBEq,Int.reduceBNe,Int.reduceLT,Int.reduceLE,Int.reduceNeg,Int.reduceAdd,Int.reduceSub,Int.reduceMul,Int.reduceGE,Int.reduceGT,Cl.enc,iv,endO]
 clear hk hk0 hk1 hk2 hk3
 refine loop_unr 5 ?_
 intro ι0 I0 μ0 i0 hk0
 simp (maxSteps:=2000000) only [go_sem,↓reduceIte,Nat.reduceLT,Nat.reduceLeDiff,Nat.reduceAdd,Nat.reduceSub,Nat.reduceMul,Nat.reduceEqDiff,reduceCtorEq,Int.reduceToNat,Int.reduceEq,Int.reduceBEq,Int.reduceBNe,Int.reduceLT,Int.reduceLE,Int.reduceNeg,Int.reduceAdd,Int.reduceSub,Int.reduceMul,Int.reduceGE,Int.reduceGT,Cl.enc,iv,endO,wT,wO,wR,bA,kA,List.cons_append,List.nil_append]
 refine loopI (ι:={ j:Nat // j≤A.length }) (fun j=>⟨223,wT xs A Q fe pe++[(22,.c (.v (.int .i64 0))),(23,.c (.v (.int .i64 (j.1:Nat))))],wO xs A Q (bA A (1000:Int) A.length) (bA A (1001:Int) A.length) (bA Q (1002:Int) Q.length) (bA Q (1003:Int) Q.length),[(0,.one (arrOf Cl.enc 9 xs cl0)),(1,.one (arrOf Cl.enc 9 os cl0))],[],12⟩) (fun j=>A.length - j.1) ⟨0,by omega⟩ (le_tr (keep_out (y:=(6,0,0)) (z:=(12,0,0)) (k:=Q.length) (s:=1) (ty:=3) (L:=Q.length+20) (f:=fW Q (1003:Int) Q.length) rfl ⟨rfl,rfl⟩) (le_ren id rfl rfl (by simp [wT,St.putT,setL,TmpsLe,look,SV.ren,SC.ren,idσ,SV.okN,SC.okN]) (wO_le (fun i h=>Nat.lt_of_lt_of_le h (show 12≤12 by decide)) (fun i h=>rfl) rfl rfl rfl rfl (bA_le fun _ _=>rfl) (bA_le fun _ _=>rfl) (bA_le fun _ _=>rfl) (bA_le fun _ _=>rfl) ⟨rfl,rfl,⟨_,rfl,fun e _=>rfl⟩,_,rfl,fun e _=>rfl⟩) (arrs2_le (fun i h=>Nat.lt_of_lt_of_le h (show 12≤12 by decide)) rfl rfl rfl rfl) rfl)) ?_
 rintro ⟨j,hj⟩
 simp (maxSteps:=2000000) only [go_sem,↓reduceIte,Nat.reduceLT,Nat.reduceLeDiff,Nat.reduceAdd,Nat.reduceSub,Nat.reduceMul,Nat.reduceEqDiff,reduceCtorEq,Int.reduceToNat,Int.reduceEq,Int.reduceBEq,Int.reduceBNe,Int.reduceLT,Int.reduceLE,Int.reduceNeg,Int.reduceAdd,Int.reduceSub,Int.reduceMul,Int.reduceGE,Int.reduceGT,Cl.enc,iv,endO,wT,wO,wR,bA,kA,fW,List.cons_append,List.nil_append]
 refine both (fun hjl=>?_) (fun hjg=>?_)
 ·have hjl:j<A.length:=of_decide_eq_true hjl
  refine And.intro ⟨hjl,Nat.le_refl _⟩ (And.intro hjl (both (fun hne=>?_) (fun _=>?_)))
  ·exfalso;rw [if_pos hjl] at hne;simp at hne
  rw [wr_succ (by omega)]
  exact backI ⟨j+1,hjl⟩ (by simp only;omega) (le_ren id rfl rfl (by simp [wT,St.putT,setL,TmpsLe,look,SV.ren,SC.ren,idσ,SV.okN,SC.okN]) (wO_le (fun i h=>Nat.lt_of_lt_of_le h (show 12≤12 by decide)) (fun i h=>rfl) rfl rfl rfl rfl (bA_le fun _ _=>rfl) (bA_le fun _ _=>rfl) (bA_le fun _ _=>rfl) (bA_le fun _ _=>rfl) ⟨rfl,rfl,⟨_,rfl,fun e _=>rfl⟩,_,rfl,fun e _=>rfl⟩) (arrs2_le (fun i h=>Nat.lt_of_lt_of_le h (show 12≤12 by decide)) rfl rfl rfl rfl) rfl)
 have hje:j=A.length:=by have:=of_decide_eq_false hjg;omega
 subst hje
 clear hjg hj
 refine hk0 _ ?_
 intro ι1 I1 μ1 i1 hk1
 simp (maxSteps:=2000000) only [go_sem,↓reduceIte,Nat.reduceLT,Nat.reduceLeDiff,Nat.reduceAdd,Nat.reduceSub,Nat.reduceMul,Nat.reduceEqDiff,reduceCtorEq,Int.reduceToNat,Int.reduceEq,Int.reduceBEq,Int.reduceBNe,Int.reduceLT,Int.reduceLE,Int.reduceNeg,Int.reduceAdd,Int.reduceSub,Int.reduceMul,Int.reduceGE,Int.reduceGT,Cl.enc,iv,endO,wT,wO,wR,bA,kA,List.cons_append,List.nil_append]
 refine loopI (ι:={ j:Nat // j≤A.length }) (fun j=>⟨223,wT xs A Q fe pe++[(22,.c (.v (.int .i64 1))),(23,.c (.v (.int .i64 (j.1:Nat))))],wO xs A Q (bA A (1000:Int) A.length) (bA A (1001:Int) A.length) (bA Q (1002:Int) Q.length) (bA Q (1003:Int) Q.length),[(0,.one (arrOf Cl.enc 9 xs cl0)),(1,.one (arrOf Cl.enc 9 os cl0))],[],12⟩) (fun j=>A.length - j.1) ⟨0,by omega⟩ ((le_ren id rfl rfl (by simp [wT,St.putT,setL,TmpsLe,look,SV.ren,SC.ren,idσ,SV.okN,SC.okN]) (wO_le (fun i h=>Nat.lt_of_lt_of_le h (show 12≤12 by decide)) (fun i h=>rfl) rfl rfl rfl rfl (bA_le fun _ _=>rfl) (bA_le fun _ _=>rfl) (bA_le fun _ _=>rfl) (bA_le fun _ _=>rfl) ⟨rfl,rfl,⟨_,rfl,fun e _=>rfl⟩,_,rfl,fun e _=>rfl⟩) (arrs2_le (fun i h=>Nat.lt_of_lt_of_le h (show 12≤12 by decide)) rfl rfl rfl rfl) rfl)) ?_
 rintro ⟨j,hj⟩
 simp (maxSteps:=2000000) only [go_sem,↓reduceIte,Nat.reduceLT,Nat.reduceLeDiff,Nat.reduceAdd,Nat.reduceSub,Nat.reduceMul,Nat.reduceEqDiff,reduceCtorEq,Int.reduceToNat,Int.reduceEq,Int.reduceBEq,Int.reduceBNe,Int.reduceLT,Int.reduceLE,Int.reduceNeg,Int.reduceAdd,Int.reduceSub,Int.reduceMul,Int.reduceGE,Int.reduceGT,Cl.enc,iv,endO,wT,wO,wR,bA,kA,fW,List.cons_append,List.nil_append]
 refine both (fun hjl=>?_) (fun hjg=>?_)
 ·have hjl:j<A.length:=of_decide_eq_true hjl
  refine And.intro ⟨hjl,Nat.le_refl _⟩ (And.intro hjl (both (fun hne=>?_) (fun _=>?_)))
  ·exfalso;rw [if_pos hjl] at hne;simp at hne
  rw [wr_succ (by omega)]
  exact backI ⟨j+1,hjl⟩ (by simp only;omega) (le_ren id rfl rfl (by simp [wT,St.putT,setL,TmpsLe,look,SV.ren,SC.ren,idσ,SV.okN,SC.okN]) (wO_le (fun i h=>Nat.lt_of_lt_of_le h (show 12≤12 by decide)) (fun i h=>rfl) rfl rfl rfl rfl (bA_le fun _ _=>rfl) (bA_le fun _ _=>rfl) (bA_le fun _ _=>rfl) (bA_le fun _ _=>rfl) ⟨rfl,rfl,⟨_,rfl,fun e _=>rfl⟩,_,rfl,fun e _=>rfl⟩) (arrs2_le (fun i h=>Nat.lt_of_lt_of_le h (show 12≤12 by decide)) rfl rfl rfl rfl) rfl)
 have hje:j=A.length:=by have:=of_decide_eq_false hjg;omega
 subst hje
 clear hjg hj
 refine hk1 _ ?_
 intro ι2 I2 μ2 i2 hk2
 simp (maxSteps:=2000000) only [go_sem,↓reduceIte,Nat.reduceLT,Nat.reduceLeDiff,Nat.reduceAdd,Nat.reduceSub,Nat.reduceMul,Nat.reduceEqDiff,reduceCtorEq,Int.reduceToNat,Int.reduceEq,Int.reduceBEq,Int.reduceBNe,Int.reduceLT,Int.reduceLE,Int.reduceNeg,Int.reduceAdd,Int.reduceSub,Int.reduceMul,Int.reduceGE,Int.reduceGT,Cl.enc,iv,endO,wT,wO,wR,bA,kA,List.cons_append,List.nil_append]
 refine loopI (ι:={ j:Nat // j≤Q.length }) (fun j=>⟨223,wT xs A Q fe pe++[(22,.c (.v (.int .i64 2))),(23,.c (.v (.int .i64 (j.1:Nat))))],wO xs A Q (bA A (1000:Int) A.length) (bA A (1001:Int) A.length) (bA Q (1002:Int) Q.length) (bA Q (1003:Int) Q.length),[(0,.one (arrOf Cl.enc 9 xs cl0)),(1,.one (arrOf Cl.enc 9 os cl0))],[],12⟩) (fun j=>Q.length - j.1) ⟨0,by omega⟩ ((le_ren id rfl rfl (by simp [wT,St.putT,setL,TmpsLe,look,SV.ren,SC.ren,idσ,SV.okN,SC.okN]) (wO_le (fun i h=>Nat.lt_of_lt_of_le h (show 12≤12 by decide)) (fun i h=>rfl) rfl rfl rfl rfl (bA_le fun _ _=>rfl) (bA_le fun _ _=>rfl) (bA_le fun _ _=>rfl) (bA_le fun _ _=>rfl) ⟨rfl,rfl,⟨_,rfl,fun e _=>rfl⟩,_,rfl,fun e _=>rfl⟩) (arrs2_le (fun i h=>Nat.lt_of_lt_of_le h (show 12≤12 by decide)) rfl rfl rfl rfl) rfl)) ?_
 rintro ⟨j,hj⟩
 simp (maxSteps:=2000000) only [go_sem,↓reduceIte,Nat.reduceLT,Nat.reduceLeDiff,Nat.reduceAdd,Nat.reduceSub,Nat.reduceMul,Nat.reduceEqDiff,reduceCtorEq,Int.reduceToNat,Int.reduceEq,Int.reduceBEq,Int.reduceBNe,Int.reduceLT,Int.reduceLE,Int.reduceNeg,Int.reduceAdd,Int.reduceSub,Int.reduceMul,Int.reduceGE,Int.reduceGT,Cl.enc,iv,endO,wT,wO,wR,bA,kA,fW,List.cons_append,List.nil_append]
 refine both (fun hjl=>?_) (fun hjg=>?_)
 ·have hjl:j<Q.length:=of_decide_eq_true hjl
  refine And.intro ⟨hjl,Nat.le_refl _⟩ (And.intro hjl (both (fun hne=>?_) (fun _=>?_)))
  ·exfalso;rw [if_pos hjl] at hne;simp at hne
  rw [wr_succ (by omega)]
  exact backI ⟨j+1,hjl⟩ (by simp only;omega) (le_ren id rfl rfl (by simp [wT,St.putT,setL,TmpsLe,look,SV.ren,SC.ren,idσ,SV.okN,SC.okN]) (wO_le (fun i h=>Nat.lt_of_lt_of_le h (show 12≤12 by decide)) (fun i h=>rfl) rfl rfl rfl rfl (bA_le fun _ _=>rfl) (bA_le fun _ _=>rfl) (bA_le fun _ _=>rfl) (bA_le fun _ _=>rfl) ⟨rfl,rfl,⟨_,rfl,fun e _=>rfl⟩,_,rfl,fun e _=>rfl⟩) (arrs2_le (fun i h=>Nat.lt_of_lt_of_le h (show 12≤12 by decide)) rfl rfl rfl rfl) rfl)
 have hje:j=Q.length:=by have:=of_decide_eq_false hjg;omega
 subst hje
 clear hjg hj
 refine hk2 _ ?_
 intro ι3 I3 μ3 i3 hk3
 simp (maxSteps:=2000000) only [go_sem,↓reduceIte,Nat.reduceLT,Nat.reduceLeDiff,Nat.reduceAdd,Nat.reduceSub,Nat.reduceMul,Nat.reduceEqDiff,reduceCtorEq,Int.reduceToNat,Int.reduceEq,Int.reduceBEq,Int.reduceBNe,Int.reduceLT,Int.reduceLE,Int.reduceNeg,Int.reduceAdd,Int.reduceSub,Int.reduceMul,Int.reduceGE,Int.reduceGT,Cl.enc,iv,endO,wT,wO,wR,bA,kA,List.cons_append,List.nil_append]
 refine loopI (ι:={ j:Nat // j≤Q.length }) (fun j=>⟨223,wT xs A Q fe pe++[(22,.c (.v (.int .i64 3))),(23,.c (.v (.int .i64 (j.1:Nat))))],wO xs A Q (bA A (1000:Int) A.length) (bA A (1001:Int) A.length) (bA Q (1002:Int) Q.length) (bA Q (1003:Int) Q.length),[(0,.one (arrOf Cl.enc 9 xs cl0)),(1,.one (arrOf Cl.enc 9 os cl0))],[],12⟩) (fun j=>Q.length - j.1) ⟨0,by omega⟩ ((le_ren id rfl rfl (by simp [wT,St.putT,setL,TmpsLe,look,SV.ren,SC.ren,idσ,SV.okN,SC.okN]) (wO_le (fun i h=>Nat.lt_of_lt_of_le h (show 12≤12 by decide)) (fun i h=>rfl) rfl rfl rfl rfl (bA_le fun _ _=>rfl) (bA_le fun _ _=>rfl) (bA_le fun _ _=>rfl) (bA_le fun _ _=>rfl) ⟨rfl,rfl,⟨_,rfl,fun e _=>rfl⟩,_,rfl,fun e _=>rfl⟩) (arrs2_le (fun i h=>Nat.lt_of_lt_of_le h (show 12≤12 by decide)) rfl rfl rfl rfl) rfl)) ?_
 rintro ⟨j,hj⟩
 simp (maxSteps:=2000000) only [go_sem,↓reduceIte,Nat.reduceLT,Nat.reduceLeDiff,Nat.reduceAdd,Nat.reduceSub,Nat.reduceMul,Nat.reduceEqDiff,reduceCtorEq,Int.reduceToNat,Int.reduceEq,Int.reduceBEq,Int.reduceBNe,Int.reduceLT,Int.reduceLE,Int.reduceNeg,Int.reduceAdd,Int.reduceSub,Int.reduceMul,Int.reduceGE,Int.reduceGT,Cl.enc,iv,endO,wT,wO,wR,bA,kA,fW,List.cons_append,List.nil_append]
 refine both (fun hjl=>?_) (fun hjg=>?_)
 ·have hjl:j<Q.length:=of_decide_eq_true hjl
  refine And.intro ⟨hjl,Nat.le_refl _⟩ (And.intro hjl (both (fun hne=>?_) (fun _=>?_)))
  ·exfalso;rw [if_pos hjl] at hne;simp at hne
  rw [wr_succ (by omega)]
  exact backI ⟨j+1,hjl⟩ (by simp only;omega) (le_ren id rfl rfl (by simp [wT,St.putT,setL,TmpsLe,look,SV.ren,SC.ren,idσ,SV.okN,SC.okN]) (wO_le (fun i h=>Nat.lt_of_lt_of_le h (show 12≤12 by decide)) (fun i h=>rfl) rfl rfl rfl rfl (bA_le fun _ _=>rfl) (bA_le fun _ _=>rfl) (bA_le fun _ _=>rfl) (bA_le fun _ _=>rfl) ⟨rfl,rfl,⟨_,rfl,fun e _=>rfl⟩,_,rfl,fun e _=>rfl⟩) (arrs2_le (fun i h=>Nat.lt_of_lt_of_le h (show 12≤12 by decide)) rfl rfl rfl rfl) rfl)
 have hje:j=Q.length:=by have:=of_decide_eq_false hjg;omega
 subst hje
 clear hjg hj
 refine hk3 _ ?_
 intro ι I μ i hk
 simp (maxSteps:=2000000) only [go_sem,↓reduceIte,Nat.reduceLT,Nat.reduceLeDiff,Nat.reduceAdd,Nat.reduceSub,Nat.reduceMul,Nat.reduceEqDiff,reduceCtorEq,Int.reduceToNat,Int.reduceEq,Int.reduceBEq,Int.reduceBNe,Int.reduceLT,Int.reduceLE,Int.reduceNeg,Int.reduceAdd,Int.reduceSub,Int.reduceMul,Int.reduceGE,Int.reduceGT,Cl.enc,iv,endO]
 clear hk hk0 hk1 hk2 hk3
 refine callN 1 (leT 1 A.length fe) (lsO 3 1 eI A 0) (fun E a w' hs=>hfind w' _ (arr_tw hs 2 rfl)) ?_
 simp (maxSteps:=2000000) only [go_sem,↓reduceIte,Nat.reduceLT,Nat.reduceLeDiff,Nat.reduceAdd,Nat.reduceSub,Nat.reduceMul,Nat.reduceEqDiff,reduceCtorEq,Int.reduceToNat,Int.reduceEq,Int.reduceBEq,Int.reduceBNe,Int.reduceLT,Int.reduceLE,Int.reduceNeg,Int.reduceAdd,Int.reduceSub,Int.reduceMul,Int.reduceGE,Int.reduceGT,Cl.enc,iv,endO,leT,lsO]
 refine callN 1 (leT 1 Q.length pe) (lsO 3 1 eI Q 0) (fun E a w' hs=>hpts w' _ (arr_tw hs 2 rfl)) ?_
 simp (maxSteps:=2000000) only [go_sem,↓reduceIte,Nat.reduceLT,Nat.reduceLeDiff,Nat.reduceAdd,Nat.reduceSub,Nat.reduceMul,Nat.reduceEqDiff,reduceCtorEq,Int.reduceToNat,Int.reduceEq,Int.reduceBEq,Int.reduceBNe,Int.reduceLT,Int.reduceLE,Int.reduceNeg,Int.reduceAdd,Int.reduceSub,Int.reduceMul,Int.reduceGE,Int.reduceGT,Cl.enc,iv,endO,leT,lsO,bne_self_eq_false,beq_self_eq_true]
 refine guardW (.c (.v (.bool true))) (.bool true) (fun E=>rfl) (fun E a w' hs=>by
  have:=same_calls w' _ _ A A (own_at (d:=0) hs 12 _ rfl rfl) (own_at (d:=0) hs 8 _ rfl rfl)
  rw [decide_eq_true rfl] at this
  exact this) ?_
 simp (maxSteps:=2000000) only [go_sem,↓reduceIte,Nat.reduceLT,Nat.reduceLeDiff,Nat.reduceAdd,Nat.reduceSub,Nat.reduceMul,Nat.reduceEqDiff,reduceCtorEq,Int.reduceToNat,Int.reduceEq,Int.reduceBEq,Int.reduceBNe,Int.reduceLT,Int.reduceLE,Int.reduceNeg,Int.reduceAdd,Int.reduceSub,Int.reduceMul,Int.reduceGE,Int.reduceGT,Cl.enc,iv,endO]
 refine guardW (.c (.v (.bool true))) (.bool true) (fun E=>rfl) (fun E a w' hs=>by
  have:=same_calls w' _ _ Q Q (own_at (d:=0) hs 13 _ rfl rfl) (own_at (d:=0) hs 10 _ rfl rfl)
  rw [decide_eq_true rfl] at this
  exact this) ?_
 simp (maxSteps:=2000000) only [go_sem,↓reduceIte,Nat.reduceLT,Nat.reduceLeDiff,Nat.reduceAdd,Nat.reduceSub,Nat.reduceMul,Nat.reduceEqDiff,reduceCtorEq,Int.reduceToNat,Int.reduceEq,Int.reduceBEq,Int.reduceBNe,Int.reduceLT,Int.reduceLE,Int.reduceNeg,Int.reduceAdd,Int.reduceSub,Int.reduceMul,Int.reduceGE,Int.reduceGT,Cl.enc,iv,endO]
 refine guardW (.c (.v (.bool true))) _ (fun E=>rfl) (fun E a w' hs=>uns hs rfl rfl) ?_
 simp (maxSteps:=2000000) only [go_sem,↓reduceIte,Nat.reduceLT,Nat.reduceLeDiff,Nat.reduceAdd,Nat.reduceSub,Nat.reduceMul,Nat.reduceEqDiff,reduceCtorEq,Int.reduceToNat,Int.reduceEq,Int.reduceBEq,Int.reduceBNe,Int.reduceLT,Int.reduceLE,Int.reduceNeg,Int.reduceAdd,Int.reduceSub,Int.reduceMul,Int.reduceGE,Int.reduceGT,Cl.enc,iv,endO]
 refine loopI (ι:={ j:Nat // j≤xs.length∧j≤os.length }) (fun j=>⟨223,[(1,.c (.xv (1,0,0))),(5,.c (.sl (2,0,0) 9 0 xs.length none)),(28,.c (.v (.int .i64 (j.1:Nat))))],[(2,.one (.ar (xs++[mark]).length 9 (mxA xs os j.1) 53))],[(0,.one (arrOf Cl.enc 9 xs cl0)),(1,.one (arrOf Cl.enc 9 os cl0))],[],3⟩) (fun j=>xs.length - j.1) ⟨0,by omega⟩ (le_ren id rfl rfl (by simp [St.putT,setL,TmpsLe,look,SV.ren,SC.ren,idσ,SV.okN,SC.okN]) (mx_le rfl (fun e _=>mxA_0) (show 2<3 by decide)) (arrs2_le' rfl rfl rfl rfl) rfl) ?_
 rintro ⟨j,hj,hj'⟩
 simp (maxSteps:=2000000) only [go_sem,↓reduceIte,Nat.reduceLT,Nat.reduceLeDiff,Nat.reduceAdd,Nat.reduceSub,Nat.reduceMul,Nat.reduceEqDiff,reduceCtorEq,Int.reduceToNat,Int.reduceEq,Int.reduceBEq,Int.reduceBNe,Int.reduceLT,Int.reduceLE,Int.reduceNeg,Int.reduceAdd,Int.reduceSub,Int.reduceMul,Int.reduceGE,Int.reduceGT,Cl.enc,iv,endO]
 refine both (fun hlt=>?_) (fun hge=>?_)
 ·have hlt:j<xs.length∧j<os.length:=by simpa using hlt
  refine And.intro hlt.2 (And.intro hlt.2 (And.intro ⟨hlt.1,by simp⟩ (And.intro (by simp;omega) ?_)))
  rw [wr_succ (by omega)]
  exact backI ⟨j+1,hlt⟩ (by simp only;omega) (le_ren id rfl rfl (by simp [St.putT,setL,TmpsLe,look,SV.ren,SC.ren,idσ,SV.okN,SC.okN]) (mx_le rfl (fun e _=>mxA_set) (show 2<3 by decide)) (arrs2_le' rfl rfl rfl rfl) rfl)
 clear hge
 have hyl:(os.take j++xs.drop j).length=xs.length:=by simp;omega
 have hY:∀ {C:Ctx} {E:Env} {S:St} {a:Act} {w' : World},Sat C.B C.W C.w0 E S a w'→look S.own 2=some (.one (.ar (xs++[mark]).length 9 (mxA xs os j) 53))→Arr w' Cl.enc 9 ((SC.sl (2,0,0) 9 0 xs.length none).den E) (os.take j++xs.drop j):=fun hs h0 =>
  arr_own (d:=cl0) hs 2 _ _ _ h0 hyl.symm (by rw [hyl];simp) (fun e he=>mx_ats hj hj' he)
 generalize hys:os.take j++xs.drop j=ys at hyl hY
 refine callN 1 (leT 1 (findL ys).length (findE ys)) (lsO 3 1 eI (findL ys) 0) (fun E a w' hs=>find_calls w' _ ys (by omega) (hY hs rfl)) ?_
 simp (maxSteps:=2000000) only [go_sem,↓reduceIte,Nat.reduceLT,Nat.reduceLeDiff,Nat.reduceAdd,Nat.reduceSub,Nat.reduceMul,Nat.reduceEqDiff,reduceCtorEq,Int.reduceToNat,Int.reduceEq,Int.reduceBEq,Int.reduceBNe,Int.reduceLT,Int.reduceLE,Int.reduceNeg,Int.reduceAdd,Int.reduceSub,Int.reduceMul,Int.reduceGE,Int.reduceGT,Cl.enc,iv,endO,leT,lsO]
 refine callN 1 (lsT 9 ys.length) (lsO 53 9 Cl.enc (ys++[mark]) cl0) (fun E a w' hs=>twin_calls w' _ ys (hY hs rfl) (by omega)) ?_
 simp (maxSteps:=2000000) only [go_sem,↓reduceIte,Nat.reduceLT,Nat.reduceLeDiff,Nat.reduceAdd,Nat.reduceSub,Nat.reduceMul,Nat.reduceEqDiff,reduceCtorEq,Int.reduceToNat,Int.reduceEq,Int.reduceBEq,Int.reduceBNe,Int.reduceLT,Int.reduceLE,Int.reduceNeg,Int.reduceAdd,Int.reduceSub,Int.reduceMul,Int.reduceGE,Int.reduceGT,Cl.enc,iv,endO,lsT,lsO]
 refine callN 1 (leT 1 (findL ys).length (findE ys)) (lsO 3 1 eI (findL ys) 0) (fun E a w' hs=>find_calls w' _ ys (by omega) (arr_tw hs 4 rfl)) ?_
 simp (maxSteps:=2000000) only [go_sem,↓reduceIte,Nat.reduceLT,Nat.reduceLeDiff,Nat.reduceAdd,Nat.reduceSub,Nat.reduceMul,Nat.reduceEqDiff,reduceCtorEq,Int.reduceToNat,Int.reduceEq,Int.reduceBEq,Int.reduceBNe,Int.reduceLT,Int.reduceLE,Int.reduceNeg,Int.reduceAdd,Int.reduceSub,Int.reduceMul,Int.reduceGE,Int.reduceGT,Cl.enc,iv,endO,leT,lsO]
 refine guardW (.c (.v (.bool true))) (.bool true) (fun E=>rfl) (fun E a w' hs=>by
  have:=same_calls w' _ _ (findL ys) (findL ys) (own_at (d:=0) hs 3 _ rfl rfl) (own_at (d:=0) hs 5 _ rfl rfl)
  rw [decide_eq_true rfl] at this
  exact this) ?_
 simp (maxSteps:=2000000) only [go_sem,↓reduceIte,Nat.reduceLT,Nat.reduceLeDiff,Nat.reduceAdd,Nat.reduceSub,Nat.reduceMul,Nat.reduceEqDiff,reduceCtorEq,Int.reduceToNat,Int.reduceEq,Int.reduceBEq,Int.reduceBNe,Int.reduceLT,Int.reduceLE,Int.reduceNeg,Int.reduceAdd,Int.reduceSub,Int.reduceMul,Int.reduceGE,Int.reduceGT,Cl.enc,iv,endO]
 exact retV fun E=>by simp [SV.den,SC.den]
end Go.Proofs.Ytkjeedlkkpgopaa.Z
namespace Go.Proofs.Ytkjeedlkkpgopaa.Z
open Go Go.RowKit Go.ChangeShapes Go.WideShapes Go.ChangeAt
theorem own:ownKnob Try.prog.godebug=none:=by kernel_rfl
theorem laidOut:laidOutB Try.prog=true:=by kernel_rfl
theorem leavesCl:leavesIn Try.prog 9 53=some [3,48,3,3,3,3,3,49,3]:=by kernel_rfl
theorem cellsCl:Try.prog.cellsOf 53=9:=by kernel_rfl
theorem bytesCl:Try.prog.bytesOf 53=72:=by kernel_rfl
section
variable {H:Type} {enc:TypeId×Value→H} {w:World}
theorem leavesCs:leavesIn Try.prog 9 22=some [22]:=by kernel_rfl
theorem reach_len {α:Type} {x:List α} {s:Nat} {ws:List Nat} (hr:∀ k∈ws,k≤reachBytes) (h:x=[]∨∃ k∈ws,x.length * s≤k):x.length * s≤140737488351232:=by
 rcases h with rfl | ⟨k,hk,h⟩
 ·simp
 ·have:=hr k hk
  unfold reachBytes at this
  omega
theorem lit_rng {n:Int} (h:(Lit.int .i64 n).wf=true) : -9223372036854775808≤n∧n≤9223372036854775807:=by
 simp [Lit.wf,IntKind.min,IntKind.max,IntKind.signed,IntKind.bits] at h
 omega
def ClR (c:Cl):Prop:=c.beg≤9223372036854775807∧c.fin≤9223372036854775807∧c.point≤9223372036854775807
theorem leaf_calls {b:Nat} {ws:List Nat} {c:Value} (h:LeafAt enc Try.prog w 0 (fun _=>true) true b ws 22 c) :
  ∃ xs:List Cl,Arr w Cl.enc 9 c xs∧(∀ c∈xs,ClR c)∧xs.length+1≤b∧(xs=[]∨∃ k∈ws,xs.length * 72≤k):=by
 obtain ⟨xs,h1,h4,h2,h3⟩:=h.slice (α:=Cl) Try.underlying22 (by decide) cellsCl Cl.enc ClR (fun m cs y hl ht=>by
  match cs,hl with
  | [c0,c1,c2,c3,c4,c5,c6,c7,c8],_ =>
   have L:=leaf_of 9 _ _ leavesCl m _ _ ht
   obtain ⟨x0,rfl,_⟩:=(L 0 _ c0 rfl rfl).int Try.underlying3
   obtain ⟨x1,rfl,_⟩:=(L 1 _ c1 rfl rfl).int Try.underlying48
   obtain ⟨x2,rfl,_⟩:=(L 2 _ c2 rfl rfl).int Try.underlying3
   obtain ⟨x3,rfl,_⟩:=(L 3 _ c3 rfl rfl).int Try.underlying3
   obtain ⟨x4,rfl,r4⟩:=(L 4 _ c4 rfl rfl).int Try.underlying3
   obtain ⟨x5,rfl,r5⟩:=(L 5 _ c5 rfl rfl).int Try.underlying3
   obtain ⟨x6,rfl,r6⟩:=(L 6 _ c6 rfl rfl).int Try.underlying3
   obtain ⟨x7,rfl,_⟩:=(L 7 _ c7 rfl rfl).int Try.underlying49
   obtain ⟨x8,rfl,_⟩:=(L 8 _ c8 rfl rfl).int Try.underlying3
   exact ⟨⟨x0,x1,x2,x3,x4,x5,x6,x7,x8⟩,rfl,(lit_rng r4).2,(lit_rng r5).2,(lit_rng r6).2⟩)
 rw [bytesCl] at h3
 exact ⟨xs,h1,h4,h2,h3⟩
set_option maxRecDepth 100000 in
theorem open_callsR {base:Nat} {v:Value} {d:DataW H} {p:List MemPlace} (hv:Value.okWide Try.prog w .any base 22 v) (h:DataW.Trod enc Try.prog w 0 (fun _=>true) true 22 v d p) :
  ∃ xs,Arr w Cl.enc 9 v xs∧(∀ c∈xs,ClR c)∧((∀ k∈d.weights Try.prog 22,k≤reachBytes)→xs.length * 72≤140737488351232):=by
 obtain ⟨ba,len,cap,rfl⟩:=okWide_slice Try.underlying22 hv
 obtain ⟨fuel,hf⟩:=h
 obtain ⟨xs,h1,h4,_,h2⟩:=leaf_calls (leaf_of 9 _ _ leavesCs fuel _ _ hf 0 22 _ rfl rfl)
 exact ⟨xs,h1,h4,fun hr=>reach_len hr h2⟩
end
end Go.Proofs.Ytkjeedlkkpgopaa.Z
