/- TsoFreshSaid: what its proof is made of. No condition. -/
import Derived.Test.YtmcpdafmkkjlcaaPkTTsoFreshAQ
set_option linter.unusedSimpArgs false
set_option linter.unusedVariables false
namespace Go.Proofs.Ytmcpdafmkkjlcaa.Z
open Go Go.RowKit
def FinR (L:Lt) (o:Int) (w:World) (e:Ending) (w' : World):Prop:=match bfs L o with
 | some l=>RetN w 3 (leT 2 (finsL L (l.map (·.s))).length 0) (fun b=>foO b (finsL L (l.map (·.s)))) e w'
 | none=>RetV w (.tuple #[.slice none 0 0,.int .i64 192]) e w'
def rfB (n:Nat):Own:=[(3,.one (.bk [.xv (0,0,0),.xv (1,0,0)] 25)),(12,.one (.bk (fdC 4 10 11 n) 105))]
def rfS (l:List Sp) (out:List Fn):Own:=foO 13 out++(rfB l.length++alO 4 l)
def rfTm (i m:Nat):List (Nat×SV):=[(2,.c (.ptr (3,0,0) 0)),(7,.c (.ptr (12,0,0) 0)),(9,.c (.sl (13,0,0) 2 0 m none)),(10,.c (.v (.int .i64 i)))]
theorem rfB_le {q:Nat→Prop} {σ:Nm→Nm} {own:Own} {n:Nat} (hq:∀ i,i<13→q i) (hσ:∀ i k e,i<13→σ (i,k,e)=(i,k,e)) (h3:look own 3=some (.one (.bk [.xv (0,0,0),.xv (1,0,0)] 25))) (h12:look own 12=some (.one (.bk (fdC 4 10 11 n) 105))):OwnLe q σ own (rfB n):=by
 refine ⟨⟨hq _ (by decide),?_⟩,⟨hq _ (by decide),?_⟩,trivial⟩
 ·rw [hσ _ _ _ (by decide)];simp only [atN,h3,Fm.get,and_self,if_true]
  exact ⟨by simp only [SC.renL,SC.ren];rw [hσ 0 _ _ (by decide),hσ 1 _ _ (by decide)],rfl,by simp [SC.okL,SC.okN,hq 0,hq 1]⟩
 ·rw [hσ _ _ _ (by decide)];simp only [atN,h12,Fm.get,and_self,if_true]
  exact ⟨by simp only [fdC,SC.renL,SC.ren];rw [hσ 4 _ _ (by decide),hσ 10 _ _ (by decide),hσ 11 _ _ (by decide)],rfl,by simp [fdC,SC.okL,SC.okN,hq 4,hq 10,hq 11]⟩
theorem alO4_le {q:Nat→Prop} {σ:Nm→Nm} {own:Own} {l:List Sp} (hq:∀ i,i<13→q i) (hσ:∀ i k e,i<13→σ (i,k,e)=(i,k,e)) (h4:look own 4=some (.one (.ar l.length 4 (alC 4 l) 32))) (h5:look own 5=some (.fam l.length (wlW l))) (h6:look own 6=some (.fam l.length (wlR l))) (h7:look own 7=some (.fam l.length (wlP l))) (h8:look own 8=some (.fam l.length (wlB 9 l))) (h9:look own 9=some (.fam2 l.length (wlN l) (wlF l))):OwnLe q σ own (alO 4 l):=by
 refine ⟨⟨hq _ (by decide),?_⟩,⟨hq _ (by decide),fun k hk=>?_⟩,⟨hq _ (by decide),fun k hk=>?_⟩,⟨hq _ (by decide),fun k hk=>?_⟩,⟨hq _ (by decide),fun k hk=>?_⟩,⟨hq _ (by decide),fun k e hk he=>?_⟩,trivial⟩
 ·rw [hσ _ _ _ (by decide)];simp only [atN,h4,Fm.get,and_self,if_true]
  exact ⟨Nat.le_refl _,rfl,rfl,fun e _=>⟨by simp only [alC,SC.renL,SC.ren];rw [hσ (4+1) _ _ (by decide),hσ (4+2) _ _ (by decide),hσ (4+3) _ _ (by decide),hσ (4+4) _ _ (by decide)],by simp [alC,SC.okL,SC.okN,hq 5,hq 6,hq 7,hq 8]⟩⟩
 ·rw [hσ _ _ _ (by decide)];simp only [Nat.reduceAdd,atN,h5,Fm.get,hk,and_self,if_true];exact arLe_same
 ·rw [hσ _ _ _ (by decide)];simp only [Nat.reduceAdd,atN,h6,Fm.get,hk,and_self,if_true];exact arLe_same
 ·rw [hσ _ _ _ (by decide)];simp only [Nat.reduceAdd,atN,h7,Fm.get,hk,and_self,if_true];exact arLe_same
 ·rw [hσ _ _ _ (by decide)];simp only [Nat.reduceAdd,atN,h8,Fm.get,hk,and_self,if_true]
  exact ⟨Nat.le_refl _,rfl,rfl,fun e _=>⟨by simp only [SC.renL,SC.ren];rw [hσ 9 _ _ (by decide)],by simp [SC.okL,SC.okN,hq 9]⟩⟩
 ·rw [hσ _ _ _ (by decide)];simp only [Nat.reduceAdd,atN,h9,Fm.get,hk,he,and_self,if_true];exact arLe_same
theorem arr_ltσ {q:Nat→Prop} {σ:Nm→Nm} {L:Lt} {arrs:List (Nat×Fm ArrF)} (hq:∀ i,i<3→q i) (hσ:∀ i k e,i<3→σ (i,k,e)=(i,k,e)) (h0:look arrs 0=some (.one (arrOf eI 1 L.words 0))) (h1:look arrs 1=some (.one (nestF 2 L.thr.length))) (h2:look arrs 2=some (.fam L.thr.length fun k=>arrOf Ins.enc 7 (L.thr.getD k []) in0)):ArrsLe q σ arrs (ltA 0 L):=by
 have e:∀ {α:Type} {enc:α→List Value} {s:Nat} {xs:List α} {d:α},ArrLe q σ (arrOf enc s xs d) (arrOf enc s xs d):=fun {α enc s xs d}=>⟨rfl,rfl,fun e _=>⟨(renL_v _ _).symm,okL_v _ _⟩,Nat.le_refl _⟩
 refine ⟨⟨hq 0 (by decide),?_⟩,⟨hq 1 (by decide),?_⟩,⟨hq 2 (by decide),fun k hk=>?_⟩,trivial⟩
 ·rw [hσ _ _ _ (by decide)];simp only [atN,h0,Fm.get,and_self,if_true];exact e
 ·rw [hσ _ _ _ (by decide)];simp only [atN,Nat.zero_add,h1,Fm.get,and_self,if_true]
  exact ⟨rfl,rfl,fun e _=>⟨by simp only [nestF,SC.renL,SC.ren];rw [hσ 2 _ _ (by decide)],by simp [nestF,SC.okL,SC.okN,hq 2]⟩,Nat.le_refl _⟩
 ·rw [hσ _ _ _ (by decide)];simp only [atN,Nat.zero_add,h2,Fm.get,hk,and_self,if_true];exact e
theorem rf_same {q:Nat→Prop} {τ:Nat→Nat} {own:Own} {l:List Sp} {out:List Fn} (hq:∀ i,i<16→q i) (hτ:∀ i,i<16→τ i=i) (h3:look own 3=some (.one (.bk [.xv (0,0,0),.xv (1,0,0)] 25))) (h12:look own 12=some (.one (.bk (fdC 4 10 11 l.length) 105))) (h4:look own 4=some (.one (.ar l.length 4 (alC 4 l) 32))) (h5:look own 5=some (.fam l.length (wlW l))) (h6:look own 6=some (.fam l.length (wlR l))) (h7:look own 7=some (.fam l.length (wlP l))) (h8:look own 8=some (.fam l.length (wlB 9 l))) (h9:look own 9=some (.fam2 l.length (wlN l) (wlF l)))
  (h13:look own 13=some (.one (.ar out.length 2 (foC 13 out) 67))) (h14:look own 14=some (.fam out.length (foW out))) (h15:look own 15=some (.fam out.length (foR out))):OwnLe q (idσ τ) own (rfS l out) :=
 have e:∀ i k e,i<13→idσ τ (i,k,e)=(i,k,e):=fun i k e h=>by unfold idσ;rw [hτ i (by omega)]
 ownLe_app (fo_same 13 (hq _ (by decide)) (hq _ (by decide)) (hq _ (by decide)) (hτ _ (by decide)) (hτ _ (by decide)) (hτ _ (by decide)) h13 h14 h15) (ownLe_app (rfB_le (fun i h=>hq i (by omega)) e h3 h12) (alO4_le (fun i h=>hq i (by omega)) e h4 h5 h6 h7 h8 h9))
theorem fo_ret {P:Program} {A:List Nat} {w:World} {rs:List RS} {out:List Fn} {S:St} (h13:look S.own 13=some (.one (.ar out.length 2 (foC 13 out) 67))) (h14:look S.own 14=some (.fam out.length (foW out))) (h15:look S.own 15=some (.fam out.length (foR out))) :
  RetVC (mkC P A w rs (RetN w 3 (leT 2 out.length 0) (fun b=>foO b out))) (.tup [(false,[.sl (13,0,0) 2 0 out.length none]),(false,[.v (.int .i64 0)])]) S:=by
 refine retN (fun j=>j+13) (fun b=>⟨by simp [leT,SV.ren,SC.renL,SC.ren,ren1L,ren1,fromσ],by simp [leT,SV.okN,SC.okL,SC.okN,ok1L,NewIds]⟩) (fun b=>?_) (fun b=>?_)
 ·refine ⟨⟨⟨by omega,by omega⟩,?_⟩,⟨⟨by omega,by omega⟩,fun k hk=>?_⟩,⟨⟨by omega,by omega⟩,fun k hk=>?_⟩,trivial⟩
  ·simp only [fromσ,Nat.sub_self,Nat.zero_add,atN,h13,if_true,Fm.get,and_self]
   exact ⟨Nat.le_refl _,rfl,rfl,fun e he=>⟨by simp [foC,SC.renL,SC.ren,fromσ],by simp [foC,SC.okL,SC.okN,NewIds]⟩⟩
  ·simp only [fromσ,Nat.add_sub_cancel_left,Nat.reduceAdd,atN,h14,if_true,Fm.get,hk,and_self];exact arLe_same
  ·simp only [fromσ,Nat.add_sub_cancel_left,Nat.reduceAdd,atN,h15,if_true,Fm.get,hk,and_self];exact arLe_same
 ·exact injN_from fun x hx y hy e=>by
   simp [foO,keysL] at hx hy
   omega
theorem foσ_lo {a n w r i k e:Nat} (h:i<13):foσ a n w r (i,k,e)=(i,k,e):=by
 unfold foσ
 rw [if_neg (by simp only;omega),if_neg (by simp only;omega)]
theorem rf_ins {own:Own} {l:List Sp} {out:List Fn} {x:Fn} {a n m:Nat} {at_:Nat→List SC} (ha:a≤out.length) (hm:out.length+1≤m) (hn:look own n=some (.one (.ar m 2 at_ 67)))
  (e1:∀ e,e<a→at_ e=foC 13 out e) (e2:at_ a=[.sl (16,0,0) 1 0 x.words.length none,.sl (17,0,0) 4 0 x.regs.length none]) (e3:∀ e,a<e→e<out.length+1→at_ e=foC 13 out (e - 1))
  (h3:look own 3=some (.one (.bk [.xv (0,0,0),.xv (1,0,0)] 25))) (h12:look own 12=some (.one (.bk (fdC 4 10 11 l.length) 105))) (h4:look own 4=some (.one (.ar l.length 4 (alC 4 l) 32))) (h5:look own 5=some (.fam l.length (wlW l))) (h6:look own 6=some (.fam l.length (wlR l))) (h7:look own 7=some (.fam l.length (wlP l))) (h8:look own 8=some (.fam l.length (wlB 9 l))) (h9:look own 9=some (.fam2 l.length (wlN l) (wlF l)))
  (h14:look own 14=some (.fam out.length (foW out))) (h15:look own 15=some (.fam out.length (foR out))) (h16:look own 16=some (.one (.ar x.words.length 1 (ats eI x.words 0) 3))) (h17:look own 17=some (.one (.ar x.regs.length 4 (ats R4.enc x.regs r40) 68))):OwnLe (· < 16) (foσ a n 16 17) own (rfS l (out.take a++x :: out.drop a)) :=
 ownLe_app (fo_ins (by decide) (by decide) (by decide) ha hm hn e1 e2 e3 h16 h17 h14 h15) (ownLe_app (rfB_le (fun i h=>Nat.lt_trans h (by decide)) (fun _ _ _ h=>foσ_lo h) h3 h12) (alO4_le (fun i h=>Nat.lt_trans h (by decide)) (fun _ _ _ h=>foσ_lo h) h4 h5 h6 h7 h8 h9))
theorem rf_inj {l:List Sp} {out:List Fn} {a n:Nat} (hn:17<n):InjN (foσ a n 16 17) (rfS l out):=by
 refine fo_inj ?_ ?_ ?_
 ·have h1:¬ n=16:=by omega
  have h2:¬ n=17:=by omega
  have h3:¬ 16=n:=by omega
  have h4:¬ 17=n:=by omega
  simp [noDup,memB,h3,h4]
 ·intro z hz
  simp at hz
  omega
 ·intro z hz
  simp [keysL,rfB,alO] at hz
  omega
theorem ins_e1 {out:List Fn} {a e:Nat} {g:Nat→List SC} {f:Nat→List SC} (h:e<a):appAt (a+1) (appAt a (fun e=>foC 13 out e) g) f e=foC 13 out e:=by
 unfold appAt;rw [if_pos (by omega),if_pos h]
theorem ins_e2 {out:List Fn} {a:Nat} {g:Nat→List SC} {f:Nat→List SC}:appAt (a+1) (appAt a (fun e=>foC 13 out e) g) f a=g 0:=by
 unfold appAt;rw [if_pos (by omega),if_neg (by omega),Nat.sub_self]
theorem ins_e3 {out:List Fn} {a e:Nat} {g:Nat→List SC} (h:a<e):appAt (a+1) (appAt a (fun e=>foC 13 out e) g) (fun e=>foC 13 out (a+e)) e=foC 13 out (e - 1):=by
 unfold appAt;rw [if_neg (by omega)];simp only;rw [show a+(e - (a+1))=e - 1 by omega]
def ir27:IR:=(.seq (.ops [⟨(some 2),(.box 25 (.t 0)),none⟩,⟨(some 4),(.mv (.k (.c (.v (.slice none 0 0))))),none⟩,⟨(some 5),(.mv (.k (.c (.v (.int .i64 0))))),none⟩]) (.kill [0,3,4,5,6,7,8,9,10,11] (.seq (.ops [⟨(some 14),(.ld true 2 (.t 2)),none⟩,⟨(some 15),(.mv (.t 1)),none⟩,⟨(some 16),(.call 53 [(.t 14),(.t 15)]),none⟩,⟨(some 6),(.mv (.t 16)),none⟩]) (.kill [14,15,16] (.seq (.seq (.ops [⟨(some 17),(.mv (.t 6)),none⟩,⟨(some 18),(.bin .neq (.t 17) (.k (.c (.v (.int .i64 0))))),none⟩]) (.kill [17] (.cond (.t 18) (.seq (.ops [⟨(some 19),(.mv (.t 6)),none⟩,⟨(some 4),(.mv (.k (.c (.v (.slice none 0 0))))),none⟩,⟨(some 5),(.mv (.t 19)),none⟩]) (.kill [1,2,6,18,19] .ret)) .skip))) (.kill [4,5,6,18] (.seq (.ops [⟨(some 21),(.ld true 2 (.t 2)),none⟩,⟨(some 22),(.mv (.t 1)),none⟩,⟨(some 23),(.call 54 [(.t 21),(.t 22)]),none⟩,⟨(some 20),(.mv (.t 23)),none⟩,⟨(some 24),(.ext 0 (.t 20)),none⟩,⟨(some 25),(.ext 1 (.t 20)),none⟩,⟨(some 7),(.new 105 [(.v (.slice none 0 0)),(.v (.slice none 0 0)),(.v (.slice none 0 0))]),none⟩,⟨none,(.st 3 (.t 7) (.t 24)),none⟩,⟨(some 8),(.mv (.t 25)),none⟩]) (.kill [1,20,21,22,23,24,25] (.seq (.seq (.ops [⟨(some 26),(.mv (.t 8)),none⟩,⟨(some 27),(.un .not (.t 26)),none⟩]) (.kill [8,26] (.cond (.t 27) (.seq (.ops [⟨(some 4),(.mv (.k (.c (.v (.slice none 0 0))))),none⟩,⟨(some 5),(.mv (.k (.c (.v (.int .i64 192))))),none⟩]) (.kill [2,7,27] .ret)) .skip))) (.kill [4,5,27] (.seq (.ops [⟨(some 9),(.mv (.k (.c (.v (.slice none 0 0))))),none⟩]) (.seq (.seq (.ops [⟨(some 10),(.mv (.k (.c (.v (.int .i64 0))))),none⟩]) (.blk 0 (.loop (.seq (.seq (.ops [⟨(some 28),(.mv (.t 10)),none⟩,⟨(some 29),(.fa 0 (.t 7)),none⟩,⟨(some 30),(.ld false 1 (.t 29)),none⟩,⟨(some 31),(.len (.t 30)),none⟩,⟨(some 32),(.bin .lss (.t 28) (.t 31)),none⟩]) (.kill [11,12,13,28,29,30,31,33,34,35,36,37,38,39,40,41,42,43,44,45,46,47,48,49,50,51,52,53,54,55,56,57,58,59,60,61,62,63,64,65,66,67,68,69,70,71,72,73,74,75,76,77,78,79,80,81,82,83,84,85,86,87,88,89,90] (.cond (.t 32) .skip (.exit 0)))) (.kill [32] (.seq (.blk 1 (.seq (.seq (.draw [(⟨(some 35),(.ld true 2 (.t 2)),none⟩,([],[36,37,38,39,40])),(⟨(some 36),(.fa 0 (.t 7)),none⟩,([0],[35,38])),(⟨(some 37),(.ld false 1 (.t 36)),none⟩,([0],[35,38])),(⟨(some 38),(.mv (.t 10)),none⟩,([0,1,2],[35,36,37])),(⟨(some 39),(.ia 4 (.t 37) (.t 38)),none⟩,([0],[35])),(⟨(some 40),(.ld true 4 (.t 39)),none⟩,([0],[35])),(⟨(some 41),(.call 55 [(.t 35),(.t 40)]),none⟩,([],[])),(⟨(some 42),(.un .not (.t 41)),none⟩,([],[]))]) (.kill [35,36,37,38,39,40,41] (.cond (.t 42) (.exit 1) .skip))) (.kill [42] (.seq (.ops [⟨(some 43),(.fa 0 (.t 7)),none⟩,⟨(some 44),(.ld false 1 (.t 43)),none⟩,⟨(some 45),(.mv (.t 10)),none⟩,⟨(some 46),(.ia 4 (.t 44) (.t 45)),none⟩,⟨(some 47),(.ld true 4 (.t 46)),none⟩,⟨(some 48),(.call 56 [(.t 47)]),none⟩,⟨(some 11),(.new 67 [(.v (.slice none 0 0)),(.v (.slice none 0 0))]),none⟩,⟨none,(.st 2 (.t 11) (.t 48)),none⟩]) (.kill [43,44,45,46,47,48] (.seq (.ops [⟨(some 12),(.mv (.k (.c (.v (.int .i64 0))))),none⟩]) (.seq (.blk 2 (.loop (.seq (.seq (.draw [(⟨(some 49),(.mv (.t 12)),none⟩,([],[50,51])),(⟨(some 50),(.mv (.t 9)),none⟩,([0],[49])),(⟨(some 51),(.len (.t 50)),none⟩,([0],[49])),(⟨(some 52),(.bin .lss (.t 49) (.t 51)),none⟩,([],[])),(⟨(some 53),(.mv (.t 52)),none⟩,([],[])),(⟨(some 54),(.mv (.t 9)),(some (53,true))⟩,([],[55,59])),(⟨(some 55),(.mv (.t 12)),(some (53,true))⟩,([5],[54,59])),(⟨(some 56),(.ia 2 (.t 54) (.t 55)),(some (53,true))⟩,([],[59])),(⟨(some 57),(.ld true 2 (.t 56)),(some (53,true))⟩,([],[59])),(⟨(some 58),(.call 58 [(.t 57)]),(some (53,true))⟩,([],[59])),(⟨(some 59),(.ld true 2 (.t 11)),(some (53,true))⟩,([5,6,7,8,9],[54,55,56,57,58])),(⟨(some 60),(.call 58 [(.t 59)]),(some (53,true))⟩,([],[])),(⟨(some 61),(.call 57 [(.t 58),(.t 60)]),(some (53,true))⟩,([],[])),(⟨(some 62),(.pick (.t 53) (.t 61) (.k (.c (.v (.bool false))))),none⟩,([],[]))]) (.kill [49,50,51,52,53,54,55,56,57,58,59,60,61,63,64] (.cond (.t 62) .skip (.exit 2)))) (.kill [62] (.blk 3 (.ops [⟨(some 63),(.mv (.t 12)),none⟩,⟨(some 64),(.bin .add (.t 63) (.k (.c (.v (.int .i64 1))))),none⟩,⟨(some 12),(.mv (.t 64)),none⟩])))))) (.kill [49,50,51,52,53,54,55,56,57,58,59,60,61,62,63,64] (.seq (.seq (.draw [(⟨(some 65),(.mv (.t 12)),none⟩,([],[66,67])),(⟨(some 66),(.mv (.t 9)),none⟩,([0],[65])),(⟨(some 67),(.len (.t 66)),none⟩,([0],[65])),(⟨(some 68),(.bin .lss (.t 65) (.t 67)),none⟩,([],[])),(⟨(some 69),(.mv (.t 68)),none⟩,([],[])),(⟨(some 70),(.mv (.t 9)),(some (69,true))⟩,([],[71,74])),(⟨(some 71),(.mv (.t 12)),(some (69,true))⟩,([5],[70,74])),(⟨(some 72),(.ia 2 (.t 70) (.t 71)),(some (69,true))⟩,([],[74])),(⟨(some 73),(.ld true 2 (.t 72)),(some (69,true))⟩,([],[74])),(⟨(some 74),(.ld true 2 (.t 11)),(some (69,true))⟩,([5,6,7,8],[70,71,72,73])),(⟨(some 75),(.call 59 [(.t 73),(.t 74)]),(some (69,true))⟩,([],[])),(⟨(some 76),(.pick (.t 69) (.t 75) (.k (.c (.v (.bool false))))),none⟩,([],[]))]) (.kill [65,66,67,68,69,70,71,72,73,74,75] (.cond (.t 76) (.exit 1) .skip))) (.kill [76] (.seq (.ops [⟨(some 13),(.mv (.k (.c (.v (.slice none 0 0))))),none⟩]) (.seq (.ops [⟨(some 77),(.mv (.t 13)),none⟩,⟨(some 78),(.mv (.t 9)),none⟩,⟨(some 79),(.mv (.t 12)),none⟩,⟨(some 80),(.slc 2 (.t 78) none (some (.t 79)) none),none⟩,⟨(some 81),(.app 67 2 48 [(.v (.slice none 0 0)),(.v (.slice none 0 0))] (.t 77) (.t 80)),none⟩,⟨(some 13),(.mv (.t 81)),none⟩]) (.kill [77,78,79,80,81] (.seq (.ops [⟨(some 82),(.mv (.t 13)),none⟩,⟨(some 83),(.ld true 2 (.t 11)),none⟩,⟨(some 84),(.mkSl 67 1 2 [(.v (.slice none 0 0)),(.v (.slice none 0 0))] [(0,(2,(.t 83)))]),none⟩,⟨(some 85),(.app 67 2 48 [(.v (.slice none 0 0)),(.v (.slice none 0 0))] (.t 82) (.t 84)),none⟩,⟨(some 13),(.mv (.t 85)),none⟩]) (.kill [11,82,83,84,85] (.ops [⟨(some 86),(.mv (.t 13)),none⟩,⟨(some 87),(.mv (.t 9)),none⟩,⟨(some 88),(.mv (.t 12)),none⟩,⟨(some 89),(.slc 2 (.t 87) (some (.t 88)) none none),none⟩,⟨(some 90),(.app 67 2 48 [(.v (.slice none 0 0)),(.v (.slice none 0 0))] (.t 86) (.t 89)),none⟩,⟨(some 9),(.mv (.t 90)),none⟩])))))))))))))))) (.kill [11,12,13,35,36,37,38,39,40,41,42,43,44,45,46,47,48,49,50,51,52,53,54,55,56,57,58,59,60,61,62,63,64,65,66,67,68,69,70,71,72,73,74,75,76,77,78,79,80,81,82,83,84,85,86,87,88,89,90] (.ops [⟨(some 33),(.mv (.t 10)),none⟩,⟨(some 34),(.bin .add (.t 33) (.k (.c (.v (.int .i64 1))))),none⟩,⟨(some 10),(.mv (.t 34)),none⟩])))))))) (.kill [2,7,10,11,12,13,28,29,30,31,32,33,34,35,36,37,38,39,40,41,42,43,44,45,46,47,48,49,50,51,52,53,54,55,56,57,58,59,60,61,62,63,64,65,66,67,68,69,70,71,72,73,74,75,76,77,78,79,80,81,82,83,84,85,86,87,88,89,90] (.seq (.ops [⟨(some 91),(.mv (.t 9)),none⟩,⟨(some 4),(.mv (.t 91)),none⟩,⟨(some 5),(.mv (.k (.c (.v (.int .i64 0))))),none⟩]) (.kill [9,91] .ret)))))))))))))))
def rs27:List RS:=[(.t 4),(.t 5)]
def nt27:Nat:=92
set_option maxRecDepth 100000 in
set_option maxHeartbeats 2000000 in
theorem rfin_calls (w:World) (v:Value) (L:Lt) (o:Int) (hL:checkB L=true) (ho:1≤o∧o≤3) (h:LtR w v L):Calls Try.prog 27 #[v,.int .i64 o] w (FinR L o w):=by
 refine enterLt (A:=[]) (c:=ir27) (rs:=rs27) (nt:=nt27) h [.agg (ltS 0),.c (.v (.int .i64 o))] _ Try.func27 rfl (by kernel_rfl) (by kernel_rfl) rfl (fun E' h0=>by simp only [List.map_cons,List.map_nil,h0];rfl) (of_decide_eq_true rfl) ?_
 generalize hR:FinR L o w=R
 simp (maxSteps:=2000000) only [ir27,nt27,rs27,go_sem,↓runOp,↓reduceIte,Nat.reduceLT,Nat.reduceLeDiff,Nat.reduceAdd,Nat.reduceEqDiff,reduceCtorEq,ltA,ltS]
 refine callV (.c (.v (.int .i64 0))) _ (fun E=>rfl) (fun E a w' hs=>by
  have:=refused_calls w' _ L o (ltL_at hs rfl rfl rfl)
  rw [refE,if_pos hL,if_pos ho] at this
  exact this) ?_
 simp (maxSteps:=2000000) only [go_sem,↓condS,↓runOp,↓imp_ft,↓imp_ff,↓reduceIte,Nat.reduceLT,Nat.reduceLeDiff,Nat.reduceAdd,Nat.reduceEqDiff]
 cases hb:bfs L o with
 | none =>
  refine callV (.tup [(true,[.v (.slice none 0 0),.v (.slice none 0 0),.v (.slice none 0 0)]),(false,[.v (.bool false)])]) _ (fun E=>rfl) (fun E a w' hs=>by
   have:=all_calls w' _ L o hL (ltL_at hs rfl rfl rfl)
   unfold AllR at this
   rw [hb] at this
   exact this) ?_
  simp (maxSteps:=2000000) only [go_sem,↓condS,↓runOp,↓reduceIte,Nat.reduceLT,Nat.reduceLeDiff,Nat.reduceAdd,Nat.reduceEqDiff]
  rw [← hR]
  unfold FinR
  rw [hb]
  exact retV fun E=>by simp [SV.den,SC.den,den1]
 | some l =>
  have hnd:=bfs_ok hL hb
  have hw:=hnd.toWkOk
  have hln:=hw.len
  have hF:FinR L o w=RetN w 3 (leT 2 (finsL L (l.map (·.s))).length 0) (fun b=>foO b (finsL L (l.map (·.s)))):=by
   funext e w'
   unfold FinR
   rw [hb]
  refine callN 8 (fdT l) (fun b=>fdO b l) (fun E a w' hs=>by
   have:=all_calls w' _ L o hL (ltL_at hs rfl rfl rfl)
   unfold AllR at this
   rw [hb] at this
   exact this) ?_
  simp (maxSteps:=2000000) only [go_sem,↓condS,↓runOp,↓reduceIte,Nat.reduceLT,Nat.reduceLeDiff,Nat.reduceAdd,Nat.reduceEqDiff,fdT,fdO,alO]
  have hfs:=fun i hi=>fs_ok hw i hi
  refine loopI (ι:={ i:Nat // i≤l.length }) (fun i=>⟨92,rfTm i.1 (finsL L ((l.take i.1).map (·.s))).length,rfS l (finsL L ((l.take i.1).map (·.s))),ltA 0 L,[],16⟩)
   (fun i=>l.length - i.1) ⟨0,by omega⟩ ?_ ?_
  ·refine le_tr (le_nilown (tmps':=rfTm 0 0) 2 67 (foC 13 []) (by simp [TmpsNil,look,rfTm]) rfl) ?_
   refine le_ren id rfl rfl (by simp [rfTm,TmpsLe,look,SV.ren,SC.ren,idσ,SV.okN,SC.okN,finsL]) (ownLe_app ⟨⟨of_decide_eq_true rfl,?_⟩,⟨of_decide_eq_true rfl,fun k hk=>by simp [finsL] at hk⟩,⟨of_decide_eq_true rfl,fun k hk=>by simp [finsL] at hk⟩,trivial⟩ (ownLe_app (rfB_le (fun i h=>Nat.lt_trans h (show 13<16 by decide)) (fun _ _ _ _=>rfl) rfl rfl) (alO4_le (fun i h=>Nat.lt_trans h (show 13<16 by decide)) (fun _ _ _ _=>rfl) rfl rfl rfl rfl rfl rfl))) (arr_ltσ (fun i h=>Nat.lt_trans h (show 3<16 by decide)) (fun _ _ _ _=>rfl) rfl rfl rfl) rfl
   simp only [idσ,id,atN,look,Nat.reduceEqDiff,if_true,Fm.get,and_self]
   exact ⟨by simp [finsL],rfl,rfl,fun e he=>by simp [finsL] at he⟩
  rintro ⟨i,hi⟩
  have hfi:=hfs i hi
  have hsu:i<l.length→finsL L ((l.take (i+1)).map (·.s))=if finB L (l.getD i sp0).s=true then insF (endF (l.getD i sp0).s) (finsL L ((l.take i).map (·.s))) else finsL L ((l.take i).map (·.s)):=fun h=>by rw [take_s h,finsL_push]
  generalize hout:finsL L ((l.take i).map (·.s))=out at hfi hsu ⊢
  simp (maxSteps:=2000000) only [go_sem,↓condS,↓exitS,↓runOp,↓reduceIte,Nat.reduceLT,Nat.reduceAdd,Nat.reduceEqDiff,rfTm,rfS,rfB,alO,foO,fdC,ltA]
  refine both (fun hlt=>?_) (fun hge=>?_)
  ·rw [decide_eq_true_eq] at hlt
   have hlt:i<l.length:=by omega
   have hsu:=hsu hlt
   have hwi:=hw.at hlt
   refine draw_vc (by kernel_rfl) (mkTab_ok _ _) (of_decide_eq_true rfl) (of_decide_eq_true rfl) ?_
   repeat (first | simp (maxSteps:=2000000) only [go_sem,↓gateD,↓runD,↓reduceIte,Nat.reduceLT,Nat.reduceLeDiff,Nat.reduceAdd,Nat.reduceEqDiff,alC] | rw [dr_cons])
   refine And.intro ⟨hlt,Nat.le_refl _⟩ (And.intro hlt ?_)
   refine dcallV (.c (.bo (finB L (l.getD i sp0).s))) _ (fun E=>rfl) (fun E a w' hs=>rfinal_calls w' _ _ L o _ hL hwi (ltL_at hs rfl rfl rfl) (st_ownL hs 4 i hlt rfl rfl rfl rfl rfl)) ?_
   repeat (first | simp (maxSteps:=2000000) only [go_sem,↓condS,↓exitS,↓runOp,↓gateD,↓runD,↓reduceIte,Nat.reduceLT,Nat.reduceLeDiff,Nat.reduceAdd,Nat.reduceEqDiff,alC] | rw [dr_cons])
   rw [wr_succ (by omega)]
   refine both (fun hf=>?_) (fun hf=>?_)
   ·rw [if_neg (by simpa using hf)] at hsu
    have hsv:=hsu
    rw [List.map_take] at hsv
    refine backI ⟨i+1,by omega⟩ (by simp only;omega) (le_ren id rfl rfl (by simp [TmpsLe,look,SV.ren,SC.ren,idσ,SV.okN,SC.okN,hsv]) ?_ (arr_ltσ (fun i h=>Nat.lt_trans h (show 3<16 by decide)) (fun _ _ _ _=>rfl) rfl rfl rfl) rfl)
    show OwnLe (· < 16) _ _ (rfS l (finsL L ((l.take (i+1)).map (·.s))))
    rw [hsu]
    exact rf_same (fun i h=>h) (fun _ _=>rfl) rfl rfl rfl rfl rfl rfl rfl rfl rfl rfl rfl
   ·rw [if_pos (by simpa using hf)] at hsu
    refine And.intro ⟨hlt,Nat.le_refl _⟩ (And.intro hlt ?_)
    refine callN 2 (fun b=>.agg (fnS b (endF (l.getD i sp0).s))) (fun b=>fnO b (endF (l.getD i sp0).s)) (fun E a w' hs=>end_calls w' _ _ (wfT_sz hL hwi) (st_ownL hs 4 i hlt rfl rfl rfl rfl rfl)) ?_
    simp (maxSteps:=2000000) only [go_sem,↓runOp,↓reduceIte,Nat.reduceLT,Nat.reduceLeDiff,Nat.reduceAdd,Nat.reduceEqDiff,fnS,fnO]
    have hxw:(endF (l.getD i sp0).s).words.length=L.words.length:=hwi.wf.w
    have hxr:(endF (l.getD i sp0).s).regs.length=L.thr.length:=hwi.wf.r
    generalize endF (l.getD i sp0).s=x at hxw hxr hsu ⊢
    have hz:=sz_at hL
    have hol:=hfi.len
    refine loopI (ι:={ a:Nat // a≤out.length∧∀ k,k<a→lessL (numF (out.getD k fn0)) (numF x)=true }) (fun a=>⟨92,rfTm i out.length++[(11,.c (.ptr (18,0,0) 0)),(12,.c (.v (.int .i64 (a.1:Nat))))],rfS l out++[(16,.one (.ar x.words.length 1 (ats eI x.words 0) 3)),(17,.one (.ar x.regs.length 4 (ats R4.enc x.regs r40) 68)),(18,.one (.bk (fnS 16 x) 67))],ltA 0 L,[],19⟩)
     (fun a=>out.length - a.1) ⟨0,by omega,fun k hk=>by omega⟩ ?_ ?_
    ·exact le_ren id rfl rfl (by simp [rfTm,TmpsLe,look,SV.ren,SC.ren,idσ,SV.okN,SC.okN]) (ownLe_app (rf_same (fun i h=>Nat.lt_of_lt_of_le h (show 16≤19 by decide)) (fun _ _=>rfl) rfl rfl rfl rfl rfl rfl rfl rfl rfl rfl rfl) (by simp [OwnLe,BlkLeO,BlkLe,atN,look,Fm.get,idσ,fnS,SC.renL,SC.ren,SC.okL,SC.okN,ren_ats,ok_ats])) (arr_ltσ (fun i h=>Nat.lt_trans h (show 3<19 by decide)) (fun _ _ _ _=>rfl) rfl rfl rfl) rfl
    rintro ⟨a,ha,hal⟩
    by_cases hla:a<out.length
    ·have dl:decide (a<out.length)=true:=decide_eq_true (by omega)
     simp (maxSteps:=2000000) only [go_sem,Nat.reduceAdd,rfTm,rfS,rfB,alO,foO,fdC,ltA,fnS]
     refine draw_vc (by kernel_rfl) (mkTab_ok _ _) (of_decide_eq_true rfl) (of_decide_eq_true rfl) ?_
     repeat (first | simp (maxSteps:=2000000) only [go_sem,↓gateD,altC,↓runD,↓imp_tt,↓reduceIte,Nat.reduceLT,Nat.reduceLeDiff,Nat.reduceAdd,Nat.reduceEqDiff,dl,foC] | rw [dr_cons])
     have hsh:=hfi.at hla
     refine And.intro ⟨hla,Nat.le_refl _⟩ (And.intro hla (Or.inr ?_))
     refine dcallN 1 (lsT 1 (numF (out.getD a fn0)).length) (lsO 3 1 eI (numF (out.getD a fn0)) 0) (fun E b' w' hs=>num_calls19 w' _ (out.getD a fn0) (Nat.le_trans (Nat.le_of_eq hsh.1) hz.2.2.2) (Nat.le_trans (Nat.le_of_eq hsh.2) hz.2.1) (fo_at hs 13 a hla rfl rfl)) ⟨⟨Nat.le_refl _,Nat.lt_succ_self _⟩,trivial⟩ ?_
     repeat (first | simp (maxSteps:=2000000) only [go_sem,↓gateD,altC,↓runD,↓imp_tt,↓reduceIte,Nat.reduceLT,Nat.reduceLeDiff,Nat.reduceAdd,Nat.reduceEqDiff,lsT,lsO] | rw [dr_cons])
     refine Or.inr ?_
     refine dcallN 1 (lsT 1 (numF x).length) (lsO 3 1 eI (numF x) 0) (fun E b' w' hs=>num_calls19 w' _ x (Nat.le_trans (Nat.le_of_eq hxw) hz.2.2.2) (Nat.le_trans (Nat.le_of_eq hxr) hz.2.1) (fn_own hs 16 rfl rfl)) ⟨⟨Nat.le_refl _,Nat.lt_succ_self _⟩,trivial⟩ ?_
     repeat (first | simp (maxSteps:=2000000) only [go_sem,↓gateD,altC,↓runD,↓imp_tt,↓reduceIte,Nat.reduceLT,Nat.reduceAdd,Nat.reduceEqDiff,lsT,lsO] | rw [dr_cons])
     refine Or.inr ?_
     refine dcallV (.c (.bo (lessL (numF (out.getD a fn0)) (numF x)))) _ (fun E=>rfl) (fun E b' w' hs=>less_calls w' _ _ _ _ (own_at (d:=0) hs 19 _ rfl rfl) (own_at (d:=0) hs 20 _ rfl rfl)) ?_
     repeat (first | simp (maxSteps:=2000000) only [go_sem,↓condS,↓exitS,↓runOp,↓gateD,↓runD,↓reduceIte,Nat.reduceLT,Nat.reduceEqDiff] | rw [dr_cons])
     refine both (fun hl=>?_) (fun hnl=>?_)
     ·rw [wr_succ (by omega)]
      exact backI ⟨a+1,hla,fun k hk=>(Nat.lt_succ_iff_lt_or_eq.1 hk).elim (hal k) fun e=>by subst e;exact hl⟩ (by simp only;omega) (le_ren id rfl rfl (by simp [TmpsLe,look,SV.ren,SC.ren,idσ,SV.okN,SC.okN]) (ownLe_app (rf_same (fun i h=>Nat.lt_of_lt_of_le h (show 16≤19 by decide)) (fun _ _=>rfl) rfl rfl rfl rfl rfl rfl rfl rfl rfl rfl rfl) (by simp [OwnLe,BlkLeO,BlkLe,atN,look,Fm.get,idσ,SC.renL,SC.ren,SC.okL,SC.okN,ren_ats,ok_ats])) (arr_ltσ (fun i h=>Nat.lt_trans h (show 3<19 by decide)) (fun _ _ _ _=>rfl) rfl rfl rfl) rfl)
     ·have hia:=insF_at (x:=x) ha hal (fun _=>by rw [show out.getD a ⟨[],[]⟩=out.getD a fn0 from rfl,hnl];exact Bool.false_ne_true)
      refine draw_vc (by kernel_rfl) (mkTab_ok _ _) (of_decide_eq_true rfl) (of_decide_eq_true rfl) ?_
      repeat (first | simp (maxSteps:=2000000) only [go_sem,↓gateD,altC,↓runD,↓imp_tt,↓reduceIte,Nat.reduceLT,Nat.reduceLeDiff,Nat.reduceAdd,Nat.reduceEqDiff,dl,foC] | rw [dr_cons])
      refine And.intro ⟨hla,Nat.le_refl _⟩ (And.intro hla (Or.inr ?_))
      refine dcallV (.c (.bo (sameF (out.getD a fn0) x))) _ (fun E=>rfl) (fun E b' w' hs=>same_calls w' _ _ (out.getD a fn0) x (Nat.le_trans (Nat.le_of_eq hsh.1) hz.2.2.2) (Nat.le_trans (Nat.le_of_eq hsh.2) hz.2.1) (Nat.le_trans (Nat.le_of_eq hxw) hz.2.2.2) (Nat.le_trans (Nat.le_of_eq hxr) hz.2.1) (fo_at hs 13 a hla rfl rfl) (fn_own hs 16 rfl rfl)) ?_
      repeat (first | simp (maxSteps:=2000000) only [go_sem,↓condS,↓exitS,↓runOp,↓gateD,↓runD,↓reduceIte,Nat.reduceLT,Nat.reduceLeDiff,Nat.reduceAdd,Nat.reduceMul,Nat.reduceEqDiff,reduceCtorEq,Int.reduceToNat,Int.reduceLT,Int.reduceLE,endO] | rw [dr_cons])
      refine both (fun hsm=>?_) (fun hns=>?_)
      ·rw [if_pos ⟨hla,hsm⟩] at hia
       rw [hia] at hsu
       have hsv:=hsu
       rw [List.map_take] at hsv
       rw [wr_succ (by omega)]
       refine backI ⟨i+1,by omega⟩ (by simp only;omega) (le_ren id rfl rfl (by simp [TmpsLe,look,SV.ren,SC.ren,idσ,SV.okN,SC.okN,hsv]) ?_ (arr_ltσ (fun i h=>Nat.lt_trans h (show 3<16 by decide)) (fun _ _ _ _=>rfl) rfl rfl rfl) rfl)
       show OwnLe (· < 16) _ _ (rfS l (finsL L ((l.take (i+1)).map (·.s))))
       rw [hsu]
       exact rf_same (fun i h=>h) (fun _ _=>rfl) rfl rfl rfl rfl rfl rfl rfl rfl rfl rfl rfl
      ·rw [if_neg (fun h=>by have:=h.2;rw [show out.getD a ⟨[],[]⟩=out.getD a fn0 from rfl,hns] at this;cases this)] at hia
       have hlen:(finsL L (List.take (i+1) (List.map (fun x=>x.s) l))).length=a+1+(out.length - a):=by
        rw [← List.map_take,hsu,hia];simp;omega
       rw [wr_succ (by omega)]
       refine And.intro ⟨by omega,Or.inr trivial⟩ (And.intro ⟨ha,by omega,by simp only [maxLen];omega⟩ (And.intro (by decide) (And.intro ⟨Nat.le_refl _,by omega,by simp only [maxLen];omega⟩ (And.intro (fun h=>by have:=h.1;omega) fun _=>And.intro ⟨by omega,by omega,Or.inl hla,fun _=>Nat.le_refl _⟩ (And.intro ⟨by omega,Nat.le_refl _,by omega,by simp only [maxLen];omega⟩ ?_)))))
       refine backI ⟨i+1,by omega⟩ (by simp only;omega) (le_nm (foσ a 24 16 17) ⟨rfl,rfl,by simp [TmpsLe,look,SV.ren,SC.ren,foσ,SV.okN,SC.okN,hlen],?_,arr_ltσ (fun i h=>Nat.lt_trans h (show 3<16 by decide)) (fun _ _ _ h=>foσ_lo (Nat.lt_trans h (by decide))) rfl rfl rfl,rf_inj (by decide)⟩)
       show OwnLe (· < 16) _ _ (rfS l (finsL L ((l.take (i+1)).map (·.s))))
       rw [hsu,hia]
       exact rf_ins ha (by omega) rfl (fun e he=>ins_e1 he) ins_e2 (fun e h1 h2=>ins_e3 h1) rfl rfl rfl rfl rfl rfl rfl rfl rfl rfl rfl rfl
    ·have hae:a=out.length:=by omega
     have hia:=insF_at (x:=x) ha hal (fun h=>absurd h hla)
     have dl:decide (a<out.length)=false:=decide_eq_false hla
     simp (maxSteps:=2000000) only [go_sem,Nat.reduceAdd,rfTm,rfS,rfB,alO,foO,fdC,ltA,fnS]
     refine draw_vc (by kernel_rfl) (mkTab_ok _ _) (of_decide_eq_true rfl) (of_decide_eq_true rfl) ?_
     repeat (first | simp (maxSteps:=2000000) only [go_sem,↓gateD,altC,↓runD,↓imp_ft,↓reduceIte,Nat.reduceLT,Nat.reduceLeDiff,Nat.reduceAdd,Nat.reduceEqDiff,dl,foC] | rw [dr_cons])
     refine Or.inl ⟨.c (.v (.bool false)),?_⟩
     repeat (first | simp (maxSteps:=2000000) only [go_sem,↓gateD,altC,↓runD,↓imp_ft,↓reduceIte,Nat.reduceLT,Nat.reduceLeDiff,Nat.reduceAdd,Nat.reduceEqDiff] | rw [dr_cons])
     refine Or.inl ⟨.c (.v (.bool false)),?_⟩
     repeat (first | simp (maxSteps:=2000000) only [go_sem,↓gateD,altC,↓runD,↓imp_ft,↓reduceIte,Nat.reduceLT,Nat.reduceEqDiff] | rw [dr_cons])
     refine Or.inl ⟨.c (.v (.bool false)),?_⟩
     repeat (first | simp (maxSteps:=2000000) only [go_sem,↓condS,↓exitS,↓gateD,↓runD,↓imp_ft,↓imp_ff,↓reduceIte,Nat.reduceLT,Nat.reduceEqDiff] | rw [dr_cons])
     refine draw_vc (by kernel_rfl) (mkTab_ok _ _) (of_decide_eq_true rfl) (of_decide_eq_true rfl) ?_
     repeat (first | simp (maxSteps:=2000000) only [go_sem,↓gateD,altC,↓runD,↓imp_ft,↓reduceIte,Nat.reduceLT,Nat.reduceLeDiff,Nat.reduceAdd,Nat.reduceEqDiff,dl,foC] | rw [dr_cons])
     refine Or.inl ⟨.c (.v (.bool false)),?_⟩
     repeat (first | simp (maxSteps:=2000000) only [go_sem,↓condS,↓runOp,↓gateD,↓runD,↓imp_ft,↓imp_ff,↓reduceIte,Nat.reduceLT,Nat.reduceLeDiff,Nat.reduceAdd,Nat.reduceMul,Nat.reduceEqDiff,reduceCtorEq,Int.reduceToNat,Int.reduceLT,Int.reduceLE,endO,foC] | rw [dr_cons])
     rw [if_neg (fun h=>hla h.1)] at hia
     rw [wr_succ (by omega)]
     refine And.intro ⟨by omega,Or.inr trivial⟩ (And.intro ⟨ha,by omega,by simp only [maxLen];omega⟩ (And.intro (by decide) (And.intro ⟨Nat.le_refl _,by omega,by simp only [maxLen];omega⟩ (And.intro (fun h=>And.intro (Nat.le_refl _) (And.intro ⟨Nat.le_refl _,by omega,by simp only [maxLen];omega⟩ ?_)) fun _=>And.intro ⟨by omega,by omega,Or.inr (by omega),fun _=>Nat.le_refl _⟩ (And.intro ⟨by omega,Nat.le_refl _,by omega,by simp only [maxLen];omega⟩ ?_)))))
     ·have hlen:(finsL L (List.take (i+1) (List.map (fun x=>x.s) l))).length=a+1:=by
       rw [← List.map_take,hsu,hia];simp;omega
      refine backI ⟨i+1,by omega⟩ (by simp only;omega) (le_nm (foσ a 23 16 17) ⟨rfl,rfl,by simp [TmpsLe,look,SV.ren,SC.ren,foσ,SV.okN,SC.okN,hlen],?_,arr_ltσ (fun i h=>Nat.lt_trans h (show 3<16 by decide)) (fun _ _ _ h=>foσ_lo (Nat.lt_trans h (by decide))) rfl rfl rfl,rf_inj (by decide)⟩)
      show OwnLe (· < 16) _ _ (rfS l (finsL L ((l.take (i+1)).map (·.s))))
      rw [hsu,hia]
      exact rf_ins ha (by omega) rfl (fun e he=>ins_e1 he) ins_e2 (fun e h1 h2=>by omega) rfl rfl rfl rfl rfl rfl rfl rfl rfl rfl rfl rfl
     ·have hlen:(finsL L (List.take (i+1) (List.map (fun x=>x.s) l))).length=a+1+(out.length - a):=by
       rw [← List.map_take,hsu,hia];simp;omega
      refine backI ⟨i+1,by omega⟩ (by simp only;omega) (le_nm (foσ a 22 16 17) ⟨rfl,rfl,by simp [TmpsLe,look,SV.ren,SC.ren,foσ,SV.okN,SC.okN,hlen],?_,arr_ltσ (fun i h=>Nat.lt_trans h (show 3<16 by decide)) (fun _ _ _ h=>foσ_lo (Nat.lt_trans h (by decide))) rfl rfl rfl,rf_inj (by decide)⟩)
      show OwnLe (· < 16) _ _ (rfS l (finsL L ((l.take (i+1)).map (·.s))))
      rw [hsu,hia]
      exact rf_ins ha (by omega) rfl (fun e he=>ins_e1 he) ins_e2 (fun e h1 h2=>ins_e3 h1) rfl rfl rfl rfl rfl rfl rfl rfl rfl rfl rfl rfl
  ·rw [decide_eq_false_iff_not] at hge
   have hin:i=l.length:=by omega
   subst hin
   rw [List.take_length] at hout
   rw [← hR,hF,hout]
   exact fo_ret rfl rfl rfl
end Go.Proofs.Ytmcpdafmkkjlcaa.Z
namespace Go.Proofs.Ytmcpdafmkkjlcaa.Z
open Go Go.RowKit
def srσ (zs:List Nat) (b:Nat) (x:Nm):Nm:=if x.1=b then (10,0,0) else if x.1=b+1 then (5,zs.getD x.2.1 0,0) else (6,zs.getD x.2.1 0,0)
theorem ff_ret {P:Program} {A:List Nat} {w:World} {rs:List RS} {l:List Sp} {zs:List Nat} {fs:List Fn} {S:St} {m:Nat} (hm:m=fs.length) (hzl:zs.length=fs.length) (hnd:zs.Nodup) (hzt:∀ k∈zs,k<l.length) (hz:∀ k,k<zs.length→fs.getD k fn0=endF (l.getD (zs.getD k 0) sp0).s) (h10:look S.own 10=some (.one (ffL l zs m))) (h5:look S.own 5=some (.fam l.length (wlW l))) (h6:look S.own 6=some (.fam l.length (wlR l))) :
  RetVC (mkC P A w rs (RetN w 3 (leT 2 fs.length 0) (fun b=>foO b fs))) (.tup [(false,[.sl (10,0,0) 2 0 m none]),(false,[.v (.int .i64 0)])]) S:=by
 subst hm
 have hlt:∀ k,k<fs.length→zs.getD k 0<l.length:=fun k hk=>hzt _ (by rw [List.getD_eq_getElem?_getD,List.getElem?_eq_getElem (by omega)];exact List.getElem_mem _)
 have s0:∀ b,srσ zs b (b,0,0)=(10,0,0):=fun b=>by simp [srσ]
 have s1:∀ b k,srσ zs b (b+1,k,0)=(5,zs.getD k 0,0):=fun b k=>by simp [srσ]
 have s2:∀ b k,srσ zs b (b+2,k,0)=(6,zs.getD k 0,0):=fun b k=>by simp [srσ]
 refine retNm (srσ zs) (fun b=>⟨by simp [leT,SV.ren,SC.renL,SC.ren,ren1L,ren1,s0],by simp [leT,SV.okN,SC.okL,SC.okN,ok1L,NewIds]⟩) (fun b=>?_) (fun b=>?_)
 ·refine ⟨⟨⟨by omega,by omega⟩,?_⟩,⟨⟨by omega,by omega⟩,fun k hk=>?_⟩,⟨⟨by omega,by omega⟩,fun k hk=>?_⟩,trivial⟩
  ·rw [s0];simp only [atN,h10,ffL,if_true,Fm.get,and_self]
   exact ⟨Nat.le_refl _,rfl,rfl,fun e he=>⟨by simp only [esF,foC,SC.renL,SC.ren,s1,s2,hz e (by omega)];rfl,by simp [foC,SC.okL,SC.okN,NewIds]⟩⟩
  ·rw [s1];simp only [atN,h5,if_true,Fm.get,hlt k hk,and_self,foW,hz k (by omega)];exact arLe_same
  ·rw [s2];simp only [atN,h6,if_true,Fm.get,hlt k hk,and_self,foR,hz k (by omega)];exact arLe_same
 ·intro x y c d hx hy e
  have hi:∀ k k',k<fs.length→k' < fs.length→zs.getD k 0=zs.getD k' 0→k=k':=fun k k' h1 h2 q=>by
   rw [List.getD_eq_getElem?_getD,List.getD_eq_getElem?_getD,List.getElem?_eq_getElem (show k<zs.length by omega),List.getElem?_eq_getElem (show k' < zs.length by omega)] at q
   have hp:=List.pairwise_iff_getElem.1 (List.nodup_iff_pairwise_ne.1 hnd)
   rcases Nat.lt_trichotomy k k' with g | g | g
   ·exact absurd q (hp k k' (by omega) (by omega) g)
   ·exact g
   ·exact absurd q.symm (hp k' k (by omega) (by omega) g)
  rcases fo_keys hx with rfl | ⟨k,hk,rfl⟩ | ⟨k,hk,rfl⟩ <;> rcases fo_keys hy with rfl | ⟨k',hk',rfl⟩ | ⟨k',hk',rfl⟩
  ·rfl
  ·rw [s0,s1] at e;simp at e
  ·rw [s0,s2] at e;simp at e
  ·rw [s0,s1] at e;simp at e
  ·rw [s1,s1] at e;rw [hi k k' hk hk' (by simpa using e)]
  ·rw [s1,s2] at e;simp at e
  ·rw [s0,s2] at e;simp at e
  ·rw [s1,s2] at e;simp at e
  ·rw [s2,s2] at e;rw [hi k k' hk hk' (by simpa using e)]
def ir26:IR:=(.seq (.ops [⟨(some 2),(.box 25 (.t 0)),none⟩,⟨(some 4),(.mv (.k (.c (.v (.slice none 0 0))))),none⟩,⟨(some 5),(.mv (.k (.c (.v (.int .i64 0))))),none⟩]) (.kill [0,3,4,5,6,7,8,9,10,11] (.seq (.ops [⟨(some 12),(.ld true 2 (.t 2)),none⟩,⟨(some 13),(.mv (.t 1)),none⟩,⟨(some 14),(.call 49 [(.t 12),(.t 13)]),none⟩,⟨(some 11),(.mv (.t 14)),none⟩,⟨(some 15),(.ext 0 (.t 11)),none⟩,⟨(some 16),(.ext 1 (.t 11)),none⟩,⟨(some 6),(.mv (.t 15)),none⟩,⟨(some 7),(.mv (.t 16)),none⟩]) (.kill [1,11,12,13,14,15,16] (.seq (.seq (.ops [⟨(some 17),(.mv (.t 7)),none⟩,⟨(some 18),(.bin .neq (.t 17) (.k (.c (.v (.int .i64 0))))),none⟩]) (.kill [17] (.cond (.t 18) (.seq (.ops [⟨(some 19),(.mv (.t 7)),none⟩,⟨(some 4),(.mv (.k (.c (.v (.slice none 0 0))))),none⟩,⟨(some 5),(.mv (.t 19)),none⟩]) (.kill [2,6,7,18,19] .ret)) .skip))) (.kill [4,5,7,18] (.seq (.ops [⟨(some 8),(.mv (.k (.c (.v (.slice none 0 0))))),none⟩]) (.seq (.seq (.ops [⟨(some 20),(.mv (.t 6)),none⟩,⟨(some 21),(.len (.t 20)),none⟩,⟨(some 22),(.mv (.k (.c (.v (.int .i64 0))))),none⟩]) (.kill [6] (.blk 0 (.loop (.seq (.ops [⟨(some 23),(.bin .lss (.t 22) (.t 21)),none⟩]) (.kill [10,24,25,26,27,28,29,30,31,32,33,34,35,36,37,38,39,40] (.seq (.cond (.t 23) .skip (.exit 0)) (.kill [23] (.seq (.blk 1 (.seq (.ops [⟨(some 24),(.ia 8 (.t 20) (.t 22)),none⟩,⟨(some 25),(.ld true 8 (.t 24)),none⟩,⟨(some 10),(.new 98 [(.v (.slice none 0 0)),(.v (.slice none 0 0)),(.v (.slice none 0 0)),(.v (.slice none 0 0)),(.v (.int .i64 0)),(.v (.int .i64 0)),(.v (.bool false)),(.v (.int .i64 0))]),none⟩,⟨none,(.st 8 (.t 10) (.t 25)),none⟩]) (.kill [24,25] (.seq (.ops [⟨(some 26),(.ld true 2 (.t 2)),none⟩,⟨(some 27),(.fa 0 (.t 10)),none⟩,⟨(some 28),(.ld true 4 (.t 27)),none⟩,⟨(some 29),(.call 50 [(.t 26),(.t 28)]),none⟩]) (.kill [26,27,28] (.cond (.t 29) (.ops [⟨(some 30),(.mv (.t 8)),none⟩,⟨(some 31),(.fa 0 (.t 10)),none⟩,⟨(some 32),(.fa 0 (.t 31)),none⟩,⟨(some 33),(.ld false 1 (.t 32)),none⟩,⟨(some 34),(.fa 0 (.t 10)),none⟩,⟨(some 35),(.fa 1 (.t 34)),none⟩,⟨(some 36),(.ld false 1 (.t 35)),none⟩,⟨(some 37),(.build [(.v (.slice none 0 0)),(.v (.slice none 0 0))] [(0,(1,(.t 33))),(1,(1,(.t 36)))]),none⟩,⟨(some 38),(.mkSl 67 1 2 [(.v (.slice none 0 0)),(.v (.slice none 0 0))] [(0,(2,(.t 37)))]),none⟩,⟨(some 39),(.app 67 2 48 [(.v (.slice none 0 0)),(.v (.slice none 0 0))] (.t 30) (.t 38)),none⟩,⟨(some 8),(.mv (.t 39)),none⟩]) .skip)))))) (.kill [10,24,25,26,27,28,29,30,31,32,33,34,35,36,37,38,39] (.ops [⟨(some 40),(.bin .add (.t 22) (.k (.c (.v (.int .i64 1))))),none⟩,⟨(some 22),(.mv (.t 40)),none⟩]))))))))))) (.kill [2,10,20,21,22,23,24,25,26,27,28,29,30,31,32,33,34,35,36,37,38,39,40] (.seq (.ops [⟨(some 41),(.mv (.t 8)),none⟩,⟨(some 42),(.call 51 [(.t 41),(.k (.c (.fn (.func 52) [] [])))]),none⟩]) (.kill [41,42] (.seq (.ops [⟨(some 43),(.mv (.t 8)),none⟩,⟨(some 4),(.mv (.t 43)),none⟩,⟨(some 5),(.mv (.k (.c (.v (.int .i64 0))))),none⟩]) (.kill [8,43] .ret)))))))))))))
def rs26:List RS:=[(.t 4),(.t 5)]
def nt26:Nat:=44
set_option maxRecDepth 100000 in
set_option maxHeartbeats 2000000 in
theorem ifin_calls (w:World) (v:Value) (L:Lt) (o:Int) (hL:checkB L=true) (ho:1≤o∧o≤3) (hok:LtOk L) (h:LtR w v L):Calls Try.prog 26 #[v,.int .i64 o] w (FinR L o w):=by
 refine enterLt (A:=[]) (c:=ir26) (rs:=rs26) (nt:=nt26) h [.agg (ltS 0),.c (.v (.int .i64 o))] _ Try.func26 rfl (by kernel_rfl) (by kernel_rfl) rfl (fun E' h0=>by simp only [List.map_cons,List.map_nil,h0];rfl) (of_decide_eq_true rfl) ?_
 generalize hR:FinR L o w=R
 simp (maxSteps:=2000000) only [ir26,nt26,rs26,go_sem,↓runOp,↓reduceIte,Nat.reduceLT,Nat.reduceLeDiff,Nat.reduceAdd,Nat.reduceEqDiff,reduceCtorEq,ltA,ltS]
 cases hb:bfs L o with
 | none =>
  refine callV (.tup [(false,[.v (.slice none 0 0)]),(false,[.v (.int .i64 192)])]) _ (fun E=>rfl) (fun E a w' hs=>by
   have:=walk_calls w' _ L o hL ho hok (ltL_at hs rfl rfl rfl)
   unfold WalkR at this
   rw [hb] at this
   exact this) ?_
  simp (maxSteps:=2000000) only [go_sem,↓condS,↓runOp,↓imp_tf,↓imp_tt,↓reduceIte,Nat.reduceLT,Nat.reduceEqDiff,Int.reduceBNe]
  rw [← hR]
  unfold FinR
  rw [hb]
  exact retV fun E=>by simp [SV.den,SC.den,den1]
 | some l =>
  have hnd:=bfs_ok hL hb
  have hw:=hnd.toWkOk
  have hln:=hw.len
  have hF:FinR L o w=RetN w 3 (leT 2 (finsL L (l.map (·.s))).length 0) (fun b=>foO b (finsL L (l.map (·.s)))):=by
   funext e w'
   unfold FinR
   rw [hb]
  refine callN 6 (wlT l) (fun b=>wlO b l) (fun E a w' hs=>by
   have:=walk_calls w' _ L o hL ho hok (ltL_at hs rfl rfl rfl)
   unfold WalkR at this
   rw [hb] at this
   exact this) ?_
  simp (maxSteps:=2000000) only [go_sem,↓condS,↓runOp,↓imp_ft,↓imp_ff,↓reduceIte,Nat.reduceLT,Nat.reduceAdd,Nat.reduceEqDiff,wlT,wlO]
  refine loopI (ι:={ i:Nat // i≤l.length }) (fun i=>⟨44,ffTm L l i.1,ffS L l i.1,ltA 0 L,[],11⟩) (fun i=>l.length - i.1) ⟨0,by omega⟩ ?_ ?_
  ·refine le_tr (le_nilown (tmps':=ffTm L l 0) 2 67 (fun e=>esF l (([]:List Nat).getD e 0)) (by simp [TmpsNil,look,ffTm,idxT]) rfl) ?_
   exact le_ren id rfl rfl (by simp [ffTm,TmpsLe,look,SV.ren,SC.ren,idσ,SV.okN,SC.okN]) (ff_same (ys:=idxT L l 0) 10 (fun i h=>h) (fun _ _=>rfl) rfl rfl rfl rfl rfl rfl rfl rfl rfl (by simp [idxT]) (fun e he=>by simp [idxT] at he)) (arr_ltσ (fun i h=>Nat.lt_trans h (show 3<11 by decide)) (fun _ _ _ _=>rfl) rfl rfl rfl) rfl
  rintro ⟨i,hi⟩
  have hsu:=idxT_succ (L:=L) (l:=l) (i:=i)
  have hil:=idxT_len (L:=L) (l:=l) i
  generalize hys:idxT L l i=ys at hsu hil ⊢
  simp (maxSteps:=2000000) only [go_sem,↓condS,↓exitS,↓runOp,↓reduceIte,Nat.reduceLT,Nat.reduceLeDiff,Nat.reduceAdd,Nat.reduceEqDiff,ffTm,ffS,hys,ffL,wlO,wlC,ltA]
  refine both (fun hlt=>?_) (fun hge=>?_)
  ·rw [decide_eq_true_eq] at hlt
   have hlt:i<l.length:=by omega
   have hwi:=hw.at hlt
   refine And.intro ⟨hlt,Nat.le_refl _⟩ (And.intro hlt ?_)
   refine callV (.c (.bo (finB L (l.getD i sp0).s))) _ (fun E=>rfl) (fun E a w' hs=>final_calls w' _ _ L o _ hL hwi (ltL_at hs rfl rfl rfl) (st_ownL hs 4 i hlt rfl rfl rfl rfl rfl)) ?_
   simp (maxSteps:=2000000) only [go_sem,↓condS,↓runOp,↓reduceIte,Nat.reduceLT,Nat.reduceLeDiff,Nat.reduceAdd,Nat.reduceMul,Nat.reduceEqDiff]
   rw [wr_succ (by omega)]
   refine both (fun hf=>?_) (fun hf=>?_)
   ·rw [if_pos hf] at hsu
    refine And.intro (by decide) (And.intro ⟨Nat.le_refl _,by omega,by simp only [maxLen];omega⟩ ?_)
    refine backI ⟨i+1,by omega⟩ (by simp only;omega) (le_ren (fun j=>if j=10 then 13 else j) rfl rfl (by simp [TmpsLe,look,SV.ren,SC.ren,idσ,SV.okN,SC.okN,hsu]) ?_ (arr_ltA (p:=(· < 11)) (fun i h=>Nat.lt_trans h (show 3<11 by decide)) (fun i h=>by rw [if_neg (by omega)]) rfl rfl rfl) rfl)
    show OwnLe (· < 11) _ _ (ffS L l (i+1))
    unfold ffS
    rw [hsu]
    refine ff_same (ys:=ys++[i]) 13 (fun i h=>h) (fun i h=>by rw [if_neg (by omega)]) rfl rfl rfl rfl rfl rfl rfl rfl rfl (by simp) (fun e he=>?_)
    rcases Nat.lt_or_ge e ys.length with h1 | h1
    ·simp only [appAt,if_pos h1]
     rw [List.getD_eq_getElem?_getD,List.getD_eq_getElem?_getD,List.getElem?_append_left h1]
    ·have h2:e=ys.length:=by simp at he;omega
     subst h2
     simp only [appAt,Nat.lt_irrefl,if_false,Nat.sub_self]
     rw [List.getD_eq_getElem?_getD (l:=ys++[i]),List.getElem?_append_right (Nat.le_refl _),Nat.sub_self]
     rfl
   ·rw [if_neg (by rw [hf];exact Bool.false_ne_true)] at hsu
    refine backI ⟨i+1,by omega⟩ (by simp only;omega) (le_ren id rfl rfl (by simp [TmpsLe,look,SV.ren,SC.ren,idσ,SV.okN,SC.okN,hsu]) ?_ (arr_ltA (p:=(· < 11)) (fun i h=>Nat.lt_trans h (show 3<11 by decide)) (fun i h=>rfl) rfl rfl rfl) rfl)
    show OwnLe (· < 11) _ _ (ffS L l (i+1))
    unfold ffS
    rw [hsu]
    exact ff_same (ys:=ys) 10 (fun i h=>h) (fun _ _=>rfl) rfl rfl rfl rfl rfl rfl rfl rfl rfl (Nat.le_refl _) (fun _ _=>rfl)
  ·rw [decide_eq_false_iff_not] at hge
   have hin:i=l.length:=by omega
   subst hin
   have hys2:ys=idxL L l:=hys.symm
   subst hys2
   obtain ⟨zs,hzp,hzm,hzu⟩:=srt_ex hnd
   refine call_intro (f:=51) (cr_sortK (ρ:=sortFin_ren) (C:=mkC Try.prog [] w rs26 R) (i:=10) (ty:=67) (g:=52) (k:=2) (cap:=none) (cl:=[]) (ys:=idxL L l) (zs:=zs) sortFin 0 (esF l) (ordI l) (by decide) (fun w=>by kernel_rfl) (fun w=>by kernel_rfl) rfl (by omega) (enters_of Try.func52 (by kernel_rfl) rfl) (swo_idx hnd) hzu (fun E a w' hs W hW x hx y hy=>?_)) (fun k hk=>by rw [List.mem_singleton] at hk;subst hk;exact Nat.lt_succ_self 10) ?_
   ·have hx1:=(idx_lt hx).1
    have hy1:=(idx_lt hy).1
    have hpos:0<(idxL L l).length:=List.length_pos_of_mem hx
    have W1:∀ k,k<l.length→Arr W eI 1 ((SC.sl (5,k,0) 1 0 (l.getD k sp0).s.words.length none).den E) (endF (l.getD k sp0).s).words:=fun k hk =>
     arr_ownW (d:=0) hs (5,k,0) (10,0,0) _ _ _ _ _ _ _ (by simp only [atN,look,Nat.reduceEqDiff,reduceIte,Fm.get,hk,and_self];rfl) (by simp only [atN,look,Nat.reduceEqDiff,reduceIte,Fm.get,and_self];rfl) (by simp) hpos rfl (Nat.le_refl _) (fun _ _=>rfl) hW
    have W2:∀ k,k<l.length→Arr W R4.enc 4 ((SC.sl (6,k,0) 4 0 (l.getD k sp0).s.regs.length none).den E) (endF (l.getD k sp0).s).regs:=fun k hk =>
     arr_ownW (d:=r40) hs (6,k,0) (10,0,0) _ _ _ _ _ _ _ (by simp only [atN,look,Nat.reduceEqDiff,reduceIte,Fm.get,hk,and_self];rfl) (by simp only [atN,look,Nat.reduceEqDiff,reduceIte,Fm.get,and_self];rfl) (by simp) hpos rfl (Nat.le_refl _) (fun _ _=>rfl) hW
    have X1:=W1 x hx1;have X2:=W2 x hx1;have Y1:=W1 y hy1;have Y2:=W2 y hy1
    clear W1 W2
    have hsh:=shp_idx hnd hx1 hy1
    obtain ⟨ba,c,e1,_⟩:=id X2
    obtain ⟨bb,c',e2,_⟩:=id Y2
    have hg:(#[Value.agg (List.map (SC.den E) (esF l x)).toArray,Value.agg (List.map (SC.den E) (esF l y)).toArray]++(SC.denL E []).toArray) = #[.agg #[(SC.sl (5,x,0) 1 0 (l.getD x sp0).s.words.length none).den E,.slice ba (endF (l.getD x sp0).s).regs.length c],.agg #[(SC.sl (5,y,0) 1 0 (l.getD y sp0).s.words.length none).den E,.slice bb (endF (l.getD y sp0).s).regs.length c']]:=by
     rw [← e1,← e2];simp [esF,SC.denL]
    rw [hg]
    rw [e1] at X2
    rw [e2] at Y2
    refine (orderW _ _ ba bb c c' _ _ W (endF (l.getD x sp0).s) (endF (l.getD y sp0).s) X1 Y1 X2 Y2 rfl rfl hsh.2).mono ?_
    rintro e w2 ⟨rfl,hb2⟩
    exact ⟨rfl,hb2.grow⟩
   simp (maxSteps:=2000000) only [go_sem,↓runOp,↓reduceIte,Nat.reduceLT,Nat.reduceEqDiff]
   rw [← hR,hF]
   have hzl:zs.length=(finsL L (l.map (·.s))).length:=by rw [← hzm,List.length_map]
   refine ff_ret (zs:=zs) (l:=l) ?_ hzl (hzp.nodup_iff.2 (List.nodup_range.filter _)) (fun k hk=>(idx_lt (hzp.mem_iff.1 hk)).1) (fun k hk=>?_) rfl rfl rfl
   ·rw [← hzl,hzp.length_eq]
   ·have e1:zs.getD k 0=zs[k]:=by rw [List.getD_eq_getElem?_getD,List.getElem?_eq_getElem hk];rfl
    rw [e1,← hzm,List.getD_eq_getElem?_getD,List.getElem?_map,List.getElem?_eq_getElem hk]
    rfl
end Go.Proofs.Ytmcpdafmkkjlcaa.Z
namespace Go.Proofs.Ytmcpdafmkkjlcaa.Z
open Go Go.RowKit
def prE (p:Value×Value):List Value:=[p.1,p.2]
def pr0:Value×Value:=(nest0,nest0)
def FnsR (w:World) (v:Value) (l:List Fn):Prop :=
 ∃ ws:List (Value×Value),Arr w prE 2 v ws∧ws.length=l.length∧∀ k,k<l.length→Arr w eI 1 (ws.getD k pr0).1 (l.getD k fn0).words∧Arr w R4.enc 4 (ws.getD k pr0).2 (l.getD k fn0).regs
def fsF (i n:Nat) (low:Nat:=0):ArrF:=⟨n,2,fun k=>[.xv (i,k,0),.xv (i+1,k,0)],low⟩
theorem fsF_len (i n low:Nat):(fsF i n low).len=n:=rfl
theorem fsF_size (i n low:Nat):(fsF i n low).size=2:=rfl
theorem fsF_at (i n low k:Nat):(fsF i n low).at_ k=[.xv (i,k,0),.xv (i+1,k,0)]:=rfl
def fsA (i:Nat) (l:List Fn):List (Nat×Fm ArrF):=[(i,.one (fsF (i+1) l.length)),(i+1,.fam l.length fun k=>arrOf eI 1 (l.getD k fn0).words 0),(i+2,.fam l.length fun k=>arrOf R4.enc 4 (l.getD k fn0).regs r40)]
theorem arrLe_fs {q:Nat→Prop} {τ:Nat→Nat} {i n lw:Nat} (hp:q i) (hp1:q (i+1)) (hτ:τ i=i) (hτ1:τ (i+1)=i+1):ArrLe q (idσ τ) (fsF i n lw) (fsF i n lw) :=
 ⟨rfl,rfl,fun e _=>⟨by simp [fsF,SC.renL,SC.ren,idσ,hτ,hτ1],by simp [fsF,SC.okL,SC.okN,hp,hp1]⟩,Nat.le_refl _⟩
theorem rd_fns {w:World} {vals:List (Nat→Value)} {r:List (Nat×Fm ArrF)} {l:List Fn} {v:Value} {ws:List (Value×Value)} (j:Nat) (h:Arr w prE 2 v ws) (hl:ws.length=l.length) (hk:∀ k,k<l.length→Arr w eI 1 (ws.getD k pr0).1 (l.getD k fn0).words∧Arr w R4.enc 4 (ws.getD k pr0).2 (l.getD k fn0).regs)
  (hj:j+2<vals.length) (hv:(vals.getD j fun _=>nest0) 0=v) (hv1:∀ k,(vals.getD (j+1) fun _=>nest0) k=(ws.getD k pr0).1) (hv2:∀ k,(vals.getD (j+2) fun _=>nest0) k=(ws.getD k pr0).2) (hr:Reads w vals r):Reads w vals (fsA j l++r):=by
 intro E hE x A hA
 simp only [fsA,List.cons_append,List.nil_append] at hA
 rcases atN_one hA with ⟨rfl,rfl⟩ | hA
 ·obtain ⟨ba,cap,h1,h2,h3,h4⟩:=h
  refine ⟨ba,cap,by rw [hE j 0 0 (by omega),hv,h1,hl];rfl,by rw [← hl] at *;exact h2,h3,?_⟩
  rcases h4 with h4 | ⟨b,off,g1,g2⟩
  ·left;rw [h4] at hl;exact hl.symm
  ·right
   refine ⟨b,off,g1,Nat.zero_le _,fun k hk'=>⟨rfl,fun q u hu=>?_⟩⟩
   have hk' : k<l.length:=hk'
   have e1:(SC.xv (j+1,k,0)).den E=(ws.getD k pr0).1:=by simp only [SC.den];rw [hE (j+1) k 0 (by omega),hv1]
   have e2:(SC.xv (j+2,k,0)).den E=(ws.getD k pr0).2:=by simp only [SC.den];rw [hE (j+2) k 0 (by omega),hv2]
   have hwk:ws[k]? = some (ws.getD k pr0):=by rw [List.getD_eq_getElem?_getD,List.getElem?_eq_getElem (by omega)];rfl
   match q,hu with
   | 0,hu =>
    simp only [fsF,List.getElem?_cons_zero,Option.some.injEq] at hu
    subst hu
    rw [e1]
    exact ⟨g2 k _ hwk 0 _ rfl,arr_one (hk k hk').1⟩
   | 1,hu =>
    simp only [fsF,List.getElem?_cons_succ,List.getElem?_cons_zero,Option.some.injEq] at hu
    subst hu
    rw [e2]
    exact ⟨g2 k _ hwk 1 _ rfl,arr_one (hk k hk').2⟩
   | q+2,hu=>simp [fsF] at hu
 rcases atN_fam hA with ⟨k,hkn,rfl,rfl⟩ | hA
 ·exact arrAt_of eI_ok (by rw [hE (j+1) k 0 (by omega),hv1];exact (hk k hkn).1)
 rcases atN_fam hA with ⟨k,hkn,rfl,rfl⟩ | hA
 ·exact arrAt_of r4_ok (by rw [hE (j+2) k 0 (by omega),hv2];exact (hk k hkn).2)
 ·exact hr E hE x A hA
theorem prE_ones {w:World} {l:List Fn} {ws:List (Value×Value)} (hl:ws.length=l.length) (hk:∀ k,k<l.length→Arr w eI 1 (ws.getD k pr0).1 (l.getD k fn0).words∧Arr w R4.enc 4 (ws.getD k pr0).2 (l.getD k fn0).regs) (k:Nat):(ws.getD k pr0).1.oneCell' = true∧(ws.getD k pr0).2.oneCell' = true:=by
 by_cases h:k<l.length
 ·exact ⟨arr_one (hk k h).1,arr_one (hk k h).2⟩
 ·rw [List.getD_eq_getElem?_getD,List.getElem?_eq_none (by omega)]
  exact ⟨rfl,rfl⟩
theorem prE_one {w:World} {v:Value} {ws:List (Value×Value)} (h:Arr w prE 2 v ws):v.oneCell' = true:=by
 obtain ⟨ba,cap,rfl,_⟩:=h;rfl
theorem enterFns2 {P:Program} {A:List Nat} {f nt:Nat} {fn:Func} {x:Code} {c:IR} {w:World} {rs:List RS} {R:Ending→World→Prop} {v v' : Value} {a b:List Fn} (h:FnsR w v a) (h' : FnsR w v' b)
  (hf:P.funcs[f]? = some fn) (hb:fn.body=some x) (hc:compC (mkTab P A) x=some c.strip) (hrs:compR (mkTab P A).T fn.results.toList=some rs) (hn:fn.ntmps=nt) (hnt:2≤nt)
  (hex:exec (mkC P A w rs R) 1000 [.code c] ⟨nt,enumT 0 [.c (.xv (0,0,0)),.c (.xv (3,0,0))],[],fsA 0 a++(fsA 3 b++[]),[],6⟩):Calls P f #[v,v'] w R:=by
 obtain ⟨ws,h1,h2,h3⟩:=h
 obtain ⟨ws',h1',h2',h3'⟩:=h'
 refine enterL [fun _=>v,fun k=>(ws.getD k pr0).1,fun k=>(ws.getD k pr0).2,fun _=>v',fun k=>(ws'.getD k pr0).1,fun k=>(ws'.getD k pr0).2]
  ⟨fun _=>prE_one h1,fun k=>(prE_ones h2 h3 k).1,fun k=>(prE_ones h2 h3 k).2,fun _=>prE_one h1',fun k=>(prE_ones h2' h3' k).1,fun k=>(prE_ones h2' h3' k).2,trivial⟩
  (rd_fns 0 h1 h2 h3 (by simp) rfl (fun _=>rfl) (fun _=>rfl) (rd_fns 3 h1' h2' h3' (by simp) rfl (fun _=>rfl) (fun _=>rfl) rd_nil))
  [.c (.xv (0,0,0)),.c (.xv (3,0,0))] _ hf hb hc hrs hn (fun E' hE'=>?_) hnt hex
 have e:=fun i hi=>hE' i 0 0 hi
 simp only [List.map_cons,List.map_nil,SV.den,SC.den,e 0 (by simp),e 3 (by simp)]
 rfl
theorem fns_len {w:World} {v:Value} {l:List Fn} (h:FnsR w v l):l.length≤9223372036854775807:=by
 obtain ⟨ws,⟨ba,cap,_,h2,h3,_⟩,hl,_⟩:=h
 simp only [maxLen] at h3
 omega
theorem fn_fs {C:Ctx} {E:Env} {S:St} {a:Act} {w:World} (hs:Sat C.B C.W C.w0 E S a w) {l:List Fn} (i k:Nat) (hk:k<l.length) (h1:look S.arrs i=some (.fam l.length fun k=>arrOf eI 1 (l.getD k fn0).words 0)) (h2:look S.arrs (i+1)=some (.fam l.length fun k=>arrOf R4.enc 4 (l.getD k fn0).regs r40)) :
  FnR w ((SV.agg [.xv (i,k,0),.xv (i+1,k,0)]).den E) (l.getD k fn0) :=
 ⟨_,_,by simp [SV.den,SC.den],arr_of (d:=0) ((holds_of hs).1 (i,k,0) _ (by simp only [atN,h1,Fm.get,hk,and_self,if_true];rfl)),arr_of (d:=r40) ((holds_of hs).1 (i+1,k,0) _ (by simp only [atN,h2,Fm.get,hk,and_self,if_true];rfl))⟩
theorem fns_own {C:Ctx} {E:Env} {S:St} {a:Act} {w:World} (hs:Sat C.B C.W C.w0 E S a w) {l:List Fn} (b:Nat) (h0:look S.own b=some (.one (.ar l.length 2 (foC b l) 67))) (h1:look S.own (b+1)=some (.fam l.length (foW l))) (h2:look S.own (b+2)=some (.fam l.length (foR l))):FnsR w ((SC.sl (b,0,0) 2 0 l.length none).den E) l:=by
 have hm:∀ k,k<l.length→((List.range l.length).map fun k=>((SC.sl (b+1,k,0) 1 0 (l.getD k fn0).words.length none).den E,(SC.sl (b+2,k,0) 4 0 (l.getD k fn0).regs.length none).den E)).getD k pr0=((SC.sl (b+1,k,0) 1 0 (l.getD k fn0).words.length none).den E,(SC.sl (b+2,k,0) 4 0 (l.getD k fn0).regs.length none).den E):=fun k hk=>by
  rw [List.getD_eq_getElem?_getD,List.getElem?_map,List.getElem?_range hk];rfl
 refine ⟨(List.range l.length).map fun k=>((SC.sl (b+1,k,0) 1 0 (l.getD k fn0).words.length none).den E,(SC.sl (b+2,k,0) 4 0 (l.getD k fn0).regs.length none).den E),?_,by simp,fun k hk=>?_⟩
 ·obtain ⟨H,hH,_⟩:=hs.mem
  rcases ar_heap hH (show atN S.own (b,0,0)=some (.ar l.length 2 (foC b l) 67) by simp [atN,h0,Fm.get]) with ⟨g1,g2,g3,_⟩ | ⟨g1,g2,g3,cells,g4,g5,g6,g7⟩
  ·have h0:l=[]:=List.eq_nil_of_length_eq_zero g3
   subst h0
   exact ⟨if E.ν (b,0,0)=true then none else some ⟨E.ρ (b,0,0),0,none⟩,0,by simp [SC.den,g2],Nat.le_refl _,by simp [maxLen],Or.inl rfl⟩
  ·refine ⟨some ⟨E.ρ (b,0,0),0,none⟩,E.κ (b,0,0),by simp [SC.den,g1],by simpa using g2.1,g3,Or.inr ⟨_,_,rfl,fun e y hy q u hu=>?_⟩⟩
   rw [cell_of_row w _ _ _ _ (0,0) g5,Nat.zero_add]
   have he:e<l.length:=by
    have:=(List.getElem?_eq_some_iff.1 hy).1
    simpa using this
   have hy2:y=((SC.sl (b+1,e,0) 1 0 (l.getD e fn0).words.length none).den E,(SC.sl (b+2,e,0) 4 0 (l.getD e fn0).regs.length none).den E):=by
    rw [List.getElem?_map,List.getElem?_range he] at hy
    exact (Option.some.inj hy).symm
   subst hy2
   match q,hu with
   | 0,hu =>
    simp only [prE,List.getElem?_cons_zero,Option.some.injEq] at hu
    subst hu
    exact ((g7 e he).2 0 _ rfl).1
   | 1,hu =>
    simp only [prE,List.getElem?_cons_succ,List.getElem?_cons_zero,Option.some.injEq] at hu
    subst hu
    exact ((g7 e he).2 1 _ rfl).1
   | q+2,hu=>simp [prE] at hu
 ·rw [hm k hk]
  exact ⟨arr_ownX (d:=0) hs (b+1,k,0) _ _ _ (by simp only [atN,h1,Fm.get,hk,and_self,if_true];rfl) rfl (Nat.le_refl _) (fun _ _=>rfl),arr_ownX (d:=r40) hs (b+2,k,0) _ _ _ (by simp only [atN,h2,Fm.get,hk,and_self,if_true];rfl) rfl (Nat.le_refl _) (fun _ _=>rfl)⟩
theorem fns_nil (w:World):FnsR w (.slice none 0 0) []:=⟨[],⟨none,0,rfl,Nat.le_refl _,by simp [maxLen],Or.inl rfl⟩,rfl,fun k hk=>by simp at hk⟩
def ir60:IR:=(.seq (.ops [⟨(some 2),(.box 67 (.t 0)),none⟩,⟨(some 3),(.box 67 (.t 1)),none⟩,⟨(some 4),(.mv (.k (.c (.v (.bool false))))),none⟩]) (.kill [0,1,4,5,6,7,8,9,10,11] (.seq (.seq (.ops [⟨(some 6),(.fa 0 (.t 2)),none⟩,⟨(some 7),(.ld false 1 (.t 6)),none⟩,⟨(some 8),(.fa 0 (.t 3)),none⟩,⟨(some 9),(.ld false 1 (.t 8)),none⟩,⟨(some 10),(.call 41 [(.t 7),(.t 9)]),none⟩,⟨(some 11),(.un .not (.t 10)),none⟩,⟨(some 12),(.mv (.t 11)),none⟩,⟨(some 13),(.fa 1 (.t 2)),(some (12,false))⟩,⟨(some 14),(.ld false 1 (.t 13)),(some (12,false))⟩,⟨(some 15),(.len (.t 14)),(some (12,false))⟩,⟨(some 16),(.fa 1 (.t 3)),(some (12,false))⟩,⟨(some 17),(.ld false 1 (.t 16)),(some (12,false))⟩,⟨(some 18),(.len (.t 17)),(some (12,false))⟩,⟨(some 19),(.bin .neq (.t 15) (.t 18)),(some (12,false))⟩,⟨(some 20),(.pick (.t 12) (.k (.c (.v (.bool true)))) (.t 19)),none⟩]) (.kill [6,7,8,9,10,11,12,13,14,15,16,17,18,19] (.cond (.t 20) (.seq (.ops [⟨(some 4),(.mv (.k (.c (.v (.bool false))))),none⟩]) (.kill [2,3,20] .ret)) .skip))) (.kill [4,20] (.seq (.seq (.ops [⟨(some 5),(.mv (.k (.c (.v (.int .i64 0))))),none⟩]) (.blk 0 (.loop (.seq (.seq (.ops [⟨(some 21),(.mv (.t 5)),none⟩,⟨(some 22),(.fa 1 (.t 2)),none⟩,⟨(some 23),(.ld false 1 (.t 22)),none⟩,⟨(some 24),(.len (.t 23)),none⟩,⟨(some 25),(.bin .lss (.t 21) (.t 24)),none⟩]) (.kill [4,21,22,23,24,26,27,28,29,30,31,32,33,34,35,36,37,38] (.cond (.t 25) .skip (.exit 0)))) (.kill [25] (.seq (.blk 1 (.seq (.draw [(⟨(some 28),(.fa 1 (.t 2)),none⟩,([],[30,33,34,35,36,37])),(⟨(some 29),(.ld false 1 (.t 28)),none⟩,([],[30,33,34,35,36,37])),(⟨(some 30),(.mv (.t 5)),none⟩,([0,1],[28,29,33,34,35,36,37])),(⟨(some 31),(.ia 4 (.t 29) (.t 30)),none⟩,([],[33,34,35,36,37])),(⟨(some 32),(.ld true 4 (.t 31)),none⟩,([],[33,34,35,36,37])),(⟨(some 33),(.fa 1 (.t 3)),none⟩,([0,1,2,3,4],[28,29,30,31,32,35])),(⟨(some 34),(.ld false 1 (.t 33)),none⟩,([0,1,2,3,4],[28,29,30,31,32,35])),(⟨(some 35),(.mv (.t 5)),none⟩,([0,1,2,3,4,5,6],[28,29,30,31,32,33,34])),(⟨(some 36),(.ia 4 (.t 34) (.t 35)),none⟩,([0,1,2,3,4],[28,29,30,31,32])),(⟨(some 37),(.ld true 4 (.t 36)),none⟩,([0,1,2,3,4],[28,29,30,31,32])),(⟨(some 38),(.eqa true [true,true,true,true] (.t 32) (.t 37)),none⟩,([],[]))]) (.kill [28,29,30,31,32,33,34,35,36,37] (.cond (.t 38) (.seq (.ops [⟨(some 4),(.mv (.k (.c (.v (.bool false))))),none⟩]) (.kill [2,3,5,38] .ret)) .skip)))) (.kill [4,28,29,30,31,32,33,34,35,36,37,38] (.ops [⟨(some 26),(.mv (.t 5)),none⟩,⟨(some 27),(.bin .add (.t 26) (.k (.c (.v (.int .i64 1))))),none⟩,⟨(some 5),(.mv (.t 27)),none⟩])))))))) (.kill [2,3,4,5,21,22,23,24,25,26,27,28,29,30,31,32,33,34,35,36,37,38] (.seq (.ops [⟨(some 4),(.mv (.k (.c (.v (.bool true))))),none⟩]) .ret)))))))
def rs60:List RS:=[(.t 4)]
def nt60:Nat:=39
def ir28:IR:=(.seq (.ops [⟨(some 4),(.mv (.k (.c (.v (.bool false))))),none⟩]) (.kill [2,3,4,5,6,7,8,9,10,11] (.seq (.seq (.ops [⟨(some 6),(.mv (.t 0)),none⟩,⟨(some 7),(.len (.t 6)),none⟩,⟨(some 8),(.mv (.t 1)),none⟩,⟨(some 9),(.len (.t 8)),none⟩,⟨(some 10),(.bin .neq (.t 7) (.t 9)),none⟩]) (.kill [6,7,8,9] (.cond (.t 10) (.seq (.ops [⟨(some 4),(.mv (.k (.c (.v (.bool false))))),none⟩]) (.kill [0,1,10] .ret)) .skip))) (.kill [4,10] (.seq (.seq (.ops [⟨(some 5),(.mv (.k (.c (.v (.int .i64 0))))),none⟩]) (.blk 0 (.loop (.seq (.seq (.ops [⟨(some 11),(.mv (.t 5)),none⟩,⟨(some 12),(.mv (.t 0)),none⟩,⟨(some 13),(.len (.t 12)),none⟩,⟨(some 14),(.bin .lss (.t 11) (.t 13)),none⟩]) (.kill [4,11,12,13,15,16,17,18,19,20,21,22,23,24,25,26] (.cond (.t 14) .skip (.exit 0)))) (.kill [14] (.seq (.blk 1 (.seq (.draw [(⟨(some 17),(.mv (.t 0)),none⟩,([],[18,21,22,23,24])),(⟨(some 18),(.mv (.t 5)),none⟩,([0],[17,21,22,23,24])),(⟨(some 19),(.ia 2 (.t 17) (.t 18)),none⟩,([],[21,22,23,24])),(⟨(some 20),(.ld true 2 (.t 19)),none⟩,([],[21,22,23,24])),(⟨(some 21),(.mv (.t 1)),none⟩,([0,1,2,3],[17,18,19,20,22])),(⟨(some 22),(.mv (.t 5)),none⟩,([0,1,2,3,4],[17,18,19,20,21])),(⟨(some 23),(.ia 2 (.t 21) (.t 22)),none⟩,([0,1,2,3],[17,18,19,20])),(⟨(some 24),(.ld true 2 (.t 23)),none⟩,([0,1,2,3],[17,18,19,20])),(⟨(some 25),(.call 60 [(.t 20),(.t 24)]),none⟩,([],[])),(⟨(some 26),(.un .not (.t 25)),none⟩,([],[]))]) (.kill [17,18,19,20,21,22,23,24,25] (.cond (.t 26) (.seq (.ops [⟨(some 4),(.mv (.k (.c (.v (.bool false))))),none⟩]) (.kill [0,1,5,26] .ret)) .skip)))) (.kill [4,17,18,19,20,21,22,23,24,25,26] (.ops [⟨(some 15),(.mv (.t 5)),none⟩,⟨(some 16),(.bin .add (.t 15) (.k (.c (.v (.int .i64 1))))),none⟩,⟨(some 5),(.mv (.t 16)),none⟩])))))))) (.kill [0,1,4,5,11,12,13,14,15,16,17,18,19,20,21,22,23,24,25,26] (.seq (.ops [⟨(some 4),(.mv (.k (.c (.v (.bool true))))),none⟩]) .ret)))))))
def rs28:List RS:=[(.t 4)]
def nt28:Nat:=27
theorem take_eqS {α:Type} {xs ys:List α} {d:α} {i:Nat} (h1:i<xs.length) (h2:i<ys.length) (h:xs.take i=ys.take i) (e:xs.getD i d=ys.getD i d):xs.take (i+1)=ys.take (i+1):=by
 rw [List.take_succ_eq_append_getElem h1,List.take_succ_eq_append_getElem h2,h]
 simp only [List.getD_eq_getElem?_getD,List.getElem?_eq_getElem h1,List.getElem?_eq_getElem h2,Option.getD_some] at e
 rw [e]
theorem ne_at {α:Type} {xs ys:List α} {d:α} {i:Nat} (e:xs.getD i d≠ys.getD i d):xs≠ys:=fun q=>e (by rw [q])
set_option maxRecDepth 100000 in
set_option maxHeartbeats 400000 in
theorem sintsD_calls (w : World) (v v' : Value) (xs ys:List Int) (h:Arr w eI 1 v xs) (h' : Arr w eI 1 v' ys):Calls Try.prog 41 #[v,v'] w (RetV w (.bool (decide (xs=ys)))):=by
  refine enter2 (A:=[]) (c:=ir41) (rs:=rs41) (nt:=nt41) 0 eI_ok h 0 eI_ok h' [.c (.xv (0,0,0)),.c (.xv (1,0,0))] _ Try.func41 rfl (by kernel_rfl) (by kernel_rfl) rfl (fun E' h0 h1=>by simp [SV.den,SC.den,h0,h1]) (of_decide_eq_true rfl) ?_
  have hml:=Z.Arr.lenM h
  simp only [maxLen] at hml
  simp (maxSteps:=2000000) only [ir41,nt41,rs41,go_sem,↓condS,↓runOp,↓reduceIte,Nat.reduceLT,Nat.reduceEqDiff,reduceCtorEq]
  refine both (fun hne=>?_) (fun heq=>?_)
  · have hne:xs≠ys:=fun q=>by subst q;simp at hne
    exact retV fun E=>by simp [SV.den,SC.den,hne]
  have hle : xs.length = ys.length := by have q:(xs.length:Int)=ys.length:=by simpa using heq
                                         omega
  refine loopI (ι:={ i:Nat // i≤xs.length∧xs.take i=ys.take i }) (fun i=>⟨26,[(0,.c (.xv (0,0,0))),(1,.c (.xv (1,0,0))),(5,.c (.v (.int .i64 (i.1:Nat))))],[],[(0,.one (arrOf eI 1 xs 0)),(1,.one (arrOf eI 1 ys 0))],[],2⟩)
    (fun i=>xs.length - i.1) ⟨0,by omega,by simp⟩ (le_ren id rfl rfl (by simp [TmpsLe,look,SV.ren,SC.ren,idσ,SV.okN,SC.okN]) trivial (by simp [ArrsLe,ArrLeO,atN,look,Fm.get,idσ,arrLe_of]) rfl) ?_
  rintro ⟨i,hi,htk⟩
  simp (maxSteps:=2000000) only [go_sem,↓condS,↓exitS,↓runOp,↓reduceIte,Nat.reduceLT,Nat.reduceEqDiff,reduceCtorEq]
  refine both (fun hlt=>?_) (fun hge=>?_)
  · rw [decide_eq_true_eq] at hlt
    have hlt:i<xs.length:=by omega
    have hlt2:i<ys.length:=by omega
    refine draw_vc (by kernel_rfl) (mkTab_ok _ _) (of_decide_eq_true rfl) (of_decide_eq_true rfl) ?_
    repeat (first | simp (maxSteps:=2000000) only [go_sem,↓condS,↓runOp,↓gateD,↓runD,↓reduceIte,Nat.reduceLT,Nat.reduceEqDiff,reduceCtorEq,eI] | rw [dr_cons])
    refine And.intro hlt (And.intro hlt (And.intro hlt2 (And.intro hlt2 (both (fun hne=>?_) (fun heq=>?_)))))
    · have hne:xs≠ys:=ne_at (d:=0) (i:=i) (by simpa using hne)
      exact retV fun E=>by simp [SV.den,SC.den,hne]
    · rw [wr_succ (by omega)]
      exact backI ⟨i+1,by omega,take_eqS (d:=0) hlt hlt2 htk (by simpa using heq)⟩ (by simp only;omega) (le_ren id rfl rfl (by simp [TmpsLe,look,SV.ren,SC.ren,idσ,SV.okN,SC.okN]) trivial (by simp [ArrsLe,ArrLeO,atN,look,Fm.get,idσ,arrLe_of]) rfl)
  · rw [decide_eq_false_iff_not] at hge
    have hin:i=xs.length:=by omega
    subst hin
    have he:xs=ys:=by rw [List.take_length,hle,List.take_length] at htk;exact htk
    exact retV fun E=>by simp [SV.den,SC.den,he]
end Go.Proofs.Ytmcpdafmkkjlcaa.Z
namespace Go.Proofs.Ytmcpdafmkkjlcaa.Z
open Go Go.RowKit
theorem fn_eq_iff {a b:Fn}:a=b↔a.words=b.words∧a.regs=b.regs:=by
 cases a;cases b;simp
instance:DecidableEq Fn:=fun a b=>decidable_of_iff _ fn_eq_iff.symm
theorem r4_eq_iff {a b:R4}:a=b↔a.a=b.a∧a.b=b.b∧a.c=b.c∧a.d=b.d:=by
 cases a;cases b;simp
set_option maxRecDepth 100000 in
set_option maxHeartbeats 1000000 in
theorem sfinalD_calls (w:World) (v v' : Value) (a b:Fn) (h:FnR w v a) (h' : FnR w v' b):Calls Try.prog 60 #[v,v'] w (RetV w (.bool (decide (a=b)))):=by
 have hm1:a.regs.length≤9223372036854775807:=by obtain ⟨_,_,_,_,h2⟩:=h;have:=Z.Arr.lenM h2;simp only [maxLen] at this;exact this
 refine enterFn2 (A:=[]) (c:=ir60) (rs:=rs60) (nt:=nt60) h h' Try.func60 rfl (by kernel_rfl) (by kernel_rfl) rfl (of_decide_eq_true rfl) ?_
 simp (maxSteps:=2000000) only [ir60,nt60,rs60,go_sem,↓runOp,↓reduceIte,Nat.reduceLT,Nat.reduceAdd,Nat.reduceEqDiff,reduceCtorEq]
 refine callV (.c (.v (.bool (decide (a.words=b.words))))) _ (fun E=>rfl) (fun E a' w' hs=>sintsD_calls w' _ _ a.words b.words (arr_at (d:=0) hs 0 rfl) (arr_at (d:=0) hs 2 rfl)) ?_
 by_cases hw:a.words=b.words
 ·have dw:decide (a.words=b.words)=true:=decide_eq_true hw
  rw [dw]
  simp (maxSteps:=2000000) only [go_sem,↓condS,↓gateS,↓runOp,↓reduceIte,Nat.reduceLT,Nat.reduceEqDiff,reduceCtorEq]
  refine both (fun hne=>?_) (fun heq=>?_)
  ·have hne:a≠b:=fun q=>by subst q;simp at hne
   exact retV fun E=>by simp [SV.den,SC.den,hne]
  have hle:a.regs.length=b.regs.length:=by
   have q:(a.regs.length:Int)=b.regs.length:=by simpa using heq
   omega
  refine loopI (ι:={ i:Nat // i≤a.regs.length∧a.regs.take i=b.regs.take i }) (fun i=>⟨39,[(2,.c (.ptr (4,0,0) 0)),(3,.c (.ptr (5,0,0) 0)),(5,.c (.v (.int .i64 (i.1:Nat))))],[(4,.one (.bk [.xv (0,0,0),.xv (1,0,0)] 67)),(5,.one (.bk [.xv (2,0,0),.xv (3,0,0)] 67))],[(0,.one (arrOf eI 1 a.words 0)),(1,.one (arrOf R4.enc 4 a.regs r40)),(2,.one (arrOf eI 1 b.words 0)),(3,.one (arrOf R4.enc 4 b.regs r40))],[],6⟩)
   (fun i=>a.regs.length - i.1) ⟨0,by omega,by simp⟩ (le_ren id rfl rfl (by simp [TmpsLe,look,SV.ren,SC.ren,idσ,SV.okN,SC.okN]) (by simp [OwnLe,BlkLeO,BlkLe,atN,look,Fm.get,idσ,SC.renL,SC.ren,SC.okL,SC.okN]) (by simp [ArrsLe,ArrLeO,atN,look,Fm.get,idσ,arrLe_of]) rfl) ?_
  rintro ⟨i,hi,htk⟩
  simp (maxSteps:=2000000) only [go_sem,↓condS,↓exitS,↓runOp,↓reduceIte,Nat.reduceLT,Nat.reduceEqDiff,reduceCtorEq]
  refine both (fun hlt=>?_) (fun hge=>?_)
  ·rw [decide_eq_true_eq] at hlt
   have hlt:i<a.regs.length:=by omega
   have hlt2:i<b.regs.length:=by omega
   refine draw_vc (by kernel_rfl) (mkTab_ok _ _) (of_decide_eq_true rfl) (of_decide_eq_true rfl) ?_
   repeat (first | simp (maxSteps:=2000000) only [go_sem,↓condS,↓runOp,↓gateD,↓runD,↓reduceIte,Nat.reduceLT,Nat.reduceLeDiff,Nat.reduceEqDiff,reduceCtorEq,R4.enc] | rw [dr_cons])
   refine And.intro hlt (And.intro hlt (And.intro hlt2 (And.intro hlt2 (both (fun hne=>?_) (fun heq=>?_)))))
   ·have hne:a≠b:=fun q=>by subst q;simp at hne
    exact retV fun E=>by simp [SV.den,SC.den,hne]
   ·rw [wr_succ (by omega)]
    refine backI ⟨i+1,by omega,take_eqS (d:=r40) hlt hlt2 htk (r4_eq_iff.2 ?_)⟩ (by simp only;omega) (le_ren id rfl rfl (by simp [TmpsLe,look,SV.ren,SC.ren,idσ,SV.okN,SC.okN]) (by simp [OwnLe,BlkLeO,BlkLe,atN,look,Fm.get,idσ,SC.renL,SC.ren,SC.okL,SC.okN]) (by simp [ArrsLe,ArrLeO,atN,look,Fm.get,idσ,arrLe_of]) rfl)
    simpa only [Bool.not_eq_false',Bool.and_eq_true,beq_iff_eq] using heq
  ·rw [decide_eq_false_iff_not] at hge
   have hin:i=a.regs.length:=by omega
   subst hin
   have he:a=b:=fn_eq_iff.2 ⟨hw,by rw [List.take_length,hle,List.take_length] at htk;exact htk⟩
   exact retV fun E=>by simp [SV.den,SC.den,he]
 ·have dw:decide (a.words=b.words)=false:=decide_eq_false hw
  rw [dw]
  simp (maxSteps:=2000000) only [go_sem,↓condS,↓gateS,↓runOp,↓reduceIte,Nat.reduceLT,Nat.reduceEqDiff]
  have hne:a≠b:=fun q=>hw (by rw [q])
  exact retV fun E=>by simp [SV.den,SC.den,hne]
set_option maxRecDepth 100000 in
set_option maxHeartbeats 1000000 in
theorem sfinalsD_calls (w:World) (v v' : Value) (xs ys:List Fn) (h:FnsR w v xs) (h' : FnsR w v' ys):Calls Try.prog 28 #[v,v'] w (RetV w (.bool (decide (xs=ys)))):=by
 have hml:=fns_len h
 refine enterFns2 (A:=[]) (c:=ir28) (rs:=rs28) (nt:=nt28) h h' Try.func28 rfl (by kernel_rfl) (by kernel_rfl) rfl (of_decide_eq_true rfl) ?_
 simp (maxSteps:=2000000) only [ir28,nt28,rs28,go_sem,↓condS,↓runOp,↓reduceIte,Nat.reduceLT,Nat.reduceAdd,Nat.reduceEqDiff,reduceCtorEq,fsA,fsF_len,List.cons_append,List.nil_append]
 refine both (fun hne=>?_) (fun heq=>?_)
 ·have hne:xs≠ys:=fun q=>by subst q;simp at hne
  exact retV fun E=>by simp [SV.den,SC.den,hne]
 have hle:xs.length=ys.length:=by
  have q:(xs.length:Int)=ys.length:=by simpa using heq
  omega
 refine loopI (ι:={ i:Nat // i≤xs.length∧xs.take i=ys.take i }) (fun i=>⟨27,[(0,.c (.xv (0,0,0))),(1,.c (.xv (3,0,0))),(5,.c (.v (.int .i64 (i.1:Nat))))],[],fsA 0 xs++fsA 3 ys,[],6⟩)
  (fun i=>xs.length - i.1) ⟨0,by omega,by simp⟩ (le_ren id rfl rfl (by simp [TmpsLe,look,SV.ren,SC.ren,idσ,SV.okN,SC.okN]) trivial (by simp +contextual [fsA,ArrsLe,ArrLeO,atN,look,Fm.get,idσ,arrLe_of,arrLe_fs]) rfl) ?_
 rintro ⟨i,hi,htk⟩
 simp (maxSteps:=2000000) only [go_sem,↓condS,↓exitS,↓runOp,↓reduceIte,Nat.reduceLT,Nat.reduceAdd,Nat.reduceEqDiff,reduceCtorEq,fsA,fsF_len,List.cons_append,List.nil_append]
 refine both (fun hlt=>?_) (fun hge=>?_)
 ·rw [decide_eq_true_eq] at hlt
  have hlt:i<xs.length:=by omega
  have hlt2:i<ys.length:=by omega
  refine draw_vc (by kernel_rfl) (mkTab_ok _ _) (of_decide_eq_true rfl) (of_decide_eq_true rfl) ?_
  repeat (first | simp (maxSteps:=2000000) only [go_sem,↓gateD,↓runD,↓reduceIte,Nat.reduceLT,Nat.reduceLeDiff,Nat.reduceAdd,Nat.reduceEqDiff,reduceCtorEq,fsF_len,fsF_size,fsF_at] | rw [dr_cons])
  refine And.intro hlt (And.intro hlt (And.intro hlt2 (And.intro hlt2 ?_)))
  refine dcallV (.c (.v (.bool (decide (xs.getD i fn0=ys.getD i fn0))))) _ (fun E=>rfl) (fun E a' w' hs=>sfinalD_calls w' _ _ _ _ (fn_fs hs 1 i hlt rfl rfl) (fn_fs hs 4 i hlt2 rfl rfl)) ?_
  by_cases he:xs.getD i fn0=ys.getD i fn0
  ·have de:decide (xs.getD i fn0=ys.getD i fn0)=true:=decide_eq_true he
   rw [de]
   repeat (first | simp (maxSteps:=2000000) only [go_sem,↓condS,↓runOp,↓gateD,↓runD,↓reduceIte,Nat.reduceLT,Nat.reduceEqDiff,reduceCtorEq] | rw [dr_cons])
   rw [wr_succ (by omega)]
   exact backI ⟨i+1,by omega,take_eqS (d:=fn0) hlt hlt2 htk he⟩ (by simp only;omega) (le_ren id rfl rfl (by simp [TmpsLe,look,SV.ren,SC.ren,idσ,SV.okN,SC.okN]) trivial (by simp +contextual [ArrsLe,ArrLeO,atN,look,Fm.get,idσ,arrLe_of,arrLe_fs]) rfl)
  ·have de:decide (xs.getD i fn0=ys.getD i fn0)=false:=decide_eq_false he
   rw [de]
   repeat (first | simp (maxSteps:=2000000) only [go_sem,↓condS,↓runOp,↓gateD,↓runD,↓reduceIte,Nat.reduceLT,Nat.reduceEqDiff,reduceCtorEq] | rw [dr_cons])
   have hne:xs≠ys:=ne_at (d:=fn0) (i:=i) he
   exact retV fun E=>by simp [SV.den,SC.den,hne]
 ·rw [decide_eq_false_iff_not] at hge
  have hin:i=xs.length:=by omega
  subst hin
  have he:xs=ys:=by rw [List.take_length,hle,List.take_length] at htk;exact htk
  exact retV fun E=>by simp [SV.den,SC.den,he]
def nilF (e:Int):SV:=.tup [(false,[.v (.slice none 0 0)]),(false,[.v (.int .i64 e)])]
theorem nilF_den (e:Int) (E:Env):(nilF e).den E = .tuple #[.slice none 0 0,.int .i64 e]:=by simp [nilF,SV.den,SC.den,den1]
theorem rfin_err (w:World) (v:Value) (L:Lt) (o:Int) (he:refE L o≠0) (h:LtR w v L):Calls Try.prog 27 #[v,.int .i64 o] w (RetV w (.tuple #[.slice none 0 0,.int .i64 (refE L o)])):=by
 refine enterLt (A:=[]) (c:=ir27) (rs:=rs27) (nt:=nt27) h [.agg (ltS 0),.c (.v (.int .i64 o))] _ Try.func27 rfl (by kernel_rfl) (by kernel_rfl) rfl (fun E' h0=>by simp only [List.map_cons,List.map_nil,h0];rfl) (of_decide_eq_true rfl) ?_
 simp (maxSteps:=2000000) only [ir27,nt27,rs27,go_sem,↓runOp,↓reduceIte,Nat.reduceLT,Nat.reduceLeDiff,Nat.reduceAdd,Nat.reduceEqDiff,reduceCtorEq,ltA,ltS]
 refine callV (.c (.v (.int .i64 (refE L o)))) _ (fun E=>rfl) (fun E a w' hs=>refused_calls w' _ L o (ltL_at hs rfl rfl rfl)) ?_
 have d1:(refE L o == 0)=false:=by simpa using he
 simp (maxSteps:=2000000) only [go_sem,↓condS,↓runOp,↓imp_tf,↓imp_tt,↓reduceIte,Nat.reduceLT,Nat.reduceEqDiff,d1,bne,Bool.not_false]
 exact retV fun E=>nilF_den _ E
theorem walk_err (w:World) (v:Value) (L:Lt) (o:Int) (hok:LtOk L) (he:refE L o≠0) (h:LtR w v L):Calls Try.prog 49 #[v,.int .i64 o] w (RetV w (.tuple #[.slice none 0 0,.int .i64 (refE L o)])):=by
 refine enterLt (A:=[]) (c:=ir49) (rs:=rs49) (nt:=nt49) h [.agg (ltS 0),.c (.v (.int .i64 o))] _ Try.func49 rfl (by kernel_rfl) (by kernel_rfl) rfl (fun E' h0=>by simp only [List.map_cons,List.map_nil,h0];rfl) (of_decide_eq_true rfl) ?_
 simp (maxSteps:=2000000) only [ir49,nt49,rs49,go_sem,↓runOp,↓reduceIte,Nat.reduceLT,Nat.reduceLeDiff,Nat.reduceAdd,Nat.reduceEqDiff,reduceCtorEq,Int.reduceNeg,ltA,ltS]
 refine callV (.c (.v (.int .i64 (refE L o)))) _ (fun E=>rfl) (fun E a w' hs=>look_calls w' _ L o hok (ltL_at hs rfl rfl rfl)) ?_
 have d1:(refE L o == 0)=false:=by simpa using he
 simp (maxSteps:=2000000) only [go_sem,↓condS,↓runOp,↓imp_tf,↓imp_tt,↓reduceIte,Nat.reduceLT,Nat.reduceEqDiff,Int.reduceNeg,d1,bne,Bool.not_false]
 exact retV fun E=>nilF_den _ E
theorem ifin_err (w:World) (v:Value) (L:Lt) (o:Int) (hok:LtOk L) (he:refE L o≠0) (h:LtR w v L):Calls Try.prog 26 #[v,.int .i64 o] w (RetV w (.tuple #[.slice none 0 0,.int .i64 (refE L o)])):=by
 refine enterLt (A:=[]) (c:=ir26) (rs:=rs26) (nt:=nt26) h [.agg (ltS 0),.c (.v (.int .i64 o))] _ Try.func26 rfl (by kernel_rfl) (by kernel_rfl) rfl (fun E' h0=>by simp only [List.map_cons,List.map_nil,h0];rfl) (of_decide_eq_true rfl) ?_
 simp (maxSteps:=2000000) only [ir26,nt26,rs26,go_sem,↓runOp,↓reduceIte,Nat.reduceLT,Nat.reduceLeDiff,Nat.reduceAdd,Nat.reduceEqDiff,reduceCtorEq,ltA,ltS]
 refine callV (nilF (refE L o)) _ (nilF_den _) (fun E a w' hs=>walk_err w' _ L o hok he (ltL_at hs rfl rfl rfl)) ?_
 have d1:(refE L o == 0)=false:=by simpa using he
 simp (maxSteps:=2000000) only [go_sem,↓condS,↓runOp,↓imp_tf,↓imp_tt,↓reduceIte,Nat.reduceLT,Nat.reduceEqDiff,nilF,d1,bne,Bool.not_false]
 exact retV fun E=>nilF_den _ E
end Go.Proofs.Ytmcpdafmkkjlcaa.Z
namespace Go.Proofs.Ytmcpdafmkkjlcaa.Z
open Go Go.RowKit
theorem nest_ownH {C:Ctx} {E:Env} {S:St} {a:Act} {w:World} (hs:Sat C.B C.W C.w0 E S a w) {α:Type} {enc:α→List Value} {s ty:Nat} {ls:List (List α)} (j:Nm) (ν:Nat→Nm) (n:Nat) (hn:n=ls.length) (at_:Nat→List SC) (hj:atN S.own j=some (.ar n 1 at_ ty)) (ha:∀ k,k<n→at_ k=[.sl (ν k) s 0 (ls.getD k []).length none])
  (hi:∀ k,k<ls.length→Arr w enc s ((SC.sl (ν k) s 0 (ls.getD k []).length none).den E) (ls.getD k [])):Nest w enc s ((SC.sl j 1 0 n none).den E) ls:=by
 subst hn
 refine ⟨(List.range ls.length).map fun k=>(SC.sl (ν k) s 0 (ls.getD k []).length none).den E,?_,by simp,fun k hk=>?_⟩
 ·obtain ⟨H,hH,_⟩:=hs.mem
  rcases ar_heap hH hj with ⟨h1,h2,h3,_⟩ | ⟨h1,h2,h3,cells,h4,h5,h6,h7⟩
  ·have h0:ls=[]:=List.eq_nil_of_length_eq_zero h3
   subst h0
   exact ⟨if E.ν j=true then none else some ⟨E.ρ j,0,none⟩,0,by simp [SC.den,h2],Nat.le_refl _,by simp [maxLen],Or.inl rfl⟩
  ·refine ⟨some ⟨E.ρ j,0,none⟩,E.κ j,by simp [SC.den,h1],by simpa using h2.1,h3,Or.inr ⟨_,_,rfl,fun e y hy q u hu=>?_⟩⟩
   rw [cell_of_row w _ _ _ ty (0,0) h5,Nat.zero_add]
   have he:e<ls.length:=by
    have:=(List.getElem?_eq_some_iff.1 hy).1
    simpa using this
   simp [he] at hy
   subst hy
   cases q with
   | zero =>
    simp only [one1',List.getElem?_cons_zero,Option.some.injEq] at hu
    subst hu
    exact ((h7 e he).2 0 _ (by rw [ha e he];simp [he])).1
   | succ q=>simp [one1'] at hu
 ·have:((List.range ls.length).map fun k=>(SC.sl (ν k) s 0 (ls.getD k []).length none).den E).getD k nest0=(SC.sl (ν k) s 0 (ls.getD k []).length none).den E:=by rw [List.getD_eq_getElem?_getD,List.getElem?_map,List.getElem?_range hk];rfl
  rw [this]
  exact hi k hk
def aw1:List Ins:=[⟨2,0,0,1,-1,0,0⟩,⟨1,0,1,0,0,0,0⟩]
def aw2:List Ins:=[⟨2,0,1,1,-1,0,0⟩,⟨1,0,0,0,0,0,0⟩]
def awL:Lt:=⟨[0,0],[aw1,aw2]⟩
def awF (o:Int):Option Nat:=(bfs awL o).map fun l=>(finsL awL (l.map (·.s))).length
theorem aw_1:awF 1=some 3:=by decide +kernel
theorem aw_2:awF 2=some 4:=by decide +kernel
theorem aw_ok:checkB awL=true:=by decide +kernel
theorem awL_ok:LtOk awL:=by
 intro code hc c hi
 simp only [awL,List.mem_cons,List.not_mem_nil,or_false] at hc
 rcases hc with rfl | rfl <;> (simp only [aw1,aw2,List.mem_cons,List.not_mem_nil,or_false] at hi;rcases hi with rfl | rfl <;> exact ⟨by decide,by decide⟩)
def ir29:IR:=(.seq (.ops [⟨(some 0),(.mv (.k (.c (.v (.bool false))))),none⟩]) (.kill [0,1,2,3,4,5,6,7,8,9,10,11] (.seq (.ops [⟨(some 6),(.mkSl 3 2 1 [(.v (.int .i64 0)),(.v (.int .i64 0))] [(0,(1,(.k (.c (.v (.int .i64 0)))))),(1,(1,(.k (.c (.v (.int .i64 0))))))]),none⟩,⟨(some 7),(.build [(.v (.int .i64 0)),(.v (.int .i64 0)),(.v (.int .i64 0)),(.v (.int .i64 0)),(.v (.int .i64 0)),(.v (.int .i64 0)),(.v (.int .i64 0))] [(0,(1,(.k (.c (.v (.int .i64 2)))))),(2,(1,(.k (.c (.v (.int .i64 0)))))),(3,(1,(.k (.c (.v (.int .i64 1)))))),(4,(1,(.k (.c (.v (.int .i64 (-1)))))))]),none⟩,⟨(some 8),(.build [(.v (.int .i64 0)),(.v (.int .i64 0)),(.v (.int .i64 0)),(.v (.int .i64 0)),(.v (.int .i64 0)),(.v (.int .i64 0)),(.v (.int .i64 0))] [(0,(1,(.k (.c (.v (.int .i64 1)))))),(2,(1,(.k (.c (.v (.int .i64 1))))))]),none⟩,⟨(some 9),(.mkSl 83 2 7 [(.v (.int .i64 0)),(.v (.int .i64 0)),(.v (.int .i64 0)),(.v (.int .i64 0)),(.v (.int .i64 0)),(.v (.int .i64 0)),(.v (.int .i64 0)),(.v (.int .i64 0)),(.v (.int .i64 0)),(.v (.int .i64 0)),(.v (.int .i64 0)),(.v (.int .i64 0)),(.v (.int .i64 0)),(.v (.int .i64 0))] [(0,(7,(.t 7))),(7,(7,(.t 8)))]),none⟩,⟨(some 10),(.build [(.v (.int .i64 0)),(.v (.int .i64 0)),(.v (.int .i64 0)),(.v (.int .i64 0)),(.v (.int .i64 0)),(.v (.int .i64 0)),(.v (.int .i64 0))] [(0,(1,(.k (.c (.v (.int .i64 2)))))),(2,(1,(.k (.c (.v (.int .i64 1)))))),(3,(1,(.k (.c (.v (.int .i64 1)))))),(4,(1,(.k (.c (.v (.int .i64 (-1)))))))]),none⟩,⟨(some 11),(.build [(.v (.int .i64 0)),(.v (.int .i64 0)),(.v (.int .i64 0)),(.v (.int .i64 0)),(.v (.int .i64 0)),(.v (.int .i64 0)),(.v (.int .i64 0))] [(0,(1,(.k (.c (.v (.int .i64 1)))))),(2,(1,(.k (.c (.v (.int .i64 0))))))]),none⟩,⟨(some 12),(.mkSl 83 2 7 [(.v (.int .i64 0)),(.v (.int .i64 0)),(.v (.int .i64 0)),(.v (.int .i64 0)),(.v (.int .i64 0)),(.v (.int .i64 0)),(.v (.int .i64 0)),(.v (.int .i64 0)),(.v (.int .i64 0)),(.v (.int .i64 0)),(.v (.int .i64 0)),(.v (.int .i64 0)),(.v (.int .i64 0)),(.v (.int .i64 0))] [(0,(7,(.t 10))),(7,(7,(.t 11)))]),none⟩,⟨(some 13),(.mkSl 80 2 1 [(.v (.slice none 0 0)),(.v (.slice none 0 0))] [(0,(1,(.t 9))),(1,(1,(.t 12)))]),none⟩,⟨(some 14),(.build [(.v (.slice none 0 0)),(.v (.slice none 0 0))] [(0,(1,(.t 6))),(1,(1,(.t 13)))]),none⟩,⟨(some 1),(.new 25 [(.v (.slice none 0 0)),(.v (.slice none 0 0))]),none⟩,⟨none,(.st 2 (.t 1) (.t 14)),none⟩]) (.kill [6,7,8,9,10,11,12,13,14] (.seq (.ops [⟨(some 16),(.ld true 2 (.t 1)),none⟩,⟨(some 17),(.call 26 [(.t 16),(.k (.c (.v (.int .i64 1))))]),none⟩,⟨(some 15),(.mv (.t 17)),none⟩,⟨(some 18),(.ext 0 (.t 15)),none⟩,⟨(some 19),(.ext 1 (.t 15)),none⟩,⟨(some 2),(.mv (.t 18)),none⟩,⟨(some 3),(.mv (.t 19)),none⟩]) (.kill [15,16,17,18,19] (.seq (.ops [⟨(some 21),(.ld true 2 (.t 1)),none⟩,⟨(some 22),(.call 26 [(.t 21),(.k (.c (.v (.int .i64 2))))]),none⟩,⟨(some 20),(.mv (.t 22)),none⟩,⟨(some 23),(.ext 0 (.t 20)),none⟩,⟨(some 24),(.ext 1 (.t 20)),none⟩,⟨(some 4),(.mv (.t 23)),none⟩,⟨(some 5),(.mv (.t 24)),none⟩]) (.kill [1,20,21,22,23,24] (.seq (.ops [⟨(some 25),(.mv (.t 3)),none⟩,⟨(some 26),(.call 14 [(.t 25)]),none⟩,⟨(some 27),(.bin .eql (.t 26) (.k (.c (.v (.int .i64 0))))),none⟩,⟨(some 28),(.mv (.t 27)),none⟩,⟨(some 29),(.mv (.t 5)),(some (28,true))⟩,⟨(some 30),(.call 14 [(.t 29)]),(some (28,true))⟩,⟨(some 31),(.bin .eql (.t 30) (.k (.c (.v (.int .i64 0))))),(some (28,true))⟩,⟨(some 32),(.pick (.t 28) (.t 31) (.k (.c (.v (.bool false))))),none⟩,⟨(some 33),(.mv (.t 32)),none⟩,⟨(some 34),(.mv (.t 2)),(some (33,true))⟩,⟨(some 35),(.len (.t 34)),(some (33,true))⟩,⟨(some 36),(.bin .eql (.t 35) (.k (.c (.v (.int .i64 3))))),(some (33,true))⟩,⟨(some 37),(.pick (.t 33) (.t 36) (.k (.c (.v (.bool false))))),none⟩,⟨(some 38),(.mv (.t 37)),none⟩,⟨(some 39),(.mv (.t 4)),(some (38,true))⟩,⟨(some 40),(.len (.t 39)),(some (38,true))⟩,⟨(some 41),(.bin .eql (.t 40) (.k (.c (.v (.int .i64 4))))),(some (38,true))⟩,⟨(some 42),(.pick (.t 38) (.t 41) (.k (.c (.v (.bool false))))),none⟩,⟨(some 0),(.mv (.t 42)),none⟩]) (.kill [2,3,4,5,25,26,27,28,29,30,31,32,33,34,35,36,37,38,39,40,41,42] .ret))))))))))
def rs29:List RS:=[(.t 0)]
def nt29:Nat:=43
set_option maxRecDepth 100000 in
set_option maxHeartbeats 1000000 in
theorem awake_calls (w:World):Calls Try.prog 29 #[] w (RetV w (.bool true)):=by
 refine enter0 (A:=[]) (c:=ir29) (rs:=rs29) (nt:=nt29) [] #[] Try.func29 rfl (by kernel_rfl) (by kernel_rfl) rfl (fun E'=>rfl) (of_decide_eq_true rfl) ?_
 simp (maxSteps:=2000000) only [ir29,nt29,rs29,go_sem,↓runOp,↓reduceIte,Nat.reduceLT,Nat.reduceLeDiff,Nat.reduceAdd,Nat.reduceMul,Nat.reduceEqDiff,reduceCtorEq,Int.reduceNeg]
 repeat (with_reducible refine And.intro (by decide) ?_)
 obtain ⟨l1,b1,n1⟩:∃ l,bfs awL 1=some l∧(finsL awL (l.map (·.s))).length=3:=by
  have:=aw_1
  unfold awF at this
  cases e:bfs awL 1 with
  | none=>rw [e] at this;cases this
  | some l=>rw [e] at this;exact ⟨l,rfl,by simpa using this⟩
 obtain ⟨l2,b2,n2⟩:∃ l,bfs awL 2=some l∧(finsL awL (l.map (·.s))).length=4:=by
  have:=aw_2
  unfold awF at this
  cases e:bfs awL 2 with
  | none=>rw [e] at this;cases this
  | some l=>rw [e] at this;exact ⟨l,rfl,by simpa using this⟩
 have hl:∀ {C:Ctx} {E:Env} {S:St} {a:Act} {w' : World},Sat C.B C.W C.w0 E S a w'→look S.own 0=some (.one (.ar 2 1 (segs 1 [.v (.int .i64 0),.v (.int .i64 0)]) 3)) →
   look S.own 1=some (.one (.ar 2 7 (segs 7 [.v (.int .i64 2),.v (.int .i64 0),.v (.int .i64 0),.v (.int .i64 1),.v (.int .i64 (-1)),.v (.int .i64 0),.v (.int .i64 0),.v (.int .i64 1),.v (.int .i64 0),.v (.int .i64 1),.v (.int .i64 0),.v (.int .i64 0),.v (.int .i64 0),.v (.int .i64 0)]) 83)) →
   look S.own 2=some (.one (.ar 2 7 (segs 7 [.v (.int .i64 2),.v (.int .i64 0),.v (.int .i64 1),.v (.int .i64 1),.v (.int .i64 (-1)),.v (.int .i64 0),.v (.int .i64 0),.v (.int .i64 1),.v (.int .i64 0),.v (.int .i64 0),.v (.int .i64 0),.v (.int .i64 0),.v (.int .i64 0),.v (.int .i64 0)]) 83)) →
   look S.own 3=some (.one (.ar 2 1 (segs 1 [.sl (1,0,0) 7 0 2 none,.sl (2,0,0) 7 0 2 none]) 80))→LtR w' ((SV.agg [.sl (0,0,0) 1 0 2 none,.sl (3,0,0) 1 0 2 none]).den E) awL:=fun {C E S a w'} hs h0 h1 h2 h3=>by
  have two:∀ e:Nat,e<2→e=0∨e=1:=fun e he=>by omega
  refine ⟨(SC.sl (0,0,0) 1 0 2 none).den E,(SC.sl (3,0,0) 1 0 2 none).den E,by simp [SV.den],arr_ownX (d:=0) hs (0,0,0) _ _ _ (by simp only [atN,h0,Fm.get,and_self,if_true];rfl) rfl (Nat.le_refl _) (fun e he=>by rcases two e he with rfl | rfl <;> rfl),nest_ownH hs (3,0,0) (fun k=>(k+1,0,0)) 2 rfl _ (by simp only [atN,h3,Fm.get,and_self,if_true];rfl) (fun k hk=>by rcases two k hk with rfl | rfl <;> rfl) (fun k hk=>?_)⟩
  rcases two k hk with rfl | rfl
  ·exact arr_ownX (d:=in0) hs (1,0,0) _ _ _ (by simp only [atN,h1,Fm.get,and_self,if_true];rfl) rfl (Nat.le_refl _) (fun e he=>by rcases two e he with rfl | rfl <;> rfl)
  ·exact arr_ownX (d:=in0) hs (2,0,0) _ _ _ (by simp only [atN,h2,Fm.get,and_self,if_true];rfl) rfl (Nat.le_refl _) (fun e he=>by rcases two e he with rfl | rfl <;> rfl)
 have hF1:FinR awL 1=fun w=>RetN w 3 (leT 2 (finsL awL (l1.map (·.s))).length 0) (fun b=>foO b (finsL awL (l1.map (·.s)))):=by funext w e w';unfold FinR;rw [b1]
 have hF2:FinR awL 2=fun w=>RetN w 3 (leT 2 (finsL awL (l2.map (·.s))).length 0) (fun b=>foO b (finsL awL (l2.map (·.s)))):=by funext w e w';unfold FinR;rw [b2]
 generalize finsL awL (l1.map (·.s))=f1 at n1 hF1
 generalize finsL awL (l2.map (·.s))=f2 at n2 hF2
 refine callN 3 (leT 2 f1.length 0) (fun b=>foO b f1) (fun E a w' hs=>by
  have:=ifin_calls w' _ awL 1 aw_ok (by decide) awL_ok (hl hs rfl rfl rfl rfl)
  rw [hF1] at this
  exact this) ?_
 rw [n1]
 simp (maxSteps:=2000000) only [go_sem,↓runOp,↓reduceIte,Nat.reduceLT,Nat.reduceLeDiff,Nat.reduceAdd,Nat.reduceEqDiff,reduceCtorEq,Int.reduceNeg,leT,foO]
 refine callN 3 (leT 2 f2.length 0) (fun b=>foO b f2) (fun E a w' hs=>by
  have:=ifin_calls w' _ awL 2 aw_ok (by decide) awL_ok (hl hs rfl rfl rfl rfl)
  rw [hF2] at this
  exact this) ?_
 rw [n2]
 simp (maxSteps:=2000000) only [go_sem,↓runOp,↓reduceIte,Nat.reduceLT,Nat.reduceAdd,Nat.reduceEqDiff,reduceCtorEq,Int.reduceNeg,leT,foO]
 refine callV (.c (.v (.int .i64 0))) _ (fun E=>rfl) (fun E a w' hs=>num_calls w' _) ?_
 simp (maxSteps:=2000000) only [go_sem,↓gateS,↓runOp,↓imp_tt,↓reduceIte,Nat.reduceLT,Nat.reduceEqDiff,Int.reduceNeg]
 refine guardW (.c (.v (.int .i64 0))) _ (fun E=>rfl) (fun E a w' hs=>num_calls w' _) ?_
 simp (maxSteps:=2000000) only [go_sem,↓gateS,↓runOp,↓imp_tt,↓reduceIte,Nat.reduceLT,Nat.reduceEqDiff,reduceCtorEq,Int.reduceNeg]
 exact retV fun E=>by simp [SV.den,SC.den]
end Go.Proofs.Ytmcpdafmkkjlcaa.Z
namespace Go.Proofs.Ytmcpdafmkkjlcaa.Z
open Go Go.RowKit
theorem st_own {C:Ctx} {E:Env} {S:St} {a:Act} {w:World} (hs:Sat C.B C.W C.w0 E S a w) {s:LS} (b:Nat) (h6:look S.own b=some (.one (.ar s.words.length 1 (ats eI s.words 0) 3))) (h7:look S.own (b+1)=some (.one (.ar s.regs.length 4 (ats R4.enc s.regs r40) 68))) (h8:look S.own (b+2)=some (.one (.ar s.places.length 1 (ats eI s.places 0) 3)))
  (h9:look S.own (b+3)=some (.one (.ar s.bufs.length 1 (bfC (b+4) s) 86))) (h10:look S.own (b+4)=some (.fam s.bufs.length (bfO s))):StR w ((SV.agg (stC b s)).den E) s :=
 ⟨_,_,_,_,by simp [stC,SV.den],own_at (d:=0) hs b _ h6 rfl,own_at (d:=r40) hs (b+1) _ h7 rfl,own_at (d:=0) hs (b+2) _ h8 rfl,nest_own (d:=pd0) hs (b+3,0,0) (b+4) _ rfl (bfC (b+4) s) (by simp [atN,h9,Fm.get];rfl) (fun _ _=>rfl) (fun k hk=>by simp [atN,h10,Fm.get,hk,bfO];rfl)⟩
theorem st_nil (w:World):StR w (.agg #[.slice none 0 0,.slice none 0 0,.slice none 0 0,.slice none 0 0]) ⟨[],[],[],[]⟩ :=
 ⟨_,_,_,_,rfl,Arr.nil _ _ _,Arr.nil _ _ _,Arr.nil _ _ _,[],Arr.nil _ _ _,rfl,fun k hk=>by simp at hk⟩
end Go.Proofs.Ytmcpdafmkkjlcaa.Z
