/- WitnessFindsSaid: what its proof is made of. No condition. -/
import Derived.Test.YtkjeedlkkpgopaaPkWitnessFindsAM
set_option linter.unusedSimpArgs false
set_option linter.unusedVariables false
namespace Go.Proofs.Ytkjeedlkkpgopaa.Z
open Go Go.RowKit
theorem kind_Z (k:Int) (w:World):Calls Try.prog 96 #[.int .i64 k] w (RetV w (.agg #[.int .i64 k,.int .i64 0])):=rkind_any k w
theorem value_Z (v:Int) (w:World):Calls Try.prog 97 #[.int .i64 v] w (RetV w (.agg #[.int .i64 2,.int .i64 v])):=rvalue_any v w
theorem yes_Z (b:Bool) (w:World):Calls Try.prog 104 #[.bool b] w (RetV w (.agg #[.int .i64 (if b=true then 5 else 6),.int .i64 0])):=ryes_any b w
theorem set_Z {v:Value} {l:List Int} (k:Int) {w:World} (h:Arr w eI 1 v l) (hinc:incB l=true) (hl:l.length<4611686018427387904) :
  Calls Try.prog 102 #[v,.int .i64 k] w (RetV w (.tuple #[.int .i64 (pos l k:Nat),.bool (hasB l k)])):=by
 refine (rsearch_set h hinc hl).mono ?_
 rintro e w' ⟨i,rfl,hp,hb⟩
 have:=hp.eq
 subst this
 exact ⟨rfl,hb⟩
theorem table_Z {v:Value} {l:List (Int×Int)} (k:Int) {w:World} (h:Arr w eP 2 v l) (hinc:incB (keys l)=true) (hl:l.length<4611686018427387904) :
  Calls Try.prog 103 #[v,.int .i64 k] w (RetV w (.tuple #[.int .i64 (pos (keys l) k:Nat),.bool (hasB (keys l) k)])):=by
 refine (rsearch_table h hinc hl).mono ?_
 rintro e w' ⟨i,rfl,hp,hb⟩
 have:=hp.eq
 subst this
 exact ⟨rfl,hb⟩
theorem enterC {P:Program} {A:List Nat} {f nt:Nat} {fn:Func} {x:Code} {c:IR} {w:World} {rs:List RS} {R:Ending→World→Prop} {v:Value} {m:MC} (h:Cont w v m) (sc:List SV) (args:Array Value)
  (hf:P.funcs[f]? = some fn) (hb:fn.body=some x) (hc:compC (mkTab P A) x=some c.strip) (hr:compR (mkTab P A).T fn.results.toList=some rs) (hn:fn.ntmps=nt)
  (hargs:∀ E' : Env,(SV.agg (mcS 0)).den E' = v→(sc.map (SV.den E')).toArray=args) (hnt:sc.length≤nt)
  (hex:exec (mkC P A w rs R) 1000 [.code c] ⟨nt,enumT 0 sc,[],mcA 0 m,[],5⟩):Calls P f args w R:=by
 obtain ⟨v0,v1,v2,v3,v4,rfl,h0,h1,h2,h3,h4⟩:=h
 have hone:OneC ⟨fun _=>0,fun _=>0,fun _=>false,fun x=>fiv v0 v1 v2 v3 v4 x.1⟩:=fun x=>by
  simp only [fiv]
  split
  ·exact arr_one h0
  ·exact arr_one h1
  ·exact arr_one h2
  ·exact arr_one h3
  ·exact arr_one h4
 refine calls_sym (c:=c) (C:=mkC P A w rs R) 1000 sc ⟨fun _=>0,fun _=>0,fun _=>false,fun x=>fiv v0 v1 v2 v3 v4 x.1⟩ [] _ [] 5 nt args (mkTab_ok _ _) hf hb hc hr hn rfl rfl hone (fun E' hE'=>hargs E' ?_) hnt (fun E' hE'=>inOk_arrs fun w' hw' x A hA=>?_) hex
 all_goals have e0:E'.χ (0,0,0)=v0:=(hE' (0,0,0) (by decide)).2.2.2
 all_goals have e1:E'.χ (1,0,0)=v1:=(hE' (1,0,0) (by decide)).2.2.2
 all_goals have e2:E'.χ (2,0,0)=v2:=(hE' (2,0,0) (by decide)).2.2.2
 all_goals have e3:E'.χ (3,0,0)=v3:=(hE' (3,0,0) (by decide)).2.2.2
 all_goals have e4:E'.χ (4,0,0)=v4:=(hE' (4,0,0) (by decide)).2.2.2
 ·simp [mcS,SV.den,SC.den,e0,e1,e2,e3,e4]
 ·rcases atN_one hA with ⟨rfl,rfl⟩ | hA
  ·exact arr1 eI_ok e0 h0 hw'
  rcases atN_one hA with ⟨rfl,rfl⟩ | hA
  ·exact arr1 eI_ok e1 h1 hw'
  rcases atN_one hA with ⟨rfl,rfl⟩ | hA
  ·exact arr1 eI_ok e2 h2 hw'
  rcases atN_one hA with ⟨rfl,rfl⟩ | hA
  ·exact arr1 eI_ok e3 h3 hw'
  rcases atN_one hA with ⟨rfl,rfl⟩ | hA
  ·exact arr1 eP_ok e4 h4 hw'
  exact (atN_nil hA).elim
def MC.okR (m:MC):Prop:=m.ok 1∧(m.stack.length+1) * 8≤140737488355328
def rdT (d:MC×Int×Int) (b:Nat):SV:=.tup [(true,mcS b),(true,[.v (.int .i64 d.2.1),.v (.int .i64 d.2.2)])]
theorem rdT_ok (c0 c1 c2 c3 c4:SC) (d:MC×Int×Int):∀ b (E E2:Env),E2.χ (b,0,0)=c0.den E→E2.χ (b+1,0,0)=c1.den E→E2.χ (b+2,0,0)=c2.den E→E2.χ (b+3,0,0)=c3.den E→E2.χ (b+4,0,0)=c4.den E →
  (SV.tup [(true,[c0,c1,c2,c3,c4]),(true,[.v (.int .i64 d.2.1),.v (.int .i64 d.2.2)])]).den E=(rdT d b).den E2:=fun b E E2 e0 e1 e2 e3 e4=>by
 simp [rdT,mcS,SV.den,den1,SC.den,e0,e1,e2,e3,e4]
theorem ats_ins {α:Type} {enc:α→List Value} {l:List α} {d x:α} {p:Nat} (hp:p≤l.length) {f0 f1 g:Nat→List SC} (hf0:∀ e,e<p→f0 e=ats enc l d e) (hf1:f1 0=(enc x).map .v) (hg:∀ e,e<l.length - p→g e=ats enc l d (p+e)) :
  ∀ e,e<(insAt l p x).length→appAt (p+1) (appAt p f0 f1) g e=ats enc (insAt l p x) d e:=fun e he=>by
 rw [insAt_len _ _ _ hp] at he
 unfold appAt
 by_cases h1:e<p
 ·rw [if_pos (by omega),if_pos h1,hf0 e h1]
  simp only [ats,insAt,List.getD_eq_getElem?_getD]
  rw [List.getElem?_append_left (by simp;omega),List.getElem?_take_of_lt h1]
 ·by_cases h2:e=p
  ·subst h2
   rw [if_pos (by omega),if_neg h1,Nat.sub_self,hf1]
   simp only [ats,insAt,List.getD_eq_getElem?_getD]
   rw [List.getElem?_append_right (by simp;omega)]
   simp [Nat.min_eq_left hp]
  ·rw [if_neg (by omega),hg _ (by omega),show p+(e - (p+1))=e - 1 by omega]
   simp only [ats,insAt,List.getD_eq_getElem?_getD]
   rw [List.getElem?_append_right (by simp;omega)]
   simp only [List.length_take,Nat.min_eq_left hp]
   rw [show e - p=(e - 1 - p)+1 by omega,List.getElem?_cons_succ,List.getElem?_drop,show p+(e - 1 - p)=e - 1 by omega]
theorem ats_del {α:Type} {enc:α→List Value} {l:List α} {d:α} {p:Nat} (hp:p<l.length) {f0 g:Nat→List SC} (hf0:∀ e,e<p→f0 e=ats enc l d e) (hg:∀ e,e<l.length - (p+1)→g e=ats enc l d (p+1+e)) :
  ∀ e,e<(delAt l p).length→appAt p f0 g e=ats enc (delAt l p) d e:=fun e he=>by
 have hl:(delAt l p).length=l.length - 1:=delAt_len l p hp
 rw [hl] at he
 unfold appAt
 by_cases h1:e<p
 ·rw [if_pos h1,hf0 e h1]
  simp only [ats,delAt,List.getD_eq_getElem?_getD]
  rw [List.getElem?_append_left (by simp;omega),List.getElem?_take_of_lt h1]
 ·rw [if_neg h1,hg _ (by omega)]
  simp only [ats,delAt,List.getD_eq_getElem?_getD]
  have hlen:(l.take p).length=p:=by simp;omega
  rw [List.getElem?_append_right (by rw [hlen];omega),List.getElem?_drop,hlen]
def ir84:IR:=(.seq (.ops [⟨(some 1),(.box 70 (.t 0)),none⟩,⟨(some 2),(.new 70 [(.v (.slice none 0 0)),(.v (.slice none 0 0)),(.v (.slice none 0 0)),(.v (.slice none 0 0)),(.v (.slice none 0 0))]),none⟩]) (.kill [0,3,4,5,6,7,8,9,10,11] (.seq (.draw [(⟨(some 3),(.fa 0 (.t 1)),none⟩,([],[6,7,9,10,12,13,15,16])),(⟨(some 4),(.ld false 1 (.t 3)),none⟩,([],[6,7,9,10,12,13,15,16])),(⟨(some 5),(.app 3 1 8 [(.v (.int .i64 0))] (.k (.c (.v (.slice none 0 0)))) (.t 4)),none⟩,([],[6,7,9,10,12,13,15,16])),(⟨(some 6),(.fa 1 (.t 1)),none⟩,([0,1,2],[3,4,5,9,10,12,13,15,16])),(⟨(some 7),(.ld false 1 (.t 6)),none⟩,([0,1,2],[3,4,5,9,10,12,13,15,16])),(⟨(some 8),(.app 3 1 8 [(.v (.int .i64 0))] (.k (.c (.v (.slice none 0 0)))) (.t 7)),none⟩,([],[9,10,12,13,15,16])),(⟨(some 9),(.fa 2 (.t 1)),none⟩,([0,1,2,3,4,5],[3,4,5,6,7,8,12,13,15,16])),(⟨(some 10),(.ld false 1 (.t 9)),none⟩,([0,1,2,3,4,5],[3,4,5,6,7,8,12,13,15,16])),(⟨(some 11),(.app 3 1 8 [(.v (.int .i64 0))] (.k (.c (.v (.slice none 0 0)))) (.t 10)),none⟩,([],[12,13,15,16])),(⟨(some 12),(.fa 3 (.t 1)),none⟩,([0,1,2,3,4,5,6,7,8],[3,4,5,6,7,8,9,10,11,15,16])),(⟨(some 13),(.ld false 1 (.t 12)),none⟩,([0,1,2,3,4,5,6,7,8],[3,4,5,6,7,8,9,10,11,15,16])),(⟨(some 14),(.app 3 1 8 [(.v (.int .i64 0))] (.k (.c (.v (.slice none 0 0)))) (.t 13)),none⟩,([],[15,16])),(⟨(some 15),(.fa 4 (.t 1)),none⟩,([0,1,2,3,4,5,6,7,8,9,10,11],[3,4,5,6,7,8,9,10,11,12,13,14])),(⟨(some 16),(.ld false 1 (.t 15)),none⟩,([0,1,2,3,4,5,6,7,8,9,10,11],[3,4,5,6,7,8,9,10,11,12,13,14])),(⟨(some 17),(.app 98 2 16 [(.v (.int .i64 0)),(.v (.int .i64 0))] (.k (.c (.v (.slice none 0 0)))) (.t 16)),none⟩,([],[])),(⟨(some 18),(.build [(.v (.slice none 0 0)),(.v (.slice none 0 0)),(.v (.slice none 0 0)),(.v (.slice none 0 0)),(.v (.slice none 0 0))] [(0,(1,(.t 5))),(1,(1,(.t 8))),(2,(1,(.t 11))),(3,(1,(.t 14))),(4,(1,(.t 17)))]),none⟩,([],[])),(⟨none,(.st 5 (.t 2) (.t 18)),none⟩,([],[]))]) (.kill [1,3,4,5,6,7,8,9,10,11,12,13,14,15,16,17,18] .ret))))
def rs84:List RS:=[(.cell 2 true 5)]
def nt84:Nat:=19
def ir83:IR:=(.seq (.ops [⟨(some 4),(.box 70 (.t 0)),none⟩,⟨(some 8),(.new 70 [(.v (.slice none 0 0)),(.v (.slice none 0 0)),(.v (.slice none 0 0)),(.v (.slice none 0 0)),(.v (.slice none 0 0))]),none⟩,⟨(some 9),(.new 51 [(.v (.int .i64 0)),(.v (.int .i64 0))]),none⟩]) (.kill [0,5,6,7,10,11] (.seq (.ops [⟨(some 13),(.ld true 5 (.t 4)),none⟩,⟨(some 14),(.call 84 [(.t 13)]),none⟩,⟨(some 10),(.new 70 [(.v (.slice none 0 0)),(.v (.slice none 0 0)),(.v (.slice none 0 0)),(.v (.slice none 0 0)),(.v (.slice none 0 0))]),none⟩,⟨none,(.st 5 (.t 10) (.t 14)),none⟩]) (.kill [4,13,14] (.seq (.seq (.ops [⟨(some 15),(.mv (.t 1)),none⟩]) (.blk 0 (.seq (.ops [⟨(some 17),(.bin .eql (.t 15) (.k (.c (.v (.int .i64 22))))),none⟩,⟨(some 16),(.mv (.t 17)),none⟩]) (.kill [17] (.cond (.t 16) (.seq (.ops [⟨(some 18),(.mv (.t 2)),none⟩,⟨(some 19),(.mkSl 3 1 1 [(.v (.int .i64 0))] [(0,(1,(.t 18)))]),none⟩,⟨(some 20),(.fa 0 (.t 10)),none⟩,⟨none,(.st 1 (.t 20) (.t 19)),none⟩]) (.kill [1,2,3,15,16,18,19,20] (.seq (.draw [(⟨(some 21),(.ld true 5 (.t 10)),none⟩,([],[22])),(⟨(some 22),(.call 96 [(.k (.c (.v (.int .i64 1))))]),none⟩,([0],[21])),(⟨none,(.st 5 (.t 8) (.t 21)),none⟩,([],[])),(⟨none,(.st 2 (.t 9) (.t 22)),none⟩,([],[]))]) (.kill [10,21,22] .ret)))) (.seq (.ops [⟨(some 24),(.bin .eql (.t 15) (.k (.c (.v (.int .i64 23))))),none⟩,⟨(some 23),(.mv (.t 24)),none⟩]) (.kill [16,24] (.cond (.t 23) (.seq (.seq (.ops [⟨(some 25),(.fa 0 (.t 10)),none⟩,⟨(some 26),(.ld false 1 (.t 25)),none⟩,⟨(some 27),(.len (.t 26)),none⟩,⟨(some 28),(.bin .eql (.t 27) (.k (.c (.v (.int .i64 0))))),none⟩]) (.kill [1,2,3,15,23,25,26,27] (.cond (.t 28) (.seq (.draw [(⟨(some 29),(.ld true 5 (.t 10)),none⟩,([],[30])),(⟨(some 30),(.call 96 [(.k (.c (.v (.int .i64 3))))]),none⟩,([0],[29])),(⟨none,(.st 5 (.t 8) (.t 29)),none⟩,([],[])),(⟨none,(.st 2 (.t 9) (.t 30)),none⟩,([],[]))]) (.kill [10,28,29,30] .ret)) .skip))) (.kill [28] (.seq (.draw [(⟨(some 31),(.ld true 5 (.t 10)),none⟩,([],[32,33,34,35,36])),(⟨(some 32),(.fa 0 (.t 10)),none⟩,([0],[31])),(⟨(some 33),(.ld false 1 (.t 32)),none⟩,([0],[31])),(⟨(some 34),(.ia 1 (.t 33) (.k (.c (.v (.int .i64 0))))),none⟩,([0],[31])),(⟨(some 35),(.ld false 1 (.t 34)),none⟩,([0],[31])),(⟨(some 36),(.call 97 [(.t 35)]),none⟩,([0],[31])),(⟨none,(.st 5 (.t 8) (.t 31)),none⟩,([],[])),(⟨none,(.st 2 (.t 9) (.t 36)),none⟩,([],[]))]) (.kill [10,31,32,33,34,35,36] .ret)))) (.seq (.ops [⟨(some 38),(.bin .eql (.t 15) (.k (.c (.v (.int .i64 30))))),none⟩,⟨(some 37),(.mv (.t 38)),none⟩]) (.kill [23,38] (.cond (.t 37) (.seq (.ops [⟨(some 39),(.mv (.t 2)),none⟩,⟨(some 40),(.mkSl 3 1 1 [(.v (.int .i64 0))] [(0,(1,(.t 39)))]),none⟩,⟨(some 41),(.fa 1 (.t 10)),none⟩,⟨(some 42),(.ld false 1 (.t 41)),none⟩,⟨(some 43),(.app 3 1 8 [(.v (.int .i64 0))] (.t 40) (.t 42)),none⟩,⟨(some 44),(.fa 1 (.t 10)),none⟩,⟨none,(.st 1 (.t 44) (.t 43)),none⟩]) (.kill [1,2,3,15,37,39,40,41,42,43,44] (.seq (.draw [(⟨(some 45),(.ld true 5 (.t 10)),none⟩,([],[46])),(⟨(some 46),(.call 96 [(.k (.c (.v (.int .i64 1))))]),none⟩,([0],[45])),(⟨none,(.st 5 (.t 8) (.t 45)),none⟩,([],[])),(⟨none,(.st 2 (.t 9) (.t 46)),none⟩,([],[]))]) (.kill [10,45,46] .ret)))) (.seq (.ops [⟨(some 48),(.bin .eql (.t 15) (.k (.c (.v (.int .i64 31))))),none⟩,⟨(some 47),(.mv (.t 48)),none⟩]) (.kill [37,48] (.cond (.t 47) (.seq (.seq (.ops [⟨(some 49),(.fa 1 (.t 10)),none⟩,⟨(some 50),(.ld false 1 (.t 49)),none⟩,⟨(some 51),(.len (.t 50)),none⟩,⟨(some 52),(.bin .eql (.t 51) (.k (.c (.v (.int .i64 0))))),none⟩]) (.kill [1,2,3,15,47,49,50,51] (.cond (.t 52) (.seq (.draw [(⟨(some 53),(.ld true 5 (.t 10)),none⟩,([],[54])),(⟨(some 54),(.call 96 [(.k (.c (.v (.int .i64 3))))]),none⟩,([0],[53])),(⟨none,(.st 5 (.t 8) (.t 53)),none⟩,([],[])),(⟨none,(.st 2 (.t 9) (.t 54)),none⟩,([],[]))]) (.kill [10,52,53,54] .ret)) .skip))) (.kill [52] (.seq (.ops [⟨(some 55),(.fa 1 (.t 10)),none⟩,⟨(some 56),(.ld false 1 (.t 55)),none⟩,⟨(some 57),(.ia 1 (.t 56) (.k (.c (.v (.int .i64 0))))),none⟩,⟨(some 58),(.ld false 1 (.t 57)),none⟩,⟨(some 11),(.mv (.t 58)),none⟩]) (.kill [55,56,57,58] (.seq (.ops [⟨(some 59),(.fa 1 (.t 10)),none⟩,⟨(some 60),(.ld false 1 (.t 59)),none⟩,⟨(some 61),(.slc 1 (.t 60) (some (.k (.c (.v (.int .i64 1))))) none none),none⟩,⟨(some 62),(.fa 1 (.t 10)),none⟩,⟨none,(.st 1 (.t 62) (.t 61)),none⟩]) (.kill [59,60,61,62] (.seq (.draw [(⟨(some 63),(.ld true 5 (.t 10)),none⟩,([],[64,65])),(⟨(some 64),(.mv (.t 11)),none⟩,([0],[63])),(⟨(some 65),(.call 97 [(.t 64)]),none⟩,([0],[63])),(⟨none,(.st 5 (.t 8) (.t 63)),none⟩,([],[])),(⟨none,(.st 2 (.t 9) (.t 65)),none⟩,([],[]))]) (.kill [10,11,63,64,65] .ret)))))))) (.seq (.ops [⟨(some 67),(.bin .eql (.t 15) (.k (.c (.v (.int .i64 40))))),none⟩,⟨(some 66),(.mv (.t 67)),none⟩]) (.kill [47,67] (.cond (.t 66) (.seq (.ops [⟨(some 68),(.fa 2 (.t 10)),none⟩,⟨(some 69),(.ld false 1 (.t 68)),none⟩,⟨(some 70),(.mv (.t 2)),none⟩,⟨(some 71),(.mkSl 3 1 1 [(.v (.int .i64 0))] [(0,(1,(.t 70)))]),none⟩,⟨(some 72),(.app 3 1 8 [(.v (.int .i64 0))] (.t 69) (.t 71)),none⟩,⟨(some 73),(.fa 2 (.t 10)),none⟩,⟨none,(.st 1 (.t 73) (.t 72)),none⟩]) (.kill [1,2,3,15,66,68,69,70,71,72,73] (.seq (.draw [(⟨(some 74),(.ld true 5 (.t 10)),none⟩,([],[75])),(⟨(some 75),(.call 96 [(.k (.c (.v (.int .i64 1))))]),none⟩,([0],[74])),(⟨none,(.st 5 (.t 8) (.t 74)),none⟩,([],[])),(⟨none,(.st 2 (.t 9) (.t 75)),none⟩,([],[]))]) (.kill [10,74,75] .ret)))) (.seq (.ops [⟨(some 77),(.bin .eql (.t 15) (.k (.c (.v (.int .i64 41))))),none⟩,⟨(some 76),(.mv (.t 77)),none⟩]) (.kill [15,66,77] (.cond (.t 76) (.seq (.seq (.ops [⟨(some 78),(.fa 2 (.t 10)),none⟩,⟨(some 79),(.ld false 1 (.t 78)),none⟩,⟨(some 80),(.len (.t 79)),none⟩,⟨(some 81),(.bin .eql (.t 80) (.k (.c (.v (.int .i64 0))))),none⟩]) (.kill [1,2,3,76,78,79,80] (.cond (.t 81) (.seq (.draw [(⟨(some 82),(.ld true 5 (.t 10)),none⟩,([],[83])),(⟨(some 83),(.call 96 [(.k (.c (.v (.int .i64 3))))]),none⟩,([0],[82])),(⟨none,(.st 5 (.t 8) (.t 82)),none⟩,([],[])),(⟨none,(.st 2 (.t 9) (.t 83)),none⟩,([],[]))]) (.kill [10,81,82,83] .ret)) .skip))) (.kill [81] (.seq (.ops [⟨(some 84),(.fa 2 (.t 10)),none⟩,⟨(some 85),(.ld false 1 (.t 84)),none⟩,⟨(some 86),(.ia 1 (.t 85) (.k (.c (.v (.int .i64 0))))),none⟩,⟨(some 87),(.ld false 1 (.t 86)),none⟩,⟨(some 12),(.mv (.t 87)),none⟩]) (.kill [84,85,86,87] (.seq (.ops [⟨(some 88),(.fa 2 (.t 10)),none⟩,⟨(some 89),(.ld false 1 (.t 88)),none⟩,⟨(some 90),(.slc 1 (.t 89) (some (.k (.c (.v (.int .i64 1))))) none none),none⟩,⟨(some 91),(.fa 2 (.t 10)),none⟩,⟨none,(.st 1 (.t 91) (.t 90)),none⟩]) (.kill [88,89,90,91] (.seq (.draw [(⟨(some 92),(.ld true 5 (.t 10)),none⟩,([],[93,94])),(⟨(some 93),(.mv (.t 12)),none⟩,([0],[92])),(⟨(some 94),(.call 97 [(.t 93)]),none⟩,([0],[92])),(⟨none,(.st 5 (.t 8) (.t 92)),none⟩,([],[])),(⟨none,(.st 2 (.t 9) (.t 94)),none⟩,([],[]))]) (.kill [10,12,92,93,94] .ret)))))))) .skip)))))))))))))))))))) (.kill [11,12,15,16,17,18,19,20,21,22,23,24,25,26,27,28,29,30,31,32,33,34,35,36,37,38,39,40,41,42,43,44,45,46,47,48,49,50,51,52,53,54,55,56,57,58,59,60,61,62,63,64,65,66,67,68,69,70,71,72,73,74,75,76,77,78,79,80,81,82,83,84,85,86,87,88,89,90,91,92,93,94] (.seq (.ops [⟨(some 95),(.ld true 5 (.t 10)),none⟩,⟨(some 96),(.mv (.t 1)),none⟩,⟨(some 97),(.mv (.t 2)),none⟩,⟨(some 98),(.mv (.t 3)),none⟩,⟨(some 99),(.call 98 [(.t 95),(.t 96),(.t 97),(.t 98)]),none⟩,⟨(some 100),(.ext 0 (.t 99)),none⟩,⟨(some 101),(.ext 1 (.t 99)),none⟩,⟨none,(.st 5 (.t 8) (.t 100)),none⟩,⟨none,(.st 2 (.t 9) (.t 101)),none⟩]) (.kill [1,2,3,10,95,96,97,98,99,100,101] .ret))))))))
def rs83:List RS:=[(.cell 8 true 5),(.cell 9 true 2)]
def nt83:Nat:=102
def ir98:IR:=(.seq (.ops [⟨(some 4),(.box 70 (.t 0)),none⟩,⟨(some 8),(.new 70 [(.v (.slice none 0 0)),(.v (.slice none 0 0)),(.v (.slice none 0 0)),(.v (.slice none 0 0)),(.v (.slice none 0 0))]),none⟩,⟨(some 9),(.new 51 [(.v (.int .i64 0)),(.v (.int .i64 0))]),none⟩]) (.kill [0,5,6,7,10,11] (.seq (.ops [⟨(some 18),(.fa 3 (.t 4)),none⟩,⟨(some 19),(.ld false 1 (.t 18)),none⟩,⟨(some 20),(.mv (.t 2)),none⟩,⟨(some 21),(.call 102 [(.t 19),(.t 20)]),none⟩,⟨(some 17),(.mv (.t 21)),none⟩,⟨(some 22),(.ext 0 (.t 17)),none⟩,⟨(some 23),(.ext 1 (.t 17)),none⟩,⟨(some 10),(.mv (.t 22)),none⟩,⟨(some 11),(.mv (.t 23)),none⟩]) (.kill [17,18,19,20,21,22,23] (.seq (.ops [⟨(some 25),(.fa 4 (.t 4)),none⟩,⟨(some 26),(.ld false 1 (.t 25)),none⟩,⟨(some 27),(.mv (.t 2)),none⟩,⟨(some 28),(.call 103 [(.t 26),(.t 27)]),none⟩,⟨(some 24),(.mv (.t 28)),none⟩,⟨(some 29),(.ext 0 (.t 24)),none⟩,⟨(some 30),(.ext 1 (.t 24)),none⟩,⟨(some 12),(.mv (.t 29)),none⟩,⟨(some 13),(.mv (.t 30)),none⟩]) (.kill [24,25,26,27,28,29,30] (.seq (.seq (.ops [⟨(some 31),(.mv (.t 1)),none⟩]) (.blk 0 (.seq (.ops [⟨(some 33),(.bin .eql (.t 31) (.k (.c (.v (.int .i64 50))))),none⟩,⟨(some 32),(.mv (.t 33)),none⟩]) (.kill [33] (.cond (.t 32) (.seq (.seq (.ops [⟨(some 34),(.mv (.t 11)),none⟩,⟨(some 35),(.un .not (.t 34)),none⟩]) (.kill [1,3,12,13,31,32,34] (.cond (.t 35) (.seq (.ops [⟨(some 36),(.fa 3 (.t 4)),none⟩,⟨(some 37),(.ld false 1 (.t 36)),none⟩,⟨(some 38),(.mv (.t 10)),none⟩,⟨(some 39),(.slc 1 (.t 37) none (some (.t 38)) none),none⟩,⟨(some 40),(.app 3 1 8 [(.v (.int .i64 0))] (.k (.c (.v (.slice none 0 0)))) (.t 39)),none⟩,⟨(some 14),(.mv (.t 40)),none⟩]) (.kill [35,36,37,38,39,40] (.draw [(⟨(some 41),(.mv (.t 14)),none⟩,([],[42,43,45,46,47,48])),(⟨(some 42),(.mv (.t 2)),none⟩,([0],[41,45,46,47,48])),(⟨(some 43),(.mkSl 3 1 1 [(.v (.int .i64 0))] [(0,(1,(.t 42)))]),none⟩,([0],[41,45,46,47,48])),(⟨(some 44),(.app 3 1 8 [(.v (.int .i64 0))] (.t 41) (.t 43)),none⟩,([],[45,46,47,48])),(⟨(some 45),(.fa 3 (.t 4)),none⟩,([0,1,2,3],[41,42,43,44,47])),(⟨(some 46),(.ld false 1 (.t 45)),none⟩,([0,1,2,3],[41,42,43,44,47])),(⟨(some 47),(.mv (.t 10)),none⟩,([0,1,2,3,4,5],[41,42,43,44,45,46])),(⟨(some 48),(.slc 1 (.t 46) (some (.t 47)) none none),none⟩,([0,1,2,3],[41,42,43,44])),(⟨(some 49),(.app 3 1 8 [(.v (.int .i64 0))] (.t 44) (.t 48)),none⟩,([],[])),(⟨(some 50),(.fa 3 (.t 4)),none⟩,([],[])),(⟨none,(.st 1 (.t 50) (.t 49)),none⟩,([],[]))]))) .skip))) (.kill [2,10,14,35,41,42,43,44,45,46,47,48,49,50] (.seq (.draw [(⟨(some 51),(.ld true 5 (.t 4)),none⟩,([],[52,53,54])),(⟨(some 52),(.mv (.t 11)),none⟩,([0],[51])),(⟨(some 53),(.un .not (.t 52)),none⟩,([0],[51])),(⟨(some 54),(.call 104 [(.t 53)]),none⟩,([0],[51])),(⟨none,(.st 5 (.t 8) (.t 51)),none⟩,([],[])),(⟨none,(.st 2 (.t 9) (.t 54)),none⟩,([],[]))]) (.kill [4,11,51,52,53,54] .ret)))) (.seq (.ops [⟨(some 56),(.bin .eql (.t 31) (.k (.c (.v (.int .i64 51))))),none⟩,⟨(some 55),(.mv (.t 56)),none⟩]) (.kill [32,56] (.cond (.t 55) (.seq (.seq (.ops [⟨(some 57),(.mv (.t 11)),none⟩]) (.kill [1,2,3,12,13,31,55] (.cond (.t 57) (.draw [(⟨(some 58),(.fa 3 (.t 4)),none⟩,([],[60,63,64,65,66,67])),(⟨(some 59),(.ld false 1 (.t 58)),none⟩,([],[60,63,64,65,66,67])),(⟨(some 60),(.mv (.t 10)),none⟩,([0,1],[58,59,63,64,65,66,67])),(⟨(some 61),(.slc 1 (.t 59) none (some (.t 60)) none),none⟩,([],[63,64,65,66,67])),(⟨(some 62),(.app 3 1 8 [(.v (.int .i64 0))] (.k (.c (.v (.slice none 0 0)))) (.t 61)),none⟩,([],[63,64,65,66,67])),(⟨(some 63),(.fa 3 (.t 4)),none⟩,([0,1,2,3,4],[58,59,60,61,62,65,66])),(⟨(some 64),(.ld false 1 (.t 63)),none⟩,([0,1,2,3,4],[58,59,60,61,62,65,66])),(⟨(some 65),(.mv (.t 10)),none⟩,([0,1,2,3,4,5,6],[58,59,60,61,62,63,64])),(⟨(some 66),(.bin .add (.t 65) (.k (.c (.v (.int .i64 1))))),none⟩,([0,1,2,3,4,5,6],[58,59,60,61,62,63,64])),(⟨(some 67),(.slc 1 (.t 64) (some (.t 66)) none none),none⟩,([0,1,2,3,4],[58,59,60,61,62])),(⟨(some 68),(.app 3 1 8 [(.v (.int .i64 0))] (.t 62) (.t 67)),none⟩,([],[])),(⟨(some 69),(.fa 3 (.t 4)),none⟩,([],[])),(⟨none,(.st 1 (.t 69) (.t 68)),none⟩,([],[]))]) .skip))) (.kill [10,57,58,59,60,61,62,63,64,65,66,67,68,69] (.seq (.draw [(⟨(some 70),(.ld true 5 (.t 4)),none⟩,([],[71,72])),(⟨(some 71),(.mv (.t 11)),none⟩,([0],[70])),(⟨(some 72),(.call 104 [(.t 71)]),none⟩,([0],[70])),(⟨none,(.st 5 (.t 8) (.t 70)),none⟩,([],[])),(⟨none,(.st 2 (.t 9) (.t 72)),none⟩,([],[]))]) (.kill [4,11,70,71,72] .ret)))) (.seq (.ops [⟨(some 74),(.bin .eql (.t 31) (.k (.c (.v (.int .i64 52))))),none⟩,⟨(some 73),(.mv (.t 74)),none⟩]) (.kill [10,55,74] (.cond (.t 73) (.seq (.draw [(⟨(some 75),(.ld true 5 (.t 4)),none⟩,([],[76,77])),(⟨(some 76),(.mv (.t 11)),none⟩,([0],[75])),(⟨(some 77),(.call 104 [(.t 76)]),none⟩,([0],[75])),(⟨none,(.st 5 (.t 8) (.t 75)),none⟩,([],[])),(⟨none,(.st 2 (.t 9) (.t 77)),none⟩,([],[]))]) (.kill [1,2,3,4,11,12,13,31,73,75,76,77] .ret)) (.seq (.ops [⟨(some 79),(.bin .eql (.t 31) (.k (.c (.v (.int .i64 60))))),none⟩,⟨(some 78),(.mv (.t 79)),none⟩]) (.kill [11,31,73,79] (.cond (.t 78) (.seq (.seq (.ops [⟨(some 80),(.mv (.t 13)),none⟩,⟨(some 81),(.un .not (.t 80)),none⟩]) (.kill [1,78,80] (.cond (.t 81) (.seq (.ops [⟨(some 82),(.fa 4 (.t 4)),none⟩,⟨(some 83),(.ld false 1 (.t 82)),none⟩,⟨(some 84),(.mv (.t 12)),none⟩,⟨(some 85),(.slc 2 (.t 83) none (some (.t 84)) none),none⟩,⟨(some 86),(.app 98 2 16 [(.v (.int .i64 0)),(.v (.int .i64 0))] (.k (.c (.v (.slice none 0 0)))) (.t 85)),none⟩,⟨(some 15),(.mv (.t 86)),none⟩]) (.kill [81,82,83,84,85,86] (.draw [(⟨(some 87),(.mv (.t 15)),none⟩,([],[88,89,90,91,93,94,95,96])),(⟨(some 88),(.mv (.t 2)),none⟩,([0],[87,89,93,94,95,96])),(⟨(some 89),(.mv (.t 3)),none⟩,([0,1],[87,88,93,94,95,96])),(⟨(some 90),(.build [(.v (.int .i64 0)),(.v (.int .i64 0))] [(0,(1,(.t 88))),(1,(1,(.t 89)))]),none⟩,([0],[87,93,94,95,96])),(⟨(some 91),(.mkSl 98 1 2 [(.v (.int .i64 0)),(.v (.int .i64 0))] [(0,(2,(.t 90)))]),none⟩,([0],[87,93,94,95,96])),(⟨(some 92),(.app 98 2 16 [(.v (.int .i64 0)),(.v (.int .i64 0))] (.t 87) (.t 91)),none⟩,([],[93,94,95,96])),(⟨(some 93),(.fa 4 (.t 4)),none⟩,([0,1,2,3,4,5],[87,88,89,90,91,92,95])),(⟨(some 94),(.ld false 1 (.t 93)),none⟩,([0,1,2,3,4,5],[87,88,89,90,91,92,95])),(⟨(some 95),(.mv (.t 12)),none⟩,([0,1,2,3,4,5,6,7],[87,88,89,90,91,92,93,94])),(⟨(some 96),(.slc 2 (.t 94) (some (.t 95)) none none),none⟩,([0,1,2,3,4,5],[87,88,89,90,91,92])),(⟨(some 97),(.app 98 2 16 [(.v (.int .i64 0)),(.v (.int .i64 0))] (.t 92) (.t 96)),none⟩,([],[])),(⟨(some 98),(.fa 4 (.t 4)),none⟩,([],[])),(⟨none,(.st 1 (.t 98) (.t 97)),none⟩,([],[]))]))) .skip))) (.kill [2,3,12,15,81,87,88,89,90,91,92,93,94,95,96,97,98] (.seq (.draw [(⟨(some 99),(.ld true 5 (.t 4)),none⟩,([],[100,101,102])),(⟨(some 100),(.mv (.t 13)),none⟩,([0],[99])),(⟨(some 101),(.un .not (.t 100)),none⟩,([0],[99])),(⟨(some 102),(.call 104 [(.t 101)]),none⟩,([0],[99])),(⟨none,(.st 5 (.t 8) (.t 99)),none⟩,([],[])),(⟨none,(.st 2 (.t 9) (.t 102)),none⟩,([],[]))]) (.kill [4,13,99,100,101,102] .ret)))) .skip)))))))))))))) (.kill [2,3,10,11,14,15,31,32,33,34,35,36,37,38,39,40,41,42,43,44,45,46,47,48,49,50,51,52,53,54,55,56,57,58,59,60,61,62,63,64,65,66,67,68,69,70,71,72,73,74,75,76,77,78,79,80,81,82,83,84,85,86,87,88,89,90,91,92,93,94,95,96,97,98,99,100,101,102] (.seq (.seq (.ops [⟨(some 103),(.mv (.t 13)),none⟩,⟨(some 104),(.un .not (.t 103)),none⟩]) (.kill [13,103] (.cond (.t 104) (.seq (.draw [(⟨(some 105),(.ld true 5 (.t 4)),none⟩,([],[106])),(⟨(some 106),(.call 96 [(.k (.c (.v (.int .i64 6))))]),none⟩,([0],[105])),(⟨none,(.st 5 (.t 8) (.t 105)),none⟩,([],[])),(⟨none,(.st 2 (.t 9) (.t 106)),none⟩,([],[]))]) (.kill [1,4,12,104,105,106] .ret)) .skip))) (.kill [104] (.seq (.ops [⟨(some 107),(.fa 4 (.t 4)),none⟩,⟨(some 108),(.ld false 1 (.t 107)),none⟩,⟨(some 109),(.mv (.t 12)),none⟩,⟨(some 110),(.ia 2 (.t 108) (.t 109)),none⟩,⟨(some 111),(.fa 1 (.t 110)),none⟩,⟨(some 112),(.ld false 1 (.t 111)),none⟩,⟨(some 16),(.mv (.t 112)),none⟩]) (.kill [107,108,109,110,111,112] (.seq (.seq (.ops [⟨(some 113),(.mv (.t 1)),none⟩,⟨(some 114),(.bin .eql (.t 113) (.k (.c (.v (.int .i64 61))))),none⟩]) (.kill [1,113] (.cond (.t 114) (.draw [(⟨(some 115),(.fa 4 (.t 4)),none⟩,([],[117,120,121,122,123,124])),(⟨(some 116),(.ld false 1 (.t 115)),none⟩,([],[117,120,121,122,123,124])),(⟨(some 117),(.mv (.t 12)),none⟩,([0,1],[115,116,120,121,122,123,124])),(⟨(some 118),(.slc 2 (.t 116) none (some (.t 117)) none),none⟩,([],[120,121,122,123,124])),(⟨(some 119),(.app 98 2 16 [(.v (.int .i64 0)),(.v (.int .i64 0))] (.k (.c (.v (.slice none 0 0)))) (.t 118)),none⟩,([],[120,121,122,123,124])),(⟨(some 120),(.fa 4 (.t 4)),none⟩,([0,1,2,3,4],[115,116,117,118,119,122,123])),(⟨(some 121),(.ld false 1 (.t 120)),none⟩,([0,1,2,3,4],[115,116,117,118,119,122,123])),(⟨(some 122),(.mv (.t 12)),none⟩,([0,1,2,3,4,5,6],[115,116,117,118,119,120,121])),(⟨(some 123),(.bin .add (.t 122) (.k (.c (.v (.int .i64 1))))),none⟩,([0,1,2,3,4,5,6],[115,116,117,118,119,120,121])),(⟨(some 124),(.slc 2 (.t 121) (some (.t 123)) none none),none⟩,([0,1,2,3,4],[115,116,117,118,119])),(⟨(some 125),(.app 98 2 16 [(.v (.int .i64 0)),(.v (.int .i64 0))] (.t 119) (.t 124)),none⟩,([],[])),(⟨(some 126),(.fa 4 (.t 4)),none⟩,([],[])),(⟨none,(.st 1 (.t 126) (.t 125)),none⟩,([],[]))]) .skip))) (.kill [12,114,115,116,117,118,119,120,121,122,123,124,125,126] (.seq (.draw [(⟨(some 127),(.ld true 5 (.t 4)),none⟩,([],[128,129])),(⟨(some 128),(.mv (.t 16)),none⟩,([0],[127])),(⟨(some 129),(.call 97 [(.t 128)]),none⟩,([0],[127])),(⟨none,(.st 5 (.t 8) (.t 127)),none⟩,([],[])),(⟨none,(.st 2 (.t 9) (.t 129)),none⟩,([],[]))]) (.kill [4,16,127,128,129] .ret))))))))))))))))
def rs98:List RS:=[(.cell 8 true 5),(.cell 9 true 2)]
def nt98:Nat:=130
set_option maxRecDepth 100000 in
set_option maxHeartbeats 400000 in
theorem rmDo_ZA {w:World} {v:Value} {m:MC} (op arg data:Int) (h:Cont w v m) (hok:MC.okR m) (hm:mayB m=true) (ho:objOf op≠0) (h6:op=22∨op=23∨op=30∨op=31∨op=40∨op=41):Calls Try.prog 83 #[v,.int .i64 op,.int .i64 arg,.int .i64 data] w (RetB w (fun _=>True) 5 (rdT (doM m op arg data)) (mcR (doM m op arg data).1)):=by
 refine enterC (A:=[]) (c:=ir83) (rs:=rs83) (nt:=nt83) h [.agg (mcS 0),.c (.v (.int .i64 op)),.c (.v (.int .i64 arg)),.c (.v (.int .i64 data))] _ Try.func83 rfl (by kernel_rfl) (by kernel_rfl) rfl (fun E' h0=>by rw [List.map_cons,h0];simp [SV.den,SC.den]) (of_decide_eq_true rfl) ?_
 simp (maxSteps:=2000000) only [ir83,nt83,rs83,go_sem,↓reduceIte,Nat.reduceLT,Nat.reduceLeDiff,Nat.reduceAdd,Nat.reduceSub,Nat.reduceMul,Nat.reduceEqDiff,reduceCtorEq,Int.reduceToNat,Int.reduceEq,Int.reduceBEq,Int.reduceBNe,Int.reduceLT,Int.reduceLE,Int.reduceNeg,Int.reduceAdd,Int.reduceSub,Int.reduceMul,Int.reduceGE,Int.reduceGT,endO,mcS,mcA]
 obtain ⟨cl,sk,qu,se,ta⟩:=m
 have hok1:=hok.1
 have hst:(sk.length+1) * 8≤140737488355328:=hok.2
 simp only [MC.ok] at hok1
 refine call_inline (c:=ir84) (rs:=rs84) (nt:=nt84) 1000 (mkTab_ok _ _) Try.func84 rfl (by kernel_rfl) (by kernel_rfl) rfl (by simp [okVs,SV.okN,SC.okL,SC.okN]) (of_decide_eq_true rfl) (fun E0 a0 ht0=>?_)
 simp (maxSteps:=2000000) only [ir84,nt84,rs84,go_sem,↓reduceIte,Nat.reduceLT,Nat.reduceLeDiff,Nat.reduceAdd,Nat.reduceSub,Nat.reduceMul,Nat.reduceEqDiff,reduceCtorEq,Int.reduceToNat,Int.reduceEq,Int.reduceBEq,Int.reduceBNe,Int.reduceLT,Int.reduceLE,Int.reduceNeg,Int.reduceAdd,Int.reduceSub,Int.reduceMul,Int.reduceGE,Int.reduceGT,endO]
 refine draw_vc (by kernel_rfl) (mkTab_ok _ _) (of_decide_eq_true rfl) (of_decide_eq_true rfl) ?_
 repeat (first | simp (maxSteps:=2000000) only [go_sem,↓reduceIte,Nat.reduceLT,Nat.reduceLeDiff,Nat.reduceAdd,Nat.reduceSub,Nat.reduceMul,Nat.reduceEqDiff,reduceCtorEq,Int.reduceToNat,Int.reduceEq,Int.reduceBEq,Int.reduceBNe,Int.reduceLT,Int.reduceLE,Int.reduceNeg,Int.reduceAdd,Int.reduceSub,Int.reduceMul,Int.reduceGE,Int.reduceGT,endO] | rw [dr_cons])
 repeat (with_reducible refine And.intro (by first | (simp only [maxLen];omega) | omega | decide | (simp;done) | (simp [maxLen];omega)) ?_)
 refine retI ht0 _ rfl (of_decide_eq_true rfl) (by simp [SV.okN,SC.okL,SC.okN,ok1L]) ?_
 simp (maxSteps:=2000000) only [go_sem,↓reduceIte,Nat.reduceLT,Nat.reduceLeDiff,Nat.reduceAdd,Nat.reduceSub,Nat.reduceMul,Nat.reduceEqDiff,reduceCtorEq,Int.reduceToNat,Int.reduceEq,Int.reduceBEq,Int.reduceBNe,Int.reduceLT,Int.reduceLE,Int.reduceNeg,Int.reduceAdd,Int.reduceSub,Int.reduceMul,Int.reduceGE,Int.reduceGT,endO,eI,eP]
 refine both (fun hop=>?_) (fun n22=>?_)
 ·have hop:op=22:=by simpa using hop
  subst hop
  have hd:doM ⟨cl,sk,qu,se,ta⟩ 22 arg data=(⟨[arg],sk,qu,se,ta⟩,1,0):=by simp [doM,objOf,doCell]
  rw [hd]
  repeat (with_reducible refine And.intro (by first | (simp only [maxLen];omega) | omega | decide | (simp;done) | (simp [maxLen];omega)) ?_)
  refine draw_vc (by kernel_rfl) (mkTab_ok _ _) (of_decide_eq_true rfl) (of_decide_eq_true rfl) ?_
  repeat (first | simp (maxSteps:=2000000) only [go_sem,↓reduceIte,Nat.reduceLT,Nat.reduceLeDiff,Nat.reduceAdd,Nat.reduceSub,Nat.reduceMul,Nat.reduceEqDiff,reduceCtorEq,Int.reduceToNat,Int.reduceEq,Int.reduceBEq,Int.reduceBNe,Int.reduceLT,Int.reduceLE,Int.reduceNeg,Int.reduceAdd,Int.reduceSub,Int.reduceMul,Int.reduceGE,Int.reduceGT,endO,eI,eP] | rw [dr_cons])
  repeat (with_reducible refine And.intro (by first | (simp only [maxLen];omega) | omega | decide | (simp;done) | (simp [maxLen];omega)) ?_)
  refine dcallV (.agg [.v (.int .i64 1),.v (.int .i64 0)]) _ (fun E=>rfl) (fun E a w' _=>kind_Z 1 w') ?_
  repeat (first | simp (maxSteps:=2000000) only [go_sem,↓reduceIte,Nat.reduceLT,Nat.reduceLeDiff,Nat.reduceAdd,Nat.reduceSub,Nat.reduceMul,Nat.reduceEqDiff,reduceCtorEq,Int.reduceToNat,Int.reduceEq,Int.reduceBEq,Int.reduceBNe,Int.reduceLT,Int.reduceLE,Int.reduceNeg,Int.reduceAdd,Int.reduceSub,Int.reduceMul,Int.reduceGE,Int.reduceGT,endO] | rw [dr_cons])
  repeat (with_reducible refine And.intro (by first | (simp only [maxLen];omega) | omega | decide | (simp;done) | (simp [maxLen];omega)) ?_)
  exact retB5 (m:=⟨[arg],sk,qu,se,ta⟩) _ _ _ _ _ (rdN_sl eI_ok 16 1 0 1 _ none rfl (by omega) rfl (fun q h=>by cases h) (fun e he=>by
   have:e=0:=by simpa using he
   subst this;rfl)) (rdN_all eI_ok 11 _ rfl rfl) (rdN_all eI_ok 12 _ rfl rfl) (rdN_all eI_ok 13 _ rfl rfl) (rdN_all eP_ok 14 _ rfl rfl) (rdT_ok _ _ _ _ _ (⟨[arg],sk,qu,se,ta⟩,1,0))
 refine both (fun hop=>?_) (fun n23=>?_)
 ·have hop:op=23:=by simpa using hop
  subst hop
  refine both (fun hE=>?_) (fun hE=>?_)
  ·have he:cl=[]:=by simpa using hE
   subst he
   have hd:doM ⟨[],sk,qu,se,ta⟩ 23 arg data=(⟨[],sk,qu,se,ta⟩,3,0):=by simp [doM,objOf,doCell]
   rw [hd]
   repeat (with_reducible refine And.intro (by first | (simp only [maxLen];omega) | omega | decide | (simp;done) | (simp [maxLen];omega)) ?_)
   refine draw_vc (by kernel_rfl) (mkTab_ok _ _) (of_decide_eq_true rfl) (of_decide_eq_true rfl) ?_
   repeat (first | simp (maxSteps:=2000000) only [go_sem,↓reduceIte,Nat.reduceLT,Nat.reduceLeDiff,Nat.reduceAdd,Nat.reduceSub,Nat.reduceMul,Nat.reduceEqDiff,reduceCtorEq,Int.reduceToNat,Int.reduceEq,Int.reduceBEq,Int.reduceBNe,Int.reduceLT,Int.reduceLE,Int.reduceNeg,Int.reduceAdd,Int.reduceSub,Int.reduceMul,Int.reduceGE,Int.reduceGT,endO,eI,eP] | rw [dr_cons])
   repeat (with_reducible refine And.intro (by first | (simp only [maxLen];omega) | omega | decide | (simp;done) | (simp [maxLen];omega)) ?_)
   refine dcallV (.agg [.v (.int .i64 3),.v (.int .i64 0)]) _ (fun E=>rfl) (fun E a w' _=>kind_Z 3 w') ?_
   repeat (first | simp (maxSteps:=2000000) only [go_sem,↓reduceIte,Nat.reduceLT,Nat.reduceLeDiff,Nat.reduceAdd,Nat.reduceSub,Nat.reduceMul,Nat.reduceEqDiff,reduceCtorEq,Int.reduceToNat,Int.reduceEq,Int.reduceBEq,Int.reduceBNe,Int.reduceLT,Int.reduceLE,Int.reduceNeg,Int.reduceAdd,Int.reduceSub,Int.reduceMul,Int.reduceGE,Int.reduceGT,endO] | rw [dr_cons])
   repeat (with_reducible refine And.intro (by first | (simp only [maxLen];omega) | omega | decide | (simp;done) | (simp [maxLen];omega)) ?_)
   exact retB5 (m:=⟨[],sk,qu,se,ta⟩) _ _ _ _ _ (rdN_all eI_ok 10 _ rfl rfl) (rdN_all eI_ok 11 _ rfl rfl) (rdN_all eI_ok 12 _ rfl rfl) (rdN_all eI_ok 13 _ rfl rfl) (rdN_all eP_ok 14 _ rfl rfl) (rdT_ok _ _ _ _ _ (⟨[],sk,qu,se,ta⟩,3,0))
  ·obtain ⟨x,r,rfl⟩:∃ x r,cl=x :: r:=by
    cases cl with
    | nil=>simp at hE
    | cons x r=>exact ⟨x,r,rfl⟩
   have hd:doM ⟨x :: r,sk,qu,se,ta⟩ 23 arg data=(⟨x :: r,sk,qu,se,ta⟩,2,x):=by simp [doM,objOf,doCell]
   rw [hd]
   repeat (with_reducible refine And.intro (by first | (simp only [maxLen];omega) | omega | decide | (simp;done) | (simp [maxLen];omega)) ?_)
   refine draw_vc (by kernel_rfl) (mkTab_ok _ _) (of_decide_eq_true rfl) (of_decide_eq_true rfl) ?_
   repeat (first | simp (maxSteps:=2000000) only [go_sem,↓reduceIte,Nat.reduceLT,Nat.reduceLeDiff,Nat.reduceAdd,Nat.reduceSub,Nat.reduceMul,Nat.reduceEqDiff,reduceCtorEq,Int.reduceToNat,Int.reduceEq,Int.reduceBEq,Int.reduceBNe,Int.reduceLT,Int.reduceLE,Int.reduceNeg,Int.reduceAdd,Int.reduceSub,Int.reduceMul,Int.reduceGE,Int.reduceGT,endO,eI,eP] | rw [dr_cons])
   repeat (with_reducible refine And.intro (by first | (simp only [maxLen];omega) | omega | decide | (simp;done) | (simp [maxLen];omega)) ?_)
   refine dcallV (.agg [.v (.int .i64 2),.v (.int .i64 x)]) _ (fun E=>rfl) (fun E a w' _=>value_Z x w') ?_
   repeat (first | simp (maxSteps:=2000000) only [go_sem,↓reduceIte,Nat.reduceLT,Nat.reduceLeDiff,Nat.reduceAdd,Nat.reduceSub,Nat.reduceMul,Nat.reduceEqDiff,reduceCtorEq,Int.reduceToNat,Int.reduceEq,Int.reduceBEq,Int.reduceBNe,Int.reduceLT,Int.reduceLE,Int.reduceNeg,Int.reduceAdd,Int.reduceSub,Int.reduceMul,Int.reduceGE,Int.reduceGT,endO] | rw [dr_cons])
   repeat (with_reducible refine And.intro (by first | (simp only [maxLen];omega) | omega | decide | (simp;done) | (simp [maxLen];omega)) ?_)
   exact retB5 (m:=⟨x :: r,sk,qu,se,ta⟩) _ _ _ _ _ (rdN_all eI_ok 10 _ rfl rfl) (rdN_all eI_ok 11 _ rfl rfl) (rdN_all eI_ok 12 _ rfl rfl) (rdN_all eI_ok 13 _ rfl rfl) (rdN_all eP_ok 14 _ rfl rfl) (rdT_ok _ _ _ _ _ (⟨x :: r,sk,qu,se,ta⟩,2,x))
 refine both (fun hop=>?_) (fun n30=>?_)
 ·have hop:op=30:=by simpa using hop
  subst hop
  have hd:doM ⟨cl,sk,qu,se,ta⟩ 30 arg data=(⟨cl,arg :: sk,qu,se,ta⟩,1,0):=by simp [doM,objOf,doStack]
  rw [hd]
  repeat (with_reducible refine And.intro (by first | (simp only [maxLen];omega) | omega | decide | (simp;done) | (simp [maxLen];omega)) ?_)
  refine draw_vc (by kernel_rfl) (mkTab_ok _ _) (of_decide_eq_true rfl) (of_decide_eq_true rfl) ?_
  repeat (first | simp (maxSteps:=2000000) only [go_sem,↓reduceIte,Nat.reduceLT,Nat.reduceLeDiff,Nat.reduceAdd,Nat.reduceSub,Nat.reduceMul,Nat.reduceEqDiff,reduceCtorEq,Int.reduceToNat,Int.reduceEq,Int.reduceBEq,Int.reduceBNe,Int.reduceLT,Int.reduceLE,Int.reduceNeg,Int.reduceAdd,Int.reduceSub,Int.reduceMul,Int.reduceGE,Int.reduceGT,endO,eI,eP] | rw [dr_cons])
  repeat (with_reducible refine And.intro (by first | (simp only [maxLen];omega) | omega | decide | (simp;done) | (simp [maxLen];omega)) ?_)
  refine dcallV (.agg [.v (.int .i64 1),.v (.int .i64 0)]) _ (fun E=>rfl) (fun E a w' _=>kind_Z 1 w') ?_
  repeat (first | simp (maxSteps:=2000000) only [go_sem,↓reduceIte,Nat.reduceLT,Nat.reduceLeDiff,Nat.reduceAdd,Nat.reduceSub,Nat.reduceMul,Nat.reduceEqDiff,reduceCtorEq,Int.reduceToNat,Int.reduceEq,Int.reduceBEq,Int.reduceBNe,Int.reduceLT,Int.reduceLE,Int.reduceNeg,Int.reduceAdd,Int.reduceSub,Int.reduceMul,Int.reduceGE,Int.reduceGT,endO] | rw [dr_cons])
  repeat (with_reducible refine And.intro (by first | (simp only [maxLen];omega) | omega | decide | (simp;done) | (simp [maxLen];omega)) ?_)
  exact retB5 (m:=⟨cl,arg :: sk,qu,se,ta⟩) _ _ _ _ _ (rdN_all eI_ok 10 _ rfl rfl) (rdN_sl eI_ok 17 _ 0 _ _ none rfl (by simp <;> omega) (by simp <;> omega) (fun q h=>by cases h) (fun e he=>by
   rw [Nat.zero_add]
   have:=ats_app (enc:=eI) (xs:=[arg]) (ys:=sk) (d:=(0:Int)) (n:=1) (f:=segs 1 [.v (.int .i64 arg)]) (g:=(arrOf eI 1 sk 0).at_) rfl rfl (fun e he=>by
    have:e=0:=by simpa using he
    subst this;rfl) (fun e he=>rfl) e (by simpa using he)
   exact this)) (rdN_all eI_ok 12 _ rfl rfl) (rdN_all eI_ok 13 _ rfl rfl) (rdN_all eP_ok 14 _ rfl rfl) (rdT_ok _ _ _ _ _ (⟨cl,arg :: sk,qu,se,ta⟩,1,0))
 refine both (fun hop=>?_) (fun n31=>?_)
 ·have hop:op=31:=by simpa using hop
  subst hop
  refine both (fun hE=>?_) (fun hE=>?_)
  ·have he:sk=[]:=by simpa using hE
   subst he
   have hd:doM ⟨cl,[],qu,se,ta⟩ 31 arg data=(⟨cl,[],qu,se,ta⟩,3,0):=by simp [doM,objOf,doStack]
   rw [hd]
   repeat (with_reducible refine And.intro (by first | (simp only [maxLen];omega) | omega | decide | (simp;done) | (simp [maxLen];omega)) ?_)
   refine draw_vc (by kernel_rfl) (mkTab_ok _ _) (of_decide_eq_true rfl) (of_decide_eq_true rfl) ?_
   repeat (first | simp (maxSteps:=2000000) only [go_sem,↓reduceIte,Nat.reduceLT,Nat.reduceLeDiff,Nat.reduceAdd,Nat.reduceSub,Nat.reduceMul,Nat.reduceEqDiff,reduceCtorEq,Int.reduceToNat,Int.reduceEq,Int.reduceBEq,Int.reduceBNe,Int.reduceLT,Int.reduceLE,Int.reduceNeg,Int.reduceAdd,Int.reduceSub,Int.reduceMul,Int.reduceGE,Int.reduceGT,endO,eI,eP] | rw [dr_cons])
   repeat (with_reducible refine And.intro (by first | (simp only [maxLen];omega) | omega | decide | (simp;done) | (simp [maxLen];omega)) ?_)
   refine dcallV (.agg [.v (.int .i64 3),.v (.int .i64 0)]) _ (fun E=>rfl) (fun E a w' _=>kind_Z 3 w') ?_
   repeat (first | simp (maxSteps:=2000000) only [go_sem,↓reduceIte,Nat.reduceLT,Nat.reduceLeDiff,Nat.reduceAdd,Nat.reduceSub,Nat.reduceMul,Nat.reduceEqDiff,reduceCtorEq,Int.reduceToNat,Int.reduceEq,Int.reduceBEq,Int.reduceBNe,Int.reduceLT,Int.reduceLE,Int.reduceNeg,Int.reduceAdd,Int.reduceSub,Int.reduceMul,Int.reduceGE,Int.reduceGT,endO] | rw [dr_cons])
   repeat (with_reducible refine And.intro (by first | (simp only [maxLen];omega) | omega | decide | (simp;done) | (simp [maxLen];omega)) ?_)
   exact retB5 (m:=⟨cl,[],qu,se,ta⟩) _ _ _ _ _ (rdN_all eI_ok 10 _ rfl rfl) (rdN_all eI_ok 11 _ rfl rfl) (rdN_all eI_ok 12 _ rfl rfl) (rdN_all eI_ok 13 _ rfl rfl) (rdN_all eP_ok 14 _ rfl rfl) (rdT_ok _ _ _ _ _ (⟨cl,[],qu,se,ta⟩,3,0))
  ·obtain ⟨x,r,rfl⟩:∃ x r,sk=x :: r:=by
    cases sk with
    | nil=>simp at hE
    | cons x r=>exact ⟨x,r,rfl⟩
   have hd:doM ⟨cl,x :: r,qu,se,ta⟩ 31 arg data=(⟨cl,r,qu,se,ta⟩,2,x):=by simp [doM,objOf,doStack]
   rw [hd]
   simp only [List.length_cons] at *
   repeat (with_reducible refine And.intro (by first | (simp only [maxLen];omega) | omega | decide | with_reducible exact Or.inl trivial | with_reducible exact Or.inr trivial | with_reducible exact ⟨Or.inl trivial,Or.inr trivial⟩) ?_)
   refine ⟨fun hc=>?_,fun hc=>?_⟩
   ·have hr:r=[]:=List.eq_nil_of_length_eq_zero (by omega)
    subst hr
    repeat (with_reducible refine And.intro (by first | (simp only [maxLen];omega) | omega | decide | (simp;done) | (simp [maxLen];omega)) ?_)
    refine draw_vc (by kernel_rfl) (mkTab_ok _ _) (of_decide_eq_true rfl) (of_decide_eq_true rfl) ?_
    repeat (first | simp (maxSteps:=2000000) only [go_sem,↓reduceIte,Nat.reduceLT,Nat.reduceLeDiff,Nat.reduceAdd,Nat.reduceSub,Nat.reduceMul,Nat.reduceEqDiff,reduceCtorEq,Int.reduceToNat,Int.reduceEq,Int.reduceBEq,Int.reduceBNe,Int.reduceLT,Int.reduceLE,Int.reduceNeg,Int.reduceAdd,Int.reduceSub,Int.reduceMul,Int.reduceGE,Int.reduceGT,endO,eI,eP] | rw [dr_cons])
    repeat (with_reducible refine And.intro (by first | (simp only [maxLen];omega) | omega | decide | (simp;done) | (simp [maxLen];omega)) ?_)
    refine dcallV (.agg [.v (.int .i64 2),.v (.int .i64 x)]) _ (fun E=>rfl) (fun E a w' _=>value_Z x w') ?_
    repeat (first | simp (maxSteps:=2000000) only [go_sem,↓reduceIte,Nat.reduceLT,Nat.reduceLeDiff,Nat.reduceAdd,Nat.reduceSub,Nat.reduceMul,Nat.reduceEqDiff,reduceCtorEq,Int.reduceToNat,Int.reduceEq,Int.reduceBEq,Int.reduceBNe,Int.reduceLT,Int.reduceLE,Int.reduceNeg,Int.reduceAdd,Int.reduceSub,Int.reduceMul,Int.reduceGE,Int.reduceGT,endO] | rw [dr_cons])
    repeat (with_reducible refine And.intro (by first | (simp only [maxLen];omega) | omega | decide | (simp;done) | (simp [maxLen];omega)) ?_)
    exact retB5 (m:=⟨cl,[],qu,se,ta⟩) _ _ _ _ _ (rdN_all eI_ok 10 _ rfl rfl) (rdN_x0 16 rfl) (rdN_all eI_ok 12 _ rfl rfl) (rdN_all eI_ok 13 _ rfl rfl) (rdN_all eP_ok 14 _ rfl rfl) (rdT_ok _ _ _ _ _ (⟨cl,[],qu,se,ta⟩,2,x))
   ·have hr:0<r.length:=by omega
    repeat (with_reducible refine And.intro (by first | (simp only [maxLen];omega) | omega | decide | (simp;done) | (simp [maxLen];omega)) ?_)
    refine draw_vc (by kernel_rfl) (mkTab_ok _ _) (of_decide_eq_true rfl) (of_decide_eq_true rfl) ?_
    repeat (first | simp (maxSteps:=2000000) only [go_sem,↓reduceIte,Nat.reduceLT,Nat.reduceLeDiff,Nat.reduceAdd,Nat.reduceSub,Nat.reduceMul,Nat.reduceEqDiff,reduceCtorEq,Int.reduceToNat,Int.reduceEq,Int.reduceBEq,Int.reduceBNe,Int.reduceLT,Int.reduceLE,Int.reduceNeg,Int.reduceAdd,Int.reduceSub,Int.reduceMul,Int.reduceGE,Int.reduceGT,endO,eI,eP] | rw [dr_cons])
    repeat (with_reducible refine And.intro (by first | (simp only [maxLen];omega) | omega | decide | (simp;done) | (simp [maxLen];omega)) ?_)
    refine dcallV (.agg [.v (.int .i64 2),.v (.int .i64 x)]) _ (fun E=>rfl) (fun E a w' _=>value_Z x w') ?_
    repeat (first | simp (maxSteps:=2000000) only [go_sem,↓reduceIte,Nat.reduceLT,Nat.reduceLeDiff,Nat.reduceAdd,Nat.reduceSub,Nat.reduceMul,Nat.reduceEqDiff,reduceCtorEq,Int.reduceToNat,Int.reduceEq,Int.reduceBEq,Int.reduceBNe,Int.reduceLT,Int.reduceLE,Int.reduceNeg,Int.reduceAdd,Int.reduceSub,Int.reduceMul,Int.reduceGE,Int.reduceGT,endO] | rw [dr_cons])
    repeat (with_reducible refine And.intro (by first | (simp only [maxLen];omega) | omega | decide | (simp;done) | (simp [maxLen];omega)) ?_)
    exact retB5 (m:=⟨cl,r,qu,se,ta⟩) _ _ _ _ _ (rdN_all eI_ok 10 _ rfl rfl) (rdN_sl eI_ok 11 _ 1 _ _ none rfl (by simp <;> omega) (by simp) (fun q h=>by cases h) (fun e he=>by simp [ats,arrOf,Nat.add_comm 1 e])) (rdN_all eI_ok 12 _ rfl rfl) (rdN_all eI_ok 13 _ rfl rfl) (rdN_all eP_ok 14 _ rfl rfl) (rdT_ok _ _ _ _ _ (⟨cl,r,qu,se,ta⟩,2,x))
 refine both (fun hop=>?_) (fun n40=>?_)
 ·have hop:op=40:=by simpa using hop
  subst hop
  have hd:doM ⟨cl,sk,qu,se,ta⟩ 40 arg data=(⟨cl,sk,qu++[arg],se,ta⟩,1,0):=by simp [doM,objOf,doQueue]
  rw [hd]
  repeat (with_reducible refine And.intro (by first | (simp only [maxLen];omega) | omega | decide | (simp;done) | (simp [maxLen];omega)) ?_)
  refine draw_vc (by kernel_rfl) (mkTab_ok _ _) (of_decide_eq_true rfl) (of_decide_eq_true rfl) ?_
  repeat (first | simp (maxSteps:=2000000) only [go_sem,↓reduceIte,Nat.reduceLT,Nat.reduceLeDiff,Nat.reduceAdd,Nat.reduceSub,Nat.reduceMul,Nat.reduceEqDiff,reduceCtorEq,Int.reduceToNat,Int.reduceEq,Int.reduceBEq,Int.reduceBNe,Int.reduceLT,Int.reduceLE,Int.reduceNeg,Int.reduceAdd,Int.reduceSub,Int.reduceMul,Int.reduceGE,Int.reduceGT,endO,eI,eP] | rw [dr_cons])
  repeat (with_reducible refine And.intro (by first | (simp only [maxLen];omega) | omega | decide | (simp;done) | (simp [maxLen];omega)) ?_)
  refine dcallV (.agg [.v (.int .i64 1),.v (.int .i64 0)]) _ (fun E=>rfl) (fun E a w' _=>kind_Z 1 w') ?_
  repeat (first | simp (maxSteps:=2000000) only [go_sem,↓reduceIte,Nat.reduceLT,Nat.reduceLeDiff,Nat.reduceAdd,Nat.reduceSub,Nat.reduceMul,Nat.reduceEqDiff,reduceCtorEq,Int.reduceToNat,Int.reduceEq,Int.reduceBEq,Int.reduceBNe,Int.reduceLT,Int.reduceLE,Int.reduceNeg,Int.reduceAdd,Int.reduceSub,Int.reduceMul,Int.reduceGE,Int.reduceGT,endO] | rw [dr_cons])
  repeat (with_reducible refine And.intro (by first | (simp only [maxLen];omega) | omega | decide | (simp;done) | (simp [maxLen];omega)) ?_)
  exact retB5 (m:=⟨cl,sk,qu++[arg],se,ta⟩) _ _ _ _ _ (rdN_all eI_ok 10 _ rfl rfl) (rdN_all eI_ok 11 _ rfl rfl) (rdN_sl eI_ok 17 _ 0 _ _ none rfl (by simp) (by simp) (fun q h=>by cases h) (fun e he=>by
   rw [Nat.zero_add]
   have:=ats_push (enc:=eI) (xs:=qu) (x:=arg) (d:=(0:Int)) (n:=qu.length) (f:=(arrOf eI 1 qu 0).at_) (g:=segs 1 [.v (.int .i64 arg)]) rfl rfl (fun e he=>rfl) rfl e (by simpa using he)
   exact this)) (rdN_all eI_ok 13 _ rfl rfl) (rdN_all eP_ok 14 _ rfl rfl) (rdT_ok _ _ _ _ _ (⟨cl,sk,qu++[arg],se,ta⟩,1,0))
 refine both (fun hop=>?_) (fun n41=>?_)
 ·have hop:op=41:=by simpa using hop
  subst hop
  refine both (fun hE=>?_) (fun hE=>?_)
  ·have he:qu=[]:=by simpa using hE
   subst he
   have hd:doM ⟨cl,sk,[],se,ta⟩ 41 arg data=(⟨cl,sk,[],se,ta⟩,3,0):=by simp [doM,objOf,doQueue]
   rw [hd]
   repeat (with_reducible refine And.intro (by first | (simp only [maxLen];omega) | omega | decide | (simp;done) | (simp [maxLen];omega)) ?_)
   refine draw_vc (by kernel_rfl) (mkTab_ok _ _) (of_decide_eq_true rfl) (of_decide_eq_true rfl) ?_
   repeat (first | simp (maxSteps:=2000000) only [go_sem,↓reduceIte,Nat.reduceLT,Nat.reduceLeDiff,Nat.reduceAdd,Nat.reduceSub,Nat.reduceMul,Nat.reduceEqDiff,reduceCtorEq,Int.reduceToNat,Int.reduceEq,Int.reduceBEq,Int.reduceBNe,Int.reduceLT,Int.reduceLE,Int.reduceNeg,Int.reduceAdd,Int.reduceSub,Int.reduceMul,Int.reduceGE,Int.reduceGT,endO,eI,eP] | rw [dr_cons])
   repeat (with_reducible refine And.intro (by first | (simp only [maxLen];omega) | omega | decide | (simp;done) | (simp [maxLen];omega)) ?_)
   refine dcallV (.agg [.v (.int .i64 3),.v (.int .i64 0)]) _ (fun E=>rfl) (fun E a w' _=>kind_Z 3 w') ?_
   repeat (first | simp (maxSteps:=2000000) only [go_sem,↓reduceIte,Nat.reduceLT,Nat.reduceLeDiff,Nat.reduceAdd,Nat.reduceSub,Nat.reduceMul,Nat.reduceEqDiff,reduceCtorEq,Int.reduceToNat,Int.reduceEq,Int.reduceBEq,Int.reduceBNe,Int.reduceLT,Int.reduceLE,Int.reduceNeg,Int.reduceAdd,Int.reduceSub,Int.reduceMul,Int.reduceGE,Int.reduceGT,endO] | rw [dr_cons])
   repeat (with_reducible refine And.intro (by first | (simp only [maxLen];omega) | omega | decide | (simp;done) | (simp [maxLen];omega)) ?_)
   exact retB5 (m:=⟨cl,sk,[],se,ta⟩) _ _ _ _ _ (rdN_all eI_ok 10 _ rfl rfl) (rdN_all eI_ok 11 _ rfl rfl) (rdN_all eI_ok 12 _ rfl rfl) (rdN_all eI_ok 13 _ rfl rfl) (rdN_all eP_ok 14 _ rfl rfl) (rdT_ok _ _ _ _ _ (⟨cl,sk,[],se,ta⟩,3,0))
  ·obtain ⟨x,r,rfl⟩:∃ x r,qu=x :: r:=by
    cases qu with
    | nil=>simp at hE
    | cons x r=>exact ⟨x,r,rfl⟩
   have hd:doM ⟨cl,sk,x :: r,se,ta⟩ 41 arg data=(⟨cl,sk,r,se,ta⟩,2,x):=by simp [doM,objOf,doQueue]
   rw [hd]
   simp only [List.length_cons] at *
   repeat (with_reducible refine And.intro (by first | (simp only [maxLen];omega) | omega | decide | with_reducible exact Or.inl trivial | with_reducible exact Or.inr trivial | with_reducible exact ⟨Or.inl trivial,Or.inr trivial⟩) ?_)
   refine ⟨fun hc=>?_,fun hc=>?_⟩
   ·have hr:r=[]:=List.eq_nil_of_length_eq_zero (by omega)
    subst hr
    repeat (with_reducible refine And.intro (by first | (simp only [maxLen];omega) | omega | decide | (simp;done) | (simp [maxLen];omega)) ?_)
    refine draw_vc (by kernel_rfl) (mkTab_ok _ _) (of_decide_eq_true rfl) (of_decide_eq_true rfl) ?_
    repeat (first | simp (maxSteps:=2000000) only [go_sem,↓reduceIte,Nat.reduceLT,Nat.reduceLeDiff,Nat.reduceAdd,Nat.reduceSub,Nat.reduceMul,Nat.reduceEqDiff,reduceCtorEq,Int.reduceToNat,Int.reduceEq,Int.reduceBEq,Int.reduceBNe,Int.reduceLT,Int.reduceLE,Int.reduceNeg,Int.reduceAdd,Int.reduceSub,Int.reduceMul,Int.reduceGE,Int.reduceGT,endO,eI,eP] | rw [dr_cons])
    repeat (with_reducible refine And.intro (by first | (simp only [maxLen];omega) | omega | decide | (simp;done) | (simp [maxLen];omega)) ?_)
    refine dcallV (.agg [.v (.int .i64 2),.v (.int .i64 x)]) _ (fun E=>rfl) (fun E a w' _=>value_Z x w') ?_
    repeat (first | simp (maxSteps:=2000000) only [go_sem,↓reduceIte,Nat.reduceLT,Nat.reduceLeDiff,Nat.reduceAdd,Nat.reduceSub,Nat.reduceMul,Nat.reduceEqDiff,reduceCtorEq,Int.reduceToNat,Int.reduceEq,Int.reduceBEq,Int.reduceBNe,Int.reduceLT,Int.reduceLE,Int.reduceNeg,Int.reduceAdd,Int.reduceSub,Int.reduceMul,Int.reduceGE,Int.reduceGT,endO] | rw [dr_cons])
    repeat (with_reducible refine And.intro (by first | (simp only [maxLen];omega) | omega | decide | (simp;done) | (simp [maxLen];omega)) ?_)
    exact retB5 (m:=⟨cl,sk,[],se,ta⟩) _ _ _ _ _ (rdN_all eI_ok 10 _ rfl rfl) (rdN_all eI_ok 11 _ rfl rfl) (rdN_x0 16 rfl) (rdN_all eI_ok 13 _ rfl rfl) (rdN_all eP_ok 14 _ rfl rfl) (rdT_ok _ _ _ _ _ (⟨cl,sk,[],se,ta⟩,2,x))
   ·have hr:0<r.length:=by omega
    repeat (with_reducible refine And.intro (by first | (simp only [maxLen];omega) | omega | decide | (simp;done) | (simp [maxLen];omega)) ?_)
    refine draw_vc (by kernel_rfl) (mkTab_ok _ _) (of_decide_eq_true rfl) (of_decide_eq_true rfl) ?_
    repeat (first | simp (maxSteps:=2000000) only [go_sem,↓reduceIte,Nat.reduceLT,Nat.reduceLeDiff,Nat.reduceAdd,Nat.reduceSub,Nat.reduceMul,Nat.reduceEqDiff,reduceCtorEq,Int.reduceToNat,Int.reduceEq,Int.reduceBEq,Int.reduceBNe,Int.reduceLT,Int.reduceLE,Int.reduceNeg,Int.reduceAdd,Int.reduceSub,Int.reduceMul,Int.reduceGE,Int.reduceGT,endO,eI,eP] | rw [dr_cons])
    repeat (with_reducible refine And.intro (by first | (simp only [maxLen];omega) | omega | decide | (simp;done) | (simp [maxLen];omega)) ?_)
    refine dcallV (.agg [.v (.int .i64 2),.v (.int .i64 x)]) _ (fun E=>rfl) (fun E a w' _=>value_Z x w') ?_
    repeat (first | simp (maxSteps:=2000000) only [go_sem,↓reduceIte,Nat.reduceLT,Nat.reduceLeDiff,Nat.reduceAdd,Nat.reduceSub,Nat.reduceMul,Nat.reduceEqDiff,reduceCtorEq,Int.reduceToNat,Int.reduceEq,Int.reduceBEq,Int.reduceBNe,Int.reduceLT,Int.reduceLE,Int.reduceNeg,Int.reduceAdd,Int.reduceSub,Int.reduceMul,Int.reduceGE,Int.reduceGT,endO] | rw [dr_cons])
    repeat (with_reducible refine And.intro (by first | (simp only [maxLen];omega) | omega | decide | (simp;done) | (simp [maxLen];omega)) ?_)
    exact retB5 (m:=⟨cl,sk,r,se,ta⟩) _ _ _ _ _ (rdN_all eI_ok 10 _ rfl rfl) (rdN_all eI_ok 11 _ rfl rfl) (rdN_sl eI_ok 12 _ 1 _ _ none rfl (by simp <;> omega) (by simp) (fun q h=>by cases h) (fun e he=>by simp [ats,arrOf,Nat.add_comm 1 e])) (rdN_all eI_ok 13 _ rfl rfl) (rdN_all eP_ok 14 _ rfl rfl) (rdT_ok _ _ _ _ _ (⟨cl,sk,r,se,ta⟩,2,x))
 exfalso
 simp only [b_decR,b_decL,bt_ite,bf_ite,bt_dec,bf_dec,bt_int,bf_int,bt_nint,bf_nint,bt_bool,bf_bool,bt_nbool,bf_nbool,bt_not,bf_not,bt_and,bf_and,bt_or,bf_or,Bool.false_eq_true,Bool.true_eq_false,Bool.not_eq_true,Bool.not_eq_false,reduceCtorEq,false_iff,true_iff,iff_false,iff_true,and_true,true_and,and_false,false_and,or_true,true_or,or_false,false_or,not_true_eq_false,not_false_eq_true,ne_eq] at n22 n23 n30 n31 n40 n41
 omega
end Go.Proofs.Ytkjeedlkkpgopaa.Z
