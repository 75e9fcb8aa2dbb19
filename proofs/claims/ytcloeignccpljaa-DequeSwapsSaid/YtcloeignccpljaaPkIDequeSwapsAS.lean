/- DequeSwapsSaid: what its proof is made of. No condition. -/
import Derived.Test.YtcloeignccpljaaPkIDequeSwapsAR
set_option linter.unusedSimpArgs false
set_option linter.unusedVariables false
namespace Go.Proofs.Ytcloeignccpljaa.Z
open Go Go.RowKit
def ir4:IR:=(.seq (.ops [⟨(some 2),(.box 23 (.t 0)),none⟩,⟨(some 4),(.mv (.k (.c (.v (.bool false))))),none⟩]) (.kill [0,3,4,5,6,7,8,9,10,11] (.seq (.seq (.ops [⟨(some 13),(.ld true 2 (.t 2)),none⟩,⟨(some 14),(.mv (.t 1)),none⟩,⟨(some 15),(.call 13 [(.t 13),(.t 14)]),none⟩,⟨(some 16),(.un .not (.t 15)),none⟩]) (.kill [13,14,15] (.cond (.t 16) (.seq (.ops [⟨(some 17),(.call 14 []),none⟩,⟨(some 4),(.mv (.t 17)),none⟩]) (.kill [1,2,16,17] .ret)) .skip))) (.kill [4,16] (.seq (.ops [⟨(some 19),(.ld true 2 (.t 2)),none⟩,⟨(some 20),(.mv (.t 1)),none⟩,⟨(some 21),(.call 15 [(.t 19),(.t 20)]),none⟩,⟨(some 18),(.mv (.t 21)),none⟩,⟨(some 22),(.ext 0 (.t 18)),none⟩,⟨(some 23),(.ext 1 (.t 18)),none⟩,⟨(some 5),(.new 41 [(.v (.slice none 0 0)),(.v (.slice none 0 0)),(.v (.slice none 0 0)),(.v (.slice none 0 0))]),none⟩,⟨none,(.st 4 (.t 5) (.t 22)),none⟩,⟨(some 6),(.mv (.t 23)),none⟩]) (.kill [1,18,19,20,21,22,23] (.seq (.seq (.ops [⟨(some 24),(.mv (.t 6)),none⟩,⟨(some 25),(.un .not (.t 24)),none⟩]) (.kill [6,24] (.cond (.t 25) (.seq (.ops [⟨(some 4),(.mv (.k (.c (.v (.bool false))))),none⟩]) (.kill [2,5,25] .ret)) .skip))) (.kill [4,25] (.seq (.ops [⟨(some 7),(.mv (.k (.c (.v (.int .u64 0))))),none⟩]) (.seq (.ops [⟨(some 26),(.fa 0 (.t 2)),none⟩,⟨(some 27),(.ld false 1 (.t 26)),none⟩,⟨(some 28),(.mks 3 1 8 [(.v (.int .i64 0))] (.t 27) (.t 27)),none⟩,⟨(some 8),(.mv (.t 28)),none⟩]) (.kill [26,27,28] (.seq (.ops [⟨(some 9),(.mv (.k (.c (.v (.int .u64 0))))),none⟩]) (.seq (.ops [⟨(some 10),(.mv (.k (.c (.v (.int .i64 (-1)))))),none⟩]) (.seq (.seq (.ops [⟨(some 11),(.mv (.k (.c (.v (.int .i64 0))))),none⟩]) (.blk 0 (.loop (.seq (.seq (.ops [⟨(some 29),(.mv (.t 11)),none⟩,⟨(some 30),(.fa 1 (.t 5)),none⟩,⟨(some 31),(.ld false 1 (.t 30)),none⟩,⟨(some 32),(.len (.t 31)),none⟩,⟨(some 33),(.bin .lss (.t 29) (.t 32)),none⟩]) (.kill [4,12,29,30,31,32,34,35,36,37,38,39,40,41,42,43,44,45,46,47,48,49,50,51,52,53,54,55,56,57,58,59,60,61,62,63,64,65,66,67,68,69,70,71,72,73,74,75,76,77,78,79,80,81,82,83,84,85,86,87,88,89,90,91,92,93,94,95,96,97,98,99,100,101,102,103,104,105,106,107,108,109,110,111,112,113,114,115,116,117,118,119,120,121,122,123,124,125,126,127,128,129,130] (.cond (.t 33) .skip (.exit 0)))) (.kill [33] (.seq (.blk 1 (.seq (.ops [⟨(some 36),(.fa 1 (.t 5)),none⟩,⟨(some 37),(.ld false 1 (.t 36)),none⟩,⟨(some 38),(.mv (.t 11)),none⟩,⟨(some 39),(.ia 7 (.t 37) (.t 38)),none⟩,⟨(some 40),(.ld true 7 (.t 39)),none⟩,⟨(some 12),(.new 47 [(.v (.int .i64 0)),(.v (.int .i64 0)),(.v (.int .i64 0)),(.v (.int .i64 0)),(.v (.int .u64 0)),(.v (.int .u64 0)),(.v (.int .u64 0))]),none⟩,⟨none,(.st 7 (.t 12) (.t 40)),none⟩]) (.kill [36,37,38,39,40] (.seq (.seq (.ops [⟨(some 41),(.fa 1 (.t 12)),none⟩,⟨(some 42),(.ld false 1 (.t 41)),none⟩,⟨(some 43),(.bin .lss (.t 42) (.k (.c (.v (.int .i64 0))))),none⟩,⟨(some 44),(.mv (.t 43)),none⟩,⟨(some 45),(.fa 1 (.t 12)),(some (44,false))⟩,⟨(some 46),(.ld false 1 (.t 45)),(some (44,false))⟩,⟨(some 47),(.fa 0 (.t 2)),(some (44,false))⟩,⟨(some 48),(.ld false 1 (.t 47)),(some (44,false))⟩,⟨(some 49),(.bin .geq (.t 46) (.t 48)),(some (44,false))⟩,⟨(some 50),(.pick (.t 44) (.k (.c (.v (.bool true)))) (.t 49)),none⟩]) (.kill [41,42,43,44,45,46,47,48,49] (.cond (.t 50) (.seq (.ops [⟨(some 4),(.mv (.k (.c (.v (.bool false))))),none⟩]) (.kill [2,5,7,8,9,10,11,12,50] .ret)) .skip))) (.kill [4,50] (.seq (.seq (.ops [⟨(some 51),(.fa 1 (.t 12)),none⟩,⟨(some 52),(.ld false 1 (.t 51)),none⟩,⟨(some 53),(.bin .eql (.t 52) (.k (.c (.v (.int .i64 0))))),none⟩,⟨(some 54),(.mv (.t 53)),none⟩,⟨(some 55),(.fa 3 (.t 12)),(some (54,true))⟩,⟨(some 56),(.ld false 1 (.t 55)),(some (54,true))⟩,⟨(some 57),(.bin .eql (.t 56) (.k (.c (.v (.int .i64 1))))),(some (54,true))⟩,⟨(some 58),(.pick (.t 54) (.t 57) (.k (.c (.v (.bool false))))),none⟩,⟨(some 59),(.mv (.t 58)),none⟩,⟨(some 60),(.fa 2 (.t 12)),(some (59,true))⟩,⟨(some 61),(.ld false 1 (.t 60)),(some (59,true))⟩,⟨(some 62),(.bin .eql (.t 61) (.k (.c (.v (.int .i64 2))))),(some (59,true))⟩,⟨(some 63),(.pick (.t 59) (.t 62) (.k (.c (.v (.bool false))))),none⟩]) (.kill [51,52,53,54,55,56,57,58,59,60,61,62] (.cond (.t 63) (.ops [⟨(some 64),(.fa 5 (.t 12)),none⟩,⟨(some 65),(.ld false 1 (.t 64)),none⟩,⟨(some 9),(.mv (.t 65)),none⟩]) .skip))) (.kill [63,64,65] (.seq (.seq (.ops [⟨(some 66),(.fa 3 (.t 12)),none⟩,⟨(some 67),(.ld false 1 (.t 66)),none⟩,⟨(some 68),(.bin .neq (.t 67) (.k (.c (.v (.int .i64 0))))),none⟩]) (.kill [66,67] (.cond (.t 68) (.exit 1) .skip))) (.kill [68] (.seq (.blk 2 (.seq (.ops [⟨(some 70),(.fa 2 (.t 12)),none⟩,⟨(some 71),(.ld false 1 (.t 70)),none⟩,⟨(some 72),(.bin .eql (.t 71) (.k (.c (.v (.int .i64 1))))),none⟩,⟨(some 69),(.mv (.t 72)),none⟩]) (.kill [70,71,72] (.cond (.t 69) (.seq (.ops [⟨(some 73),(.mv (.t 8)),none⟩,⟨(some 74),(.fa 1 (.t 12)),none⟩,⟨(some 75),(.ld false 1 (.t 74)),none⟩,⟨(some 76),(.mv (.t 11)),none⟩,⟨(some 77),(.ia 1 (.t 73) (.t 75)),none⟩,⟨none,(.st 1 (.t 77) (.t 76)),none⟩]) (.kill [69,73,74,75,76,77] (.seq (.ops [⟨(some 78),(.fa 6 (.t 12)),none⟩,⟨(some 79),(.ld false 1 (.t 78)),none⟩,⟨(some 80),(.mv (.t 7)),none⟩,⟨(some 81),(.bin .neq (.t 79) (.t 80)),none⟩]) (.kill [78,79,80] (.cond (.t 81) (.seq (.ops [⟨(some 4),(.mv (.k (.c (.v (.bool false))))),none⟩]) (.kill [2,5,7,8,9,10,11,12,81] .ret)) .skip))))) (.seq (.ops [⟨(some 83),(.fa 2 (.t 12)),none⟩,⟨(some 84),(.ld false 1 (.t 83)),none⟩,⟨(some 85),(.bin .eql (.t 84) (.k (.c (.v (.int .i64 2))))),none⟩,⟨(some 86),(.mv (.t 85)),none⟩,⟨(some 87),(.fa 5 (.t 12)),(some (86,false))⟩,⟨(some 88),(.ld false 1 (.t 87)),(some (86,false))⟩,⟨(some 89),(.fa 4 (.t 12)),(some (86,false))⟩,⟨(some 90),(.ld false 1 (.t 89)),(some (86,false))⟩,⟨(some 91),(.bin .add (.t 90) (.k (.c (.v (.int .u64 1))))),(some (86,false))⟩,⟨(some 92),(.bin .neq (.t 88) (.t 91)),(some (86,false))⟩,⟨(some 93),(.pick (.t 86) (.k (.c (.v (.bool true)))) (.t 92)),none⟩,⟨(some 82),(.mv (.t 93)),none⟩]) (.kill [69,83,84,85,86,87,88,89,90,91,92,93] (.cond (.t 82) (.seq (.ops [⟨(some 4),(.mv (.k (.c (.v (.bool false))))),none⟩]) (.kill [2,5,7,8,9,10,11,12,82] .ret)) (.seq (.ops [⟨(some 95),(.fa 6 (.t 12)),none⟩,⟨(some 96),(.ld false 1 (.t 95)),none⟩,⟨(some 97),(.fa 4 (.t 12)),none⟩,⟨(some 98),(.ld false 1 (.t 97)),none⟩,⟨(some 99),(.bin .eql (.t 96) (.t 98)),none⟩,⟨(some 94),(.mv (.t 99)),none⟩]) (.kill [82,95,96,97,98,99] (.cond (.t 94) (.seq (.ops [⟨(some 100),(.mv (.t 7)),none⟩,⟨(some 101),(.bin .add (.t 100) (.k (.c (.v (.int .u64 1))))),none⟩,⟨(some 7),(.mv (.t 101)),none⟩]) (.kill [10,94,100,101] (.ops [⟨(some 102),(.mv (.t 11)),none⟩,⟨(some 10),(.mv (.t 102)),none⟩]))) (.seq (.ops [⟨(some 104),(.mv (.t 10)),none⟩,⟨(some 105),(.mv (.t 8)),none⟩,⟨(some 106),(.fa 1 (.t 12)),none⟩,⟨(some 107),(.ld false 1 (.t 106)),none⟩,⟨(some 108),(.ia 1 (.t 105) (.t 107)),none⟩,⟨(some 109),(.ld false 1 (.t 108)),none⟩,⟨(some 110),(.bin .lss (.t 104) (.t 109)),none⟩,⟨(some 103),(.mv (.t 110)),none⟩]) (.kill [94,104,105,106,107,108,109,110] (.cond (.t 103) (.seq (.ops [⟨(some 4),(.mv (.k (.c (.v (.bool false))))),none⟩]) (.kill [2,5,7,8,9,10,11,12,103] .ret)) .skip))))))))))))) (.kill [4,69,70,71,72,73,74,75,76,77,78,79,80,81,82,83,84,85,86,87,88,89,90,91,92,93,94,95,96,97,98,99,100,101,102,103,104,105,106,107,108,109,110] (.seq (.ops [⟨(some 111),(.fa 1 (.t 12)),none⟩,⟨(some 112),(.ld false 1 (.t 111)),none⟩,⟨(some 113),(.bin .eql (.t 112) (.k (.c (.v (.int .i64 0))))),none⟩,⟨(some 114),(.mv (.t 113)),none⟩,⟨(some 115),(.fa 2 (.t 12)),(some (114,true))⟩,⟨(some 116),(.ld false 1 (.t 115)),(some (114,true))⟩,⟨(some 117),(.bin .eql (.t 116) (.k (.c (.v (.int .i64 3))))),(some (114,true))⟩,⟨(some 118),(.pick (.t 114) (.t 117) (.k (.c (.v (.bool false))))),none⟩,⟨(some 119),(.mv (.t 118)),none⟩,⟨(some 120),(.ld true 4 (.t 5)),(some (119,true))⟩,⟨(some 121),(.fa 0 (.t 12)),(some (119,true))⟩,⟨(some 122),(.ld false 1 (.t 121)),(some (119,true))⟩,⟨(some 123),(.call 16 [(.t 120),(.t 122)]),(some (119,true))⟩,⟨(some 124),(.pick (.t 119) (.t 123) (.k (.c (.v (.bool false))))),none⟩,⟨(some 125),(.mv (.t 124)),none⟩,⟨(some 126),(.fa 4 (.t 12)),(some (125,true))⟩,⟨(some 127),(.ld false 1 (.t 126)),(some (125,true))⟩,⟨(some 128),(.mv (.t 9)),(some (125,true))⟩,⟨(some 129),(.bin .neq (.t 127) (.t 128)),(some (125,true))⟩,⟨(some 130),(.pick (.t 125) (.t 129) (.k (.c (.v (.bool false))))),none⟩]) (.kill [12,111,112,113,114,115,116,117,118,119,120,121,122,123,124,125,126,127,128,129] (.cond (.t 130) (.seq (.ops [⟨(some 4),(.mv (.k (.c (.v (.bool false))))),none⟩]) (.kill [2,5,7,8,9,10,11,130] .ret)) .skip)))))))))))))) (.kill [4,12,36,37,38,39,40,41,42,43,44,45,46,47,48,49,50,51,52,53,54,55,56,57,58,59,60,61,62,63,64,65,66,67,68,69,70,71,72,73,74,75,76,77,78,79,80,81,82,83,84,85,86,87,88,89,90,91,92,93,94,95,96,97,98,99,100,101,102,103,104,105,106,107,108,109,110,111,112,113,114,115,116,117,118,119,120,121,122,123,124,125,126,127,128,129,130] (.ops [⟨(some 34),(.mv (.t 11)),none⟩,⟨(some 35),(.bin .add (.t 34) (.k (.c (.v (.int .i64 1))))),none⟩,⟨(some 11),(.mv (.t 35)),none⟩])))))))) (.kill [2,4,5,7,8,9,10,11,12,29,30,31,32,33,34,35,36,37,38,39,40,41,42,43,44,45,46,47,48,49,50,51,52,53,54,55,56,57,58,59,60,61,62,63,64,65,66,67,68,69,70,71,72,73,74,75,76,77,78,79,80,81,82,83,84,85,86,87,88,89,90,91,92,93,94,95,96,97,98,99,100,101,102,103,104,105,106,107,108,109,110,111,112,113,114,115,116,117,118,119,120,121,122,123,124,125,126,127,128,129,130] (.seq (.ops [⟨(some 4),(.mv (.k (.c (.v (.bool true))))),none⟩]) .ret))))))))))))))))
def rs4:List RS:=[(.t 4)]
def nt4:Nat:=131
set_option maxRecDepth 100000 in
set_option maxHeartbeats 2000000 in
theorem swaps_no (w:World) (v:Value) (t r:Int) (l:List D.Mo) (hn:(mayD t r && decide (l.length≤65536))=false) (h:Arr w D.Mo.enc 4 v l) :
  Calls Try.prog 4 #[.agg #[.int .i64 t,.int .i64 r],v] w (RetV w (.bool true)):=by
 refine enter1 (A:=[]) (c:=ir4) (rs:=rs4) (nt:=nt4) D.mo0 D.Mo.ok h [dA t r,.c (.xv (0,0,0))] _ Try.func4 rfl (by kernel_rfl) (by kernel_rfl) rfl (fun E' h0=>by simp [dA,SV.den,SC.den,h0,iI]) (of_decide_eq_true rfl) ?_
 simp (maxSteps:=2000000) only [ir4,nt4,rs4,go_sem,↓reduceIte,Nat.reduceLT,Nat.reduceLeDiff,Nat.reduceAdd,Nat.reduceSub,Nat.reduceMul,Nat.reduceEqDiff,reduceCtorEq,Int.reduceToNat,Int.reduceEq,Int.reduceBEq,Int.reduceBNe,Int.reduceLT,Int.reduceLE,Int.reduceNeg,Int.reduceAdd,Int.reduceSub,Int.reduceMul,Int.reduceGE,Int.reduceGT,endO,dA,iI]
 refine callV (.c (.v (.bool false))) _ (fun E=>rfl) (fun E a w' hs=>hn ▸ fits_calls w' _ t r l (arr_at (d:=D.mo0) hs 0 rfl)) ?_
 simp (maxSteps:=2000000) only [go_sem,↓reduceIte,Nat.reduceLT,Nat.reduceLeDiff,Nat.reduceAdd,Nat.reduceSub,Nat.reduceMul,Nat.reduceEqDiff,reduceCtorEq,Int.reduceToNat,Int.reduceEq,Int.reduceBEq,Int.reduceBNe,Int.reduceLT,Int.reduceLE,Int.reduceNeg,Int.reduceAdd,Int.reduceSub,Int.reduceMul,Int.reduceGE,Int.reduceGT,endO]
 refine callV (.c (.v (.bool true))) _ (fun E=>rfl) (fun E a w' hs=>awake_calls w') ?_
 simp (maxSteps:=2000000) only [go_sem,↓reduceIte,Nat.reduceLT,Nat.reduceLeDiff,Nat.reduceAdd,Nat.reduceSub,Nat.reduceMul,Nat.reduceEqDiff,reduceCtorEq,Int.reduceToNat,Int.reduceEq,Int.reduceBEq,Int.reduceBNe,Int.reduceLT,Int.reduceLE,Int.reduceNeg,Int.reduceAdd,Int.reduceSub,Int.reduceMul,Int.reduceGE,Int.reduceGT,endO]
 exact retV fun E=>rfl
theorem ats_zeroI (n e:Nat):ats eI (List.replicate n 0) 0 e=[.v (.int .i64 0)]:=by
 have:(List.replicate n (0:Int)).getD e 0=0:=by
  rw [List.getD_eq_getElem?_getD,List.getElem?_replicate];split <;> rfl
 simp only [ats,this];rfl
theorem sc1_len (i:Nat) (a:D.Ac) (s:D.Sc):(D.sc1 i a s).ld.length=s.ld.length:=by
 unfold D.sc1
 split
 ·rfl
 split
 ·simp
 split <;> rfl
theorem scanI_len:∀ (L:List D.Ac) (i:Nat) (s:D.Sc),(D.scanI i s L).ld.length=s.ld.length
 | [],_,_=>rfl
 | a :: L,i,s=>(scanI_len L _ _).trans (sc1_len _ _ _)
theorem scan_len (t:Nat) (L:List D.Ac):(D.scan t L).ld.length=t:=(scanI_len L _ _).trans (by simp [D.sc0])
theorem guardVq {C:Ctx} {ex:List KI→St→Prop} {f:Nat} {vs:List SV} {r:List IO1} {k:List KI} {S S' : St} {d:Option Nat} {g:Nat} {want e:Bool} {Z Z' : Prop} (tmpl:SV) (u:Value) (hv:∀ E,tmpl.den E=u) (hc:∀ E a w,Sat C.B C.W C.w0 E S' a w→Calls C.P f (vs.map (SV.den E)).toArray w (RetV w u))
  (hk:ex (.ops r :: k) ⟨S.nt,S.putT d (.gd g want e tmpl),S.own,S.arrs,S.facts,S.nid⟩):CallG C ex f vs r k S S' d g want e Z∨Z' :=
 Or.inl (Or.inl ⟨tmpl,fun _=>crv_retV tmpl u hv hc,hk⟩)
theorem isSl_den (E:Env) (x:Nm) (s o n:Nat) (c:Option Nat):IsSl ((SC.sl x s o n c).den E):=by
 simp only [SC.den]
 split <;> exact ⟨_,_,_,rfl⟩
def iU (n:Int):SC:=.v (.int .u64 n)
theorem ats_Lg (xs:List D.Ac) (d:D.Ac) (e:Nat):ats D.Ac.enc xs d e=[iI (xs.getD e d).mv,iI (xs.getD e d).th,iI (xs.getD e d).kd,iI (xs.getD e d).ad,iU (xs.getD e d).old,iU (xs.getD e d).new,iU (xs.getD e d).saw]:=rfl
theorem ats_I (xs:List Int) (d:Int) (e:Nat):ats eI xs d e=[iI (xs.getD e d)]:=rfl
def swS (th:Nat) (r:Int) (l:List D.Mo) (m:D.Pm) (s:D.Sc) (k:Nat):St :=
  ⟨131,[(2,.c (.ptr (1,0,0) 0)),(5,.c (.ptr (6,0,0) 0)),(7,.c (.v (.int .u64 s.top))),(8,.c (.sl (7,0,0) 1 0 th none)),(9,.c (.v (.int .u64 s.dn))),(10,.c (iI s.last)),(11,.c (iI k))],
    [(1,.one (.bk [iI th,iI r] 23)),(2,.one (.ar m.C.length 9 (ats D.Ca.enc m.C D.ca0) 77)),(3,.one (.ar m.L.length 7 (ats D.Ac.enc m.L D.ac0) 47)),(4,.one (.ar m.W.length 1 (ats eU m.W 0) 44)),(5,.one (.ar 0 5 (ats D.Sh.enc [] D.sh0) 85)),
     (6,.one (.bk [.sl (2,0,0) 9 0 m.C.length none,.sl (3,0,0) 7 0 m.L.length none,.sl (5,0,0) 5 0 0 none,.sl (4,0,0) 1 0 m.W.length none] 41)),(7,.one (.ar th 1 (ats eI s.ld 0) 3))],
    [(0,.one (arrOf D.Mo.enc 4 l D.mo0))],[],8⟩
set_option maxRecDepth 100000 in
set_option maxHeartbeats 4000000 in
theorem swaps_yes (w:World) (v:Value) (th:Nat) (r:Int) (l:List D.Mo) (hm:mayD th r=true) (hl:l.length≤65536) (ha:∀ y∈l,D.i64 y.arg=y.arg) (h:Arr w D.Mo.enc 4 v l) :
  Calls Try.prog 4 #[.agg #[.int .i64 th,.int .i64 r],v] w (RetV w (.bool true)):=by
 refine enter1 (A:=[]) (c:=ir4) (rs:=rs4) (nt:=nt4) D.mo0 D.Mo.ok h [dA th r,.c (.xv (0,0,0))] _ Try.func4 rfl (by kernel_rfl) (by kernel_rfl) rfl (fun E' h0=>by simp [dA,SV.den,SC.den,h0,iI]) (of_decide_eq_true rfl) ?_
 have hmm:1≤(th:Int)∧(th:Int)≤16∧1≤r∧r≤256:=of_decide_eq_true hm
 have hf:(mayD th r && decide (l.length≤65536))=true:=by rw [hm,decide_eq_true (by omega)];rfl
 simp (maxSteps:=2000000) only [ir4,nt4,rs4,go_sem,↓reduceIte,Nat.reduceLT,Nat.reduceLeDiff,Nat.reduceAdd,Nat.reduceSub,Nat.reduceMul,Nat.reduceEqDiff,reduceCtorEq,Int.reduceToNat,Int.reduceEq,Int.reduceBEq,Int.reduceBNe,Int.reduceLT,Int.reduceLE,Int.reduceNeg,Int.reduceAdd,Int.reduceSub,Int.reduceMul,Int.reduceGE,Int.reduceGT,endO,dA,iI]
 refine callV (.c (.v (.bool true))) _ (fun E=>rfl) (fun E a w' hs=>hf ▸ fits_calls w' _ th r l (arr_at (d:=D.mo0) hs 0 rfl)) ?_
 simp (maxSteps:=2000000) only [go_sem,↓reduceIte,Nat.reduceLT,Nat.reduceLeDiff,Nat.reduceAdd,Nat.reduceSub,Nat.reduceMul,Nat.reduceEqDiff,reduceCtorEq,Int.reduceToNat,Int.reduceEq,Int.reduceBEq,Int.reduceBNe,Int.reduceLT,Int.reduceLE,Int.reduceNeg,Int.reduceAdd,Int.reduceSub,Int.reduceMul,Int.reduceGE,Int.reduceGT,endO]
 refine callN 4 (playedT (D.runM (D.newM th r) l)) (rnO (D.runM (D.newM th r) l)) (fun E a w' hs=>played_calls w' _ th r l hm hl ha (arr_at (d:=D.mo0) hs 0 rfl)) ?_
 have hB:D.Both (D.runM (D.newM th r) l) (D.runR (D.newR th r) l):=(good_run l (good_new (by omega) (by omega) (by omega)) ha).b
 have hT:=D.tr_run l (D.both_new (t:=th) (r:=r) (by omega) (by omega) (by omega)) ha (D.tr_new (by omega)).1 (D.tr_new (by omega)).2
 obtain ⟨_,hS,hmv⟩:=D.run_inv l (D.new_inv th r (by omega))
 replace hS:=hS.trans (show (D.newM th r).S.length=th by simp [D.newM])
 replace hmv:(D.runM (D.newM th r) l).mv≤65536:=by simp only [D.newM] at hmv ⊢;omega
 have hfl:=(good_run l (good_new (t:=th) (r:=r) (by omega) (by omega) (by omega)) ha).f.l
 generalize D.runM (D.newM th r) l=m at hB hS hmv hfl ⊢
 generalize D.runR (D.newR th r) l=x at hB hT
 have hx:x.thr=th:=by rw [← hB.sim.thr,hS]
 simp (maxSteps:=2000000) only [go_sem,↓reduceIte,Nat.reduceLT,Nat.reduceLeDiff,Nat.reduceAdd,Nat.reduceSub,Nat.reduceMul,Nat.reduceEqDiff,reduceCtorEq,Int.reduceToNat,Int.reduceEq,Int.reduceBEq,Int.reduceBNe,Int.reduceLT,Int.reduceLE,Int.reduceNeg,Int.reduceAdd,Int.reduceSub,Int.reduceMul,Int.reduceGE,Int.reduceGT,endO,playedT,rnO,iI]
 refine ⟨⟨Int.le_refl _,by omega,by simp only [maxLen];omega⟩,?_⟩
 refine loopI (ι:={ k:Nat // k≤m.L.length }) (fun k=>swS th r l m (D.scan th (m.L.take k.1)) k.1) (fun k=>m.L.length - k.1) ⟨0,Nat.zero_le _⟩ ?_ ?_
 ·refine le_ren id rfl rfl (by simp [TmpsLe,look,SV.ren,SC.ren,idσ,SV.okN,SC.okN,iI,swS,D.scan,D.scanI,D.sc0]) ?_ ⟨⟨show 0<8 by decide,arrLe_of⟩,trivial⟩ rfl
  exact own_bk (show 1<8 by decide) rfl (by simp [SC.renL,SC.ren,iI]) (by simp [SC.okL,SC.okN,iI]) (own_av (show 2<8 by decide) rfl (Nat.le_refl _) (fun _ _=>rfl) (own_av (show 3<8 by decide) rfl (Nat.le_refl _) (fun _ _=>rfl) (own_av (show 4<8 by decide) rfl (Nat.le_refl _) (fun _ _=>rfl) (own_av (show 5<8 by decide) rfl (Nat.le_refl _) (fun _ _=>rfl)
   (own_bk (show 6<8 by decide) rfl (by simp [SC.renL,SC.ren,idσ]) (by simp [SC.okL,SC.okN,swS]) (own_av (show 7<8 by decide) rfl (Nat.le_refl _) (fun e he=>(ats_zeroI th e).symm) trivial))))))
 rintro ⟨k,hk⟩
 dsimp only [swS]
 by_cases hlt:k<m.L.length
 rotate_left
 ·have d1:decide (k<m.L.length)=false:=decide_eq_false hlt
  simp (maxSteps:=2000000) only [go_sem,↓reduceIte,Nat.reduceLT,Nat.reduceLeDiff,Nat.reduceAdd,Nat.reduceSub,Nat.reduceMul,Nat.reduceEqDiff,reduceCtorEq,Int.reduceToNat,Int.reduceEq,Int.reduceBEq,Int.reduceBNe,Int.reduceLT,Int.reduceLE,Int.reduceNeg,Int.reduceAdd,Int.reduceSub,Int.reduceMul,Int.reduceGE,Int.reduceGT,endO,iI,D.Ac.enc,d1]
  exact retV fun E=>rfl
 have d1:decide (k<m.L.length)=true:=decide_eq_true hlt
 have hok:=hT.2.ok k (hB.sim.L ▸ hlt)
 rw [← hB.sim.L,← hB.sim.C,hx,Int.toNat_natCast] at hok
 have hst:=D.scan_take (t:=th) hlt
 have hlen:(D.scan th (m.L.take k)).ld.length=th:=scan_len th _
 generalize hs:D.scan th (m.L.take k)=s at hok hst hlen ⊢
 generalize hA:m.L.getD k D.ac0=A at hok hst
 obtain ⟨amv,ath,akd,aad,aold,anew,asaw⟩:=A
 obtain ⟨o1,o2,o3⟩:=hok
 simp only at o1 o2 o3
 obtain ⟨i,rfl⟩:∃ i:Nat,ath=i:=⟨ath.toNat,by omega⟩
 have d2:decide ((i:Int)<0)=false:=decide_eq_false (by omega)
 have d3:decide ((i:Int)≥th)=false:=decide_eq_false (by omega)
 have d3' : decide (i≥th)=false:=decide_eq_false (by omega)
 have d3'' : decide (th≤i)=false:=decide_eq_false (by omega)
 have hL:s.ld.length=th:=hlen
 have hw:IntKind.i64.wrap ((k:Int)+1)=(k:Int)+1:=wr_succ (by omega)
 by_cases q1:aad=0
 rotate_left
 ·have d4:(aad != 0)=true:=by simp [q1]
  have hb:k<m.L.length∧m.L.length≤m.L.length:=⟨hlt,Nat.le_refl _⟩
  by_cases q2:i=0
  rotate_left
  ·have d5:((i:Int) == 0)=false:=by simp [q2]
   replace hst:D.scan th (m.L.take (k+1))=s:=hst.trans (by unfold D.sc1 D.scD;rw [if_pos (by exact q1),if_neg (by simp;omega)])
   simp (maxSteps:=2000000) only [go_sem,↓reduceIte,Nat.reduceLT,Nat.reduceLeDiff,Nat.reduceAdd,Nat.reduceSub,Nat.reduceMul,Nat.reduceEqDiff,reduceCtorEq,Int.reduceToNat,Int.reduceEq,Int.reduceBEq,Int.reduceBNe,Int.reduceLT,Int.reduceLE,Int.reduceNeg,Int.reduceAdd,Int.reduceSub,Int.reduceMul,Int.reduceGE,Int.reduceGT,endO,iI,iU,ats_Lg,ats_I,d1,hA,d2,d3,d3',d3'',hw,d4,d5]
   refine ⟨hb,hlt,?_⟩
   refine backI ⟨k+1,hlt⟩ (by simp only;omega) ?_
   rw [hst]
   exact le_ren id rfl rfl (by simp [TmpsLe,look,SV.ren,SC.ren,idσ,SV.okN,SC.okN,iI,swS]) (own_bk (show 1<8 by decide) rfl (by simp [SC.renL,SC.ren,iI]) (by simp [SC.okL,SC.okN,iI]) (own_av (show 2<8 by decide) rfl (Nat.le_refl _) (fun _ _=>rfl) (own_av (show 3<8 by decide) rfl (Nat.le_refl _) (fun _ _=>rfl) (own_av (show 4<8 by decide) rfl (Nat.le_refl _) (fun _ _=>rfl) (own_av (show 5<8 by decide) rfl (Nat.le_refl _) (fun _ _=>rfl) (own_bk (show 6<8 by decide) rfl (by simp [SC.renL,SC.ren,idσ]) (by simp [SC.okL,SC.okN,swS]) (own_av (show 7<8 by decide) rfl (Nat.le_refl _) (fun e he=>rfl) trivial))))))) ⟨⟨show 0<8 by decide,arrLe_of⟩,trivial⟩ rfl
  by_cases q3:aad=1
  rotate_left
  ·have d5:((i:Int) == 0)=true:=by simp [q2]
   have d6:(aad == 1)=false:=by simp [q3]
   replace hst:D.scan th (m.L.take (k+1))=s:=hst.trans (by unfold D.sc1 D.scD;rw [if_pos (by exact q1),if_neg (by simp;omega)])
   simp (maxSteps:=2000000) only [go_sem,↓reduceIte,Nat.reduceLT,Nat.reduceLeDiff,Nat.reduceAdd,Nat.reduceSub,Nat.reduceMul,Nat.reduceEqDiff,reduceCtorEq,Int.reduceToNat,Int.reduceEq,Int.reduceBEq,Int.reduceBNe,Int.reduceLT,Int.reduceLE,Int.reduceNeg,Int.reduceAdd,Int.reduceSub,Int.reduceMul,Int.reduceGE,Int.reduceGT,endO,iI,iU,ats_Lg,ats_I,d1,hA,d2,d3,d3',d3'',hw,d4,d5,d6]
   refine ⟨hb,hlt,?_⟩
   refine backI ⟨k+1,hlt⟩ (by simp only;omega) ?_
   rw [hst]
   exact le_ren id rfl rfl (by simp [TmpsLe,look,SV.ren,SC.ren,idσ,SV.okN,SC.okN,iI,swS]) (own_bk (show 1<8 by decide) rfl (by simp [SC.renL,SC.ren,iI]) (by simp [SC.okL,SC.okN,iI]) (own_av (show 2<8 by decide) rfl (Nat.le_refl _) (fun _ _=>rfl) (own_av (show 3<8 by decide) rfl (Nat.le_refl _) (fun _ _=>rfl) (own_av (show 4<8 by decide) rfl (Nat.le_refl _) (fun _ _=>rfl) (own_av (show 5<8 by decide) rfl (Nat.le_refl _) (fun _ _=>rfl) (own_bk (show 6<8 by decide) rfl (by simp [SC.renL,SC.ren,idσ]) (by simp [SC.okL,SC.okN,swS]) (own_av (show 7<8 by decide) rfl (Nat.le_refl _) (fun e he=>rfl) trivial))))))) ⟨⟨show 0<8 by decide,arrLe_of⟩,trivial⟩ rfl
  by_cases q4:akd=2
  rotate_left
  ·have d5:((i:Int) == 0)=true:=by simp [q2]
   have d6:(aad == 1)=true:=by simp [q3]
   have d7:(akd == 2)=false:=by simp [q4]
   replace hst:D.scan th (m.L.take (k+1))=s:=hst.trans (by unfold D.sc1 D.scD;rw [if_pos (by exact q1),if_neg (by simp;omega)])
   simp (maxSteps:=2000000) only [go_sem,↓reduceIte,Nat.reduceLT,Nat.reduceLeDiff,Nat.reduceAdd,Nat.reduceSub,Nat.reduceMul,Nat.reduceEqDiff,reduceCtorEq,Int.reduceToNat,Int.reduceEq,Int.reduceBEq,Int.reduceBNe,Int.reduceLT,Int.reduceLE,Int.reduceNeg,Int.reduceAdd,Int.reduceSub,Int.reduceMul,Int.reduceGE,Int.reduceGT,endO,iI,iU,ats_Lg,ats_I,d1,hA,d2,d3,d3',d3'',hw,d4,d5,d6,d7]
   refine ⟨hb,hlt,?_⟩
   refine backI ⟨k+1,hlt⟩ (by simp only;omega) ?_
   rw [hst]
   exact le_ren id rfl rfl (by simp [TmpsLe,look,SV.ren,SC.ren,idσ,SV.okN,SC.okN,iI,swS]) (own_bk (show 1<8 by decide) rfl (by simp [SC.renL,SC.ren,iI]) (by simp [SC.okL,SC.okN,iI]) (own_av (show 2<8 by decide) rfl (Nat.le_refl _) (fun _ _=>rfl) (own_av (show 3<8 by decide) rfl (Nat.le_refl _) (fun _ _=>rfl) (own_av (show 4<8 by decide) rfl (Nat.le_refl _) (fun _ _=>rfl) (own_av (show 5<8 by decide) rfl (Nat.le_refl _) (fun _ _=>rfl) (own_bk (show 6<8 by decide) rfl (by simp [SC.renL,SC.ren,idσ]) (by simp [SC.okL,SC.okN,swS]) (own_av (show 7<8 by decide) rfl (Nat.le_refl _) (fun e he=>rfl) trivial))))))) ⟨⟨show 0<8 by decide,arrLe_of⟩,trivial⟩ rfl
  have d5:((i:Int) == 0)=true:=by simp [q2]
  have d6:(aad == 1)=true:=by simp [q3]
  have d7:(akd == 2)=true:=by simp [q4]
  replace hst:D.scan th (m.L.take (k+1))={ s with dn:=anew }:=hst.trans (by unfold D.sc1 D.scD;rw [if_pos (by exact q1),if_pos (by simp;omega)])
  simp (maxSteps:=2000000) only [go_sem,↓reduceIte,Nat.reduceLT,Nat.reduceLeDiff,Nat.reduceAdd,Nat.reduceSub,Nat.reduceMul,Nat.reduceEqDiff,reduceCtorEq,Int.reduceToNat,Int.reduceEq,Int.reduceBEq,Int.reduceBNe,Int.reduceLT,Int.reduceLE,Int.reduceNeg,Int.reduceAdd,Int.reduceSub,Int.reduceMul,Int.reduceGE,Int.reduceGT,endO,iI,iU,ats_Lg,ats_I,d1,hA,d2,d3,d3',d3'',hw,d4,d5,d6,d7]
  refine ⟨hb,hlt,?_⟩
  refine backI ⟨k+1,hlt⟩ (by simp only;omega) ?_
  rw [hst]
  exact le_ren id rfl rfl (by simp [TmpsLe,look,SV.ren,SC.ren,idσ,SV.okN,SC.okN,iI,swS]) (own_bk (show 1<8 by decide) rfl (by simp [SC.renL,SC.ren,iI]) (by simp [SC.okL,SC.okN,iI]) (own_av (show 2<8 by decide) rfl (Nat.le_refl _) (fun _ _=>rfl) (own_av (show 3<8 by decide) rfl (Nat.le_refl _) (fun _ _=>rfl) (own_av (show 4<8 by decide) rfl (Nat.le_refl _) (fun _ _=>rfl) (own_av (show 5<8 by decide) rfl (Nat.le_refl _) (fun _ _=>rfl) (own_bk (show 6<8 by decide) rfl (by simp [SC.renL,SC.ren,idσ]) (by simp [SC.okL,SC.okN,swS]) (own_av (show 7<8 by decide) rfl (Nat.le_refl _) (fun e he=>rfl) trivial))))))) ⟨⟨show 0<8 by decide,arrLe_of⟩,trivial⟩ rfl
 subst q1
 have hb:k<m.L.length∧m.L.length≤m.L.length:=⟨hlt,Nat.le_refl _⟩
 have hi:i<th:=by omega
 have hO:∀ (w:World) (v v1 v2 v3:Value),IsSl v1→IsSl v2→IsSl v3→Arr w D.Ca.enc 9 v m.C→Calls Try.prog 16 #[.agg #[v,v1,v2,v3],.int .i64 amv] w (RetV w (.bool (D.owned m.C amv))):=fun w v v1 v2 v3 h1 h2 h3 h=>owned_calls w v v1 v2 v3 m.C amv h1 h2 h3 h
 have hN:D.NT m.C amv→D.owned m.C amv=false:=by rw [hB.sim.C];exact D.owned_nt hT.1
 have dz:((0:Int) == 1)=false:=rfl
 rcases o3 rfl with ⟨rfl,rfl⟩ | ⟨rfl,rfl,o4,o5⟩
 ·replace hst:D.scan th (m.L.take (k+1))={ s with ld:=s.ld.set i k }:=hst
  have d9:(s.top != s.top)=false:=by simp
  generalize D.owned m.C amv=bb at hO
  by_cases q2:i=0
  rotate_left
  ·have d5:((i:Int) == 0)=false:=by simp [q2]
   simp (maxSteps:=2000000) only [go_sem,↓reduceIte,Nat.reduceLT,Nat.reduceLeDiff,Nat.reduceAdd,Nat.reduceSub,Nat.reduceMul,Nat.reduceEqDiff,reduceCtorEq,Int.reduceToNat,Int.reduceEq,Int.reduceBEq,Int.reduceBNe,Int.reduceLT,Int.reduceLE,Int.reduceNeg,Int.reduceAdd,Int.reduceSub,Int.reduceMul,Int.reduceGE,Int.reduceGT,endO,iI,iU,ats_Lg,ats_I,d1,hA,d2,d3,d3',d3'',hw,d5,d9,dz]
   refine ⟨hb,hlt,⟨hi,Nat.le_refl _⟩,hi,?_⟩
   refine guardVq (.c (.v (.bool bb))) _ (fun E=>rfl) (fun E a w' hs=>hO w' _ _ _ _ (isSl_den _ _ _ _ _ _) (isSl_den _ _ _ _ _ _) (isSl_den _ _ _ _ _ _) (arr_own (d:=D.ca0) hs 2 _ _ _ rfl rfl (Nat.le_refl _) fun _ _=>rfl)) ?_
   simp (maxSteps:=2000000) only [go_sem,↓reduceIte,Nat.reduceLT,Nat.reduceLeDiff,Nat.reduceAdd,Nat.reduceSub,Nat.reduceMul,Nat.reduceEqDiff,reduceCtorEq,Int.reduceToNat,Int.reduceEq,Int.reduceBEq,Int.reduceBNe,Int.reduceLT,Int.reduceLE,Int.reduceNeg,Int.reduceAdd,Int.reduceSub,Int.reduceMul,Int.reduceGE,Int.reduceGT,endO,hw]
   refine backI ⟨k+1,hlt⟩ (by simp only;omega) ?_
   rw [hst]
   exact le_ren id rfl rfl (by simp [TmpsLe,look,SV.ren,SC.ren,idσ,SV.okN,SC.okN,iI,swS]) (own_bk (show 1<8 by decide) rfl (by simp [SC.renL,SC.ren,iI]) (by simp [SC.okL,SC.okN,iI]) (own_av (show 2<8 by decide) rfl (Nat.le_refl _) (fun _ _=>rfl) (own_av (show 3<8 by decide) rfl (Nat.le_refl _) (fun _ _=>rfl) (own_av (show 4<8 by decide) rfl (Nat.le_refl _) (fun _ _=>rfl) (own_av (show 5<8 by decide) rfl (Nat.le_refl _) (fun _ _=>rfl) (own_bk (show 6<8 by decide) rfl (by simp [SC.renL,SC.ren,idσ]) (by simp [SC.okL,SC.okN,swS]) (own_av (show 7<8 by decide) rfl (Nat.le_refl _) (fun e he=>ats_set (y:=(k:Int)) (by omega) rfl e (by rw [List.length_set];omega)) trivial))))))) ⟨⟨show 0<8 by decide,arrLe_of⟩,trivial⟩ rfl
  ·have d5:((i:Int) == 0)=true:=by simp [q2]
   simp (maxSteps:=2000000) only [go_sem,↓reduceIte,Nat.reduceLT,Nat.reduceLeDiff,Nat.reduceAdd,Nat.reduceSub,Nat.reduceMul,Nat.reduceEqDiff,reduceCtorEq,Int.reduceToNat,Int.reduceEq,Int.reduceBEq,Int.reduceBNe,Int.reduceLT,Int.reduceLE,Int.reduceNeg,Int.reduceAdd,Int.reduceSub,Int.reduceMul,Int.reduceGE,Int.reduceGT,endO,iI,iU,ats_Lg,ats_I,d1,hA,d2,d3,d3',d3'',hw,d5,d9,dz]
   refine ⟨hb,hlt,⟨hi,Nat.le_refl _⟩,hi,?_⟩
   refine guardVq (.c (.v (.bool bb))) _ (fun E=>rfl) (fun E a w' hs=>hO w' _ _ _ _ (isSl_den _ _ _ _ _ _) (isSl_den _ _ _ _ _ _) (isSl_den _ _ _ _ _ _) (arr_own (d:=D.ca0) hs 2 _ _ _ rfl rfl (Nat.le_refl _) fun _ _=>rfl)) ?_
   simp (maxSteps:=2000000) only [go_sem,↓reduceIte,Nat.reduceLT,Nat.reduceLeDiff,Nat.reduceAdd,Nat.reduceSub,Nat.reduceMul,Nat.reduceEqDiff,reduceCtorEq,Int.reduceToNat,Int.reduceEq,Int.reduceBEq,Int.reduceBNe,Int.reduceLT,Int.reduceLE,Int.reduceNeg,Int.reduceAdd,Int.reduceSub,Int.reduceMul,Int.reduceGE,Int.reduceGT,endO,hw]
   refine backI ⟨k+1,hlt⟩ (by simp only;omega) ?_
   rw [hst]
   exact le_ren id rfl rfl (by simp [TmpsLe,look,SV.ren,SC.ren,idσ,SV.okN,SC.okN,iI,swS]) (own_bk (show 1<8 by decide) rfl (by simp [SC.renL,SC.ren,iI]) (by simp [SC.okL,SC.okN,iI]) (own_av (show 2<8 by decide) rfl (Nat.le_refl _) (fun _ _=>rfl) (own_av (show 3<8 by decide) rfl (Nat.le_refl _) (fun _ _=>rfl) (own_av (show 4<8 by decide) rfl (Nat.le_refl _) (fun _ _=>rfl) (own_av (show 5<8 by decide) rfl (Nat.le_refl _) (fun _ _=>rfl) (own_bk (show 6<8 by decide) rfl (by simp [SC.renL,SC.ren,idσ]) (by simp [SC.okL,SC.okN,swS]) (own_av (show 7<8 by decide) rfl (Nat.le_refl _) (fun e he=>ats_set (y:=(k:Int)) (by omega) rfl e (by rw [List.length_set];omega)) trivial))))))) ⟨⟨show 0<8 by decide,arrLe_of⟩,trivial⟩ rfl
 ·have d9:(IntKind.u64.wrap (aold+1) != IntKind.u64.wrap (aold+1))=false:=by simp
  have dw:(D.u64 (aold+1) != IntKind.u64.wrap (aold+1))=false:=by simp
  change asaw≠aold→s.ld.getD (i:Int).toNat 0≤s.last at o4
  by_cases q5:asaw=aold
  ·subst q5
   replace hst:D.scan th (m.L.take (k+1))={ s with top:=D.u64 (s.top+1),last:=k }:=hst.trans (by unfold D.sc1;rw [if_neg (by simp),if_neg (by simp),if_pos rfl])
   have d10:(asaw == asaw)=true:=by simp
   by_cases q2:i=0
   rotate_left
   ·generalize D.owned m.C amv=bb at hO
    have d5:((i:Int) == 0)=false:=by simp [q2]
    simp (maxSteps:=2000000) only [go_sem,↓reduceIte,Nat.reduceLT,Nat.reduceLeDiff,Nat.reduceAdd,Nat.reduceSub,Nat.reduceMul,Nat.reduceEqDiff,reduceCtorEq,Int.reduceToNat,Int.reduceEq,Int.reduceBEq,Int.reduceBNe,Int.reduceLT,Int.reduceLE,Int.reduceNeg,Int.reduceAdd,Int.reduceSub,Int.reduceMul,Int.reduceGE,Int.reduceGT,endO,iI,iU,ats_Lg,ats_I,d1,hA,d2,d3,d3',d3'',hw,d9,dw,d10,dz,d5]
    refine ⟨hb,hlt,?_⟩
    refine guardVq (.c (.v (.bool bb))) _ (fun E=>rfl) (fun E a w' hs=>hO w' _ _ _ _ (isSl_den _ _ _ _ _ _) (isSl_den _ _ _ _ _ _) (isSl_den _ _ _ _ _ _) (arr_own (d:=D.ca0) hs 2 _ _ _ rfl rfl (Nat.le_refl _) fun _ _=>rfl)) ?_
    simp (maxSteps:=2000000) only [go_sem,↓reduceIte,Nat.reduceLT,Nat.reduceLeDiff,Nat.reduceAdd,Nat.reduceSub,Nat.reduceMul,Nat.reduceEqDiff,reduceCtorEq,Int.reduceToNat,Int.reduceEq,Int.reduceBEq,Int.reduceBNe,Int.reduceLT,Int.reduceLE,Int.reduceNeg,Int.reduceAdd,Int.reduceSub,Int.reduceMul,Int.reduceGE,Int.reduceGT,endO,hw]
    refine backI ⟨k+1,hlt⟩ (by simp only;omega) ?_
    rw [hst]
    exact le_ren id rfl rfl (by simp [TmpsLe,look,SV.ren,SC.ren,idσ,SV.okN,SC.okN,iI,swS]) (own_bk (show 1<8 by decide) rfl (by simp [SC.renL,SC.ren,iI]) (by simp [SC.okL,SC.okN,iI]) (own_av (show 2<8 by decide) rfl (Nat.le_refl _) (fun _ _=>rfl) (own_av (show 3<8 by decide) rfl (Nat.le_refl _) (fun _ _=>rfl) (own_av (show 4<8 by decide) rfl (Nat.le_refl _) (fun _ _=>rfl) (own_av (show 5<8 by decide) rfl (Nat.le_refl _) (fun _ _=>rfl) (own_bk (show 6<8 by decide) rfl (by simp [SC.renL,SC.ren,idσ]) (by simp [SC.okL,SC.okN,swS]) (own_av (show 7<8 by decide) rfl (Nat.le_refl _) (fun e he=>rfl) trivial))))))) ⟨⟨show 0<8 by decide,arrLe_of⟩,trivial⟩ rfl
   have d5:((i:Int) == 0)=true:=by simp [q2]
   rcases o5 (by omega) with rfl | hnt
   ·have d12:(s.dn != s.dn)=false:=by simp
    cases hbb:D.owned m.C amv <;> rw [hbb] at hO
    ·simp (maxSteps:=2000000) only [go_sem,↓reduceIte,Nat.reduceLT,Nat.reduceLeDiff,Nat.reduceAdd,Nat.reduceSub,Nat.reduceMul,Nat.reduceEqDiff,reduceCtorEq,Int.reduceToNat,Int.reduceEq,Int.reduceBEq,Int.reduceBNe,Int.reduceLT,Int.reduceLE,Int.reduceNeg,Int.reduceAdd,Int.reduceSub,Int.reduceMul,Int.reduceGE,Int.reduceGT,endO,iI,iU,ats_Lg,ats_I,d1,hA,d2,d3,d3',d3'',hw,d9,dw,d10,dz,d5,d12]
     refine ⟨hb,hlt,?_⟩
     refine guardVq (.c (.v (.bool false))) _ (fun E=>rfl) (fun E a w' hs=>hO w' _ _ _ _ (isSl_den _ _ _ _ _ _) (isSl_den _ _ _ _ _ _) (isSl_den _ _ _ _ _ _) (arr_own (d:=D.ca0) hs 2 _ _ _ rfl rfl (Nat.le_refl _) fun _ _=>rfl)) ?_
     simp (maxSteps:=2000000) only [go_sem,↓reduceIte,Nat.reduceLT,Nat.reduceLeDiff,Nat.reduceAdd,Nat.reduceSub,Nat.reduceMul,Nat.reduceEqDiff,reduceCtorEq,Int.reduceToNat,Int.reduceEq,Int.reduceBEq,Int.reduceBNe,Int.reduceLT,Int.reduceLE,Int.reduceNeg,Int.reduceAdd,Int.reduceSub,Int.reduceMul,Int.reduceGE,Int.reduceGT,endO,hw,d12]
     refine backI ⟨k+1,hlt⟩ (by simp only;omega) ?_
     rw [hst]
     exact le_ren id rfl rfl (by simp [TmpsLe,look,SV.ren,SC.ren,idσ,SV.okN,SC.okN,iI,swS]) (own_bk (show 1<8 by decide) rfl (by simp [SC.renL,SC.ren,iI]) (by simp [SC.okL,SC.okN,iI]) (own_av (show 2<8 by decide) rfl (Nat.le_refl _) (fun _ _=>rfl) (own_av (show 3<8 by decide) rfl (Nat.le_refl _) (fun _ _=>rfl) (own_av (show 4<8 by decide) rfl (Nat.le_refl _) (fun _ _=>rfl) (own_av (show 5<8 by decide) rfl (Nat.le_refl _) (fun _ _=>rfl) (own_bk (show 6<8 by decide) rfl (by simp [SC.renL,SC.ren,idσ]) (by simp [SC.okL,SC.okN,swS]) (own_av (show 7<8 by decide) rfl (Nat.le_refl _) (fun e he=>rfl) trivial))))))) ⟨⟨show 0<8 by decide,arrLe_of⟩,trivial⟩ rfl
    ·simp (maxSteps:=2000000) only [go_sem,↓reduceIte,Nat.reduceLT,Nat.reduceLeDiff,Nat.reduceAdd,Nat.reduceSub,Nat.reduceMul,Nat.reduceEqDiff,reduceCtorEq,Int.reduceToNat,Int.reduceEq,Int.reduceBEq,Int.reduceBNe,Int.reduceLT,Int.reduceLE,Int.reduceNeg,Int.reduceAdd,Int.reduceSub,Int.reduceMul,Int.reduceGE,Int.reduceGT,endO,iI,iU,ats_Lg,ats_I,d1,hA,d2,d3,d3',d3'',hw,d9,dw,d10,dz,d5,d12]
     refine ⟨hb,hlt,?_⟩
     refine guardVq (.c (.v (.bool true))) _ (fun E=>rfl) (fun E a w' hs=>hO w' _ _ _ _ (isSl_den _ _ _ _ _ _) (isSl_den _ _ _ _ _ _) (isSl_den _ _ _ _ _ _) (arr_own (d:=D.ca0) hs 2 _ _ _ rfl rfl (Nat.le_refl _) fun _ _=>rfl)) ?_
     simp (maxSteps:=2000000) only [go_sem,↓reduceIte,Nat.reduceLT,Nat.reduceLeDiff,Nat.reduceAdd,Nat.reduceSub,Nat.reduceMul,Nat.reduceEqDiff,reduceCtorEq,Int.reduceToNat,Int.reduceEq,Int.reduceBEq,Int.reduceBNe,Int.reduceLT,Int.reduceLE,Int.reduceNeg,Int.reduceAdd,Int.reduceSub,Int.reduceMul,Int.reduceGE,Int.reduceGT,endO,hw,d12]
     refine backI ⟨k+1,hlt⟩ (by simp only;omega) ?_
     rw [hst]
     exact le_ren id rfl rfl (by simp [TmpsLe,look,SV.ren,SC.ren,idσ,SV.okN,SC.okN,iI,swS]) (own_bk (show 1<8 by decide) rfl (by simp [SC.renL,SC.ren,iI]) (by simp [SC.okL,SC.okN,iI]) (own_av (show 2<8 by decide) rfl (Nat.le_refl _) (fun _ _=>rfl) (own_av (show 3<8 by decide) rfl (Nat.le_refl _) (fun _ _=>rfl) (own_av (show 4<8 by decide) rfl (Nat.le_refl _) (fun _ _=>rfl) (own_av (show 5<8 by decide) rfl (Nat.le_refl _) (fun _ _=>rfl) (own_bk (show 6<8 by decide) rfl (by simp [SC.renL,SC.ren,idσ]) (by simp [SC.okL,SC.okN,swS]) (own_av (show 7<8 by decide) rfl (Nat.le_refl _) (fun e he=>rfl) trivial))))))) ⟨⟨show 0<8 by decide,arrLe_of⟩,trivial⟩ rfl
   ·have hbb:=hN hnt
    rw [hbb] at hO
    simp (maxSteps:=2000000) only [go_sem,↓reduceIte,Nat.reduceLT,Nat.reduceLeDiff,Nat.reduceAdd,Nat.reduceSub,Nat.reduceMul,Nat.reduceEqDiff,reduceCtorEq,Int.reduceToNat,Int.reduceEq,Int.reduceBEq,Int.reduceBNe,Int.reduceLT,Int.reduceLE,Int.reduceNeg,Int.reduceAdd,Int.reduceSub,Int.reduceMul,Int.reduceGE,Int.reduceGT,endO,iI,iU,ats_Lg,ats_I,d1,hA,d2,d3,d3',d3'',hw,d9,dw,d10,dz,d5]
    refine ⟨hb,hlt,?_⟩
    refine guardVq (.c (.v (.bool false))) _ (fun E=>rfl) (fun E a w' hs=>hO w' _ _ _ _ (isSl_den _ _ _ _ _ _) (isSl_den _ _ _ _ _ _) (isSl_den _ _ _ _ _ _) (arr_own (d:=D.ca0) hs 2 _ _ _ rfl rfl (Nat.le_refl _) fun _ _=>rfl)) ?_
    simp (maxSteps:=2000000) only [go_sem,↓reduceIte,Nat.reduceLT,Nat.reduceLeDiff,Nat.reduceAdd,Nat.reduceSub,Nat.reduceMul,Nat.reduceEqDiff,reduceCtorEq,Int.reduceToNat,Int.reduceEq,Int.reduceBEq,Int.reduceBNe,Int.reduceLT,Int.reduceLE,Int.reduceNeg,Int.reduceAdd,Int.reduceSub,Int.reduceMul,Int.reduceGE,Int.reduceGT,endO,hw]
    refine backI ⟨k+1,hlt⟩ (by simp only;omega) ?_
    rw [hst]
    exact le_ren id rfl rfl (by simp [TmpsLe,look,SV.ren,SC.ren,idσ,SV.okN,SC.okN,iI,swS]) (own_bk (show 1<8 by decide) rfl (by simp [SC.renL,SC.ren,iI]) (by simp [SC.okL,SC.okN,iI]) (own_av (show 2<8 by decide) rfl (Nat.le_refl _) (fun _ _=>rfl) (own_av (show 3<8 by decide) rfl (Nat.le_refl _) (fun _ _=>rfl) (own_av (show 4<8 by decide) rfl (Nat.le_refl _) (fun _ _=>rfl) (own_av (show 5<8 by decide) rfl (Nat.le_refl _) (fun _ _=>rfl) (own_bk (show 6<8 by decide) rfl (by simp [SC.renL,SC.ren,idσ]) (by simp [SC.okL,SC.okN,swS]) (own_av (show 7<8 by decide) rfl (Nat.le_refl _) (fun e he=>rfl) trivial))))))) ⟨⟨show 0<8 by decide,arrLe_of⟩,trivial⟩ rfl
  ·replace hst:D.scan th (m.L.take (k+1))=s:=hst.trans (by unfold D.sc1;rw [if_neg (by simp),if_neg (by simp),if_neg (by exact q5)])
   have d10:(asaw == aold)=false:=by simp [q5]
   have d11:decide (s.last<s.ld.getD i 0)=false:=decide_eq_false (by have:=o4 q5;rw [Int.toNat_natCast] at this;omega)
   by_cases q2:i=0
   rotate_left
   ·generalize D.owned m.C amv=bb at hO
    have d5:((i:Int) == 0)=false:=by simp [q2]
    simp (maxSteps:=2000000) only [go_sem,↓reduceIte,Nat.reduceLT,Nat.reduceLeDiff,Nat.reduceAdd,Nat.reduceSub,Nat.reduceMul,Nat.reduceEqDiff,reduceCtorEq,Int.reduceToNat,Int.reduceEq,Int.reduceBEq,Int.reduceBNe,Int.reduceLT,Int.reduceLE,Int.reduceNeg,Int.reduceAdd,Int.reduceSub,Int.reduceMul,Int.reduceGE,Int.reduceGT,endO,iI,iU,ats_Lg,ats_I,d1,hA,d2,d3,d3',d3'',hw,d9,dw,d10,d11,dz,d5]
    refine ⟨hb,hlt,⟨hi,Nat.le_refl _⟩,hi,?_⟩
    refine guardVq (.c (.v (.bool bb))) _ (fun E=>rfl) (fun E a w' hs=>hO w' _ _ _ _ (isSl_den _ _ _ _ _ _) (isSl_den _ _ _ _ _ _) (isSl_den _ _ _ _ _ _) (arr_own (d:=D.ca0) hs 2 _ _ _ rfl rfl (Nat.le_refl _) fun _ _=>rfl)) ?_
    simp (maxSteps:=2000000) only [go_sem,↓reduceIte,Nat.reduceLT,Nat.reduceLeDiff,Nat.reduceAdd,Nat.reduceSub,Nat.reduceMul,Nat.reduceEqDiff,reduceCtorEq,Int.reduceToNat,Int.reduceEq,Int.reduceBEq,Int.reduceBNe,Int.reduceLT,Int.reduceLE,Int.reduceNeg,Int.reduceAdd,Int.reduceSub,Int.reduceMul,Int.reduceGE,Int.reduceGT,endO,hw]
    refine backI ⟨k+1,hlt⟩ (by simp only;omega) ?_
    rw [hst]
    exact le_ren id rfl rfl (by simp [TmpsLe,look,SV.ren,SC.ren,idσ,SV.okN,SC.okN,iI,swS]) (own_bk (show 1<8 by decide) rfl (by simp [SC.renL,SC.ren,iI]) (by simp [SC.okL,SC.okN,iI]) (own_av (show 2<8 by decide) rfl (Nat.le_refl _) (fun _ _=>rfl) (own_av (show 3<8 by decide) rfl (Nat.le_refl _) (fun _ _=>rfl) (own_av (show 4<8 by decide) rfl (Nat.le_refl _) (fun _ _=>rfl) (own_av (show 5<8 by decide) rfl (Nat.le_refl _) (fun _ _=>rfl) (own_bk (show 6<8 by decide) rfl (by simp [SC.renL,SC.ren,idσ]) (by simp [SC.okL,SC.okN,swS]) (own_av (show 7<8 by decide) rfl (Nat.le_refl _) (fun e he=>rfl) trivial))))))) ⟨⟨show 0<8 by decide,arrLe_of⟩,trivial⟩ rfl
   have d5:((i:Int) == 0)=true:=by simp [q2]
   rcases o5 (by omega) with rfl | hnt
   ·have d12:(s.dn != s.dn)=false:=by simp
    cases hbb:D.owned m.C amv <;> rw [hbb] at hO
    ·simp (maxSteps:=2000000) only [go_sem,↓reduceIte,Nat.reduceLT,Nat.reduceLeDiff,Nat.reduceAdd,Nat.reduceSub,Nat.reduceMul,Nat.reduceEqDiff,reduceCtorEq,Int.reduceToNat,Int.reduceEq,Int.reduceBEq,Int.reduceBNe,Int.reduceLT,Int.reduceLE,Int.reduceNeg,Int.reduceAdd,Int.reduceSub,Int.reduceMul,Int.reduceGE,Int.reduceGT,endO,iI,iU,ats_Lg,ats_I,d1,hA,d2,d3,d3',d3'',hw,d9,dw,d10,d11,dz,d5,d12]
     refine ⟨hb,hlt,⟨hi,Nat.le_refl _⟩,hi,?_⟩
     refine guardVq (.c (.v (.bool false))) _ (fun E=>rfl) (fun E a w' hs=>hO w' _ _ _ _ (isSl_den _ _ _ _ _ _) (isSl_den _ _ _ _ _ _) (isSl_den _ _ _ _ _ _) (arr_own (d:=D.ca0) hs 2 _ _ _ rfl rfl (Nat.le_refl _) fun _ _=>rfl)) ?_
     simp (maxSteps:=2000000) only [go_sem,↓reduceIte,Nat.reduceLT,Nat.reduceLeDiff,Nat.reduceAdd,Nat.reduceSub,Nat.reduceMul,Nat.reduceEqDiff,reduceCtorEq,Int.reduceToNat,Int.reduceEq,Int.reduceBEq,Int.reduceBNe,Int.reduceLT,Int.reduceLE,Int.reduceNeg,Int.reduceAdd,Int.reduceSub,Int.reduceMul,Int.reduceGE,Int.reduceGT,endO,hw,d12]
     refine backI ⟨k+1,hlt⟩ (by simp only;omega) ?_
     rw [hst]
     exact le_ren id rfl rfl (by simp [TmpsLe,look,SV.ren,SC.ren,idσ,SV.okN,SC.okN,iI,swS]) (own_bk (show 1<8 by decide) rfl (by simp [SC.renL,SC.ren,iI]) (by simp [SC.okL,SC.okN,iI]) (own_av (show 2<8 by decide) rfl (Nat.le_refl _) (fun _ _=>rfl) (own_av (show 3<8 by decide) rfl (Nat.le_refl _) (fun _ _=>rfl) (own_av (show 4<8 by decide) rfl (Nat.le_refl _) (fun _ _=>rfl) (own_av (show 5<8 by decide) rfl (Nat.le_refl _) (fun _ _=>rfl) (own_bk (show 6<8 by decide) rfl (by simp [SC.renL,SC.ren,idσ]) (by simp [SC.okL,SC.okN,swS]) (own_av (show 7<8 by decide) rfl (Nat.le_refl _) (fun e he=>rfl) trivial))))))) ⟨⟨show 0<8 by decide,arrLe_of⟩,trivial⟩ rfl
    ·simp (maxSteps:=2000000) only [go_sem,↓reduceIte,Nat.reduceLT,Nat.reduceLeDiff,Nat.reduceAdd,Nat.reduceSub,Nat.reduceMul,Nat.reduceEqDiff,reduceCtorEq,Int.reduceToNat,Int.reduceEq,Int.reduceBEq,Int.reduceBNe,Int.reduceLT,Int.reduceLE,Int.reduceNeg,Int.reduceAdd,Int.reduceSub,Int.reduceMul,Int.reduceGE,Int.reduceGT,endO,iI,iU,ats_Lg,ats_I,d1,hA,d2,d3,d3',d3'',hw,d9,dw,d10,d11,dz,d5,d12]
     refine ⟨hb,hlt,⟨hi,Nat.le_refl _⟩,hi,?_⟩
     refine guardVq (.c (.v (.bool true))) _ (fun E=>rfl) (fun E a w' hs=>hO w' _ _ _ _ (isSl_den _ _ _ _ _ _) (isSl_den _ _ _ _ _ _) (isSl_den _ _ _ _ _ _) (arr_own (d:=D.ca0) hs 2 _ _ _ rfl rfl (Nat.le_refl _) fun _ _=>rfl)) ?_
     simp (maxSteps:=2000000) only [go_sem,↓reduceIte,Nat.reduceLT,Nat.reduceLeDiff,Nat.reduceAdd,Nat.reduceSub,Nat.reduceMul,Nat.reduceEqDiff,reduceCtorEq,Int.reduceToNat,Int.reduceEq,Int.reduceBEq,Int.reduceBNe,Int.reduceLT,Int.reduceLE,Int.reduceNeg,Int.reduceAdd,Int.reduceSub,Int.reduceMul,Int.reduceGE,Int.reduceGT,endO,hw,d12]
     refine backI ⟨k+1,hlt⟩ (by simp only;omega) ?_
     rw [hst]
     exact le_ren id rfl rfl (by simp [TmpsLe,look,SV.ren,SC.ren,idσ,SV.okN,SC.okN,iI,swS]) (own_bk (show 1<8 by decide) rfl (by simp [SC.renL,SC.ren,iI]) (by simp [SC.okL,SC.okN,iI]) (own_av (show 2<8 by decide) rfl (Nat.le_refl _) (fun _ _=>rfl) (own_av (show 3<8 by decide) rfl (Nat.le_refl _) (fun _ _=>rfl) (own_av (show 4<8 by decide) rfl (Nat.le_refl _) (fun _ _=>rfl) (own_av (show 5<8 by decide) rfl (Nat.le_refl _) (fun _ _=>rfl) (own_bk (show 6<8 by decide) rfl (by simp [SC.renL,SC.ren,idσ]) (by simp [SC.okL,SC.okN,swS]) (own_av (show 7<8 by decide) rfl (Nat.le_refl _) (fun e he=>rfl) trivial))))))) ⟨⟨show 0<8 by decide,arrLe_of⟩,trivial⟩ rfl
   ·have hbb:=hN hnt
    rw [hbb] at hO
    simp (maxSteps:=2000000) only [go_sem,↓reduceIte,Nat.reduceLT,Nat.reduceLeDiff,Nat.reduceAdd,Nat.reduceSub,Nat.reduceMul,Nat.reduceEqDiff,reduceCtorEq,Int.reduceToNat,Int.reduceEq,Int.reduceBEq,Int.reduceBNe,Int.reduceLT,Int.reduceLE,Int.reduceNeg,Int.reduceAdd,Int.reduceSub,Int.reduceMul,Int.reduceGE,Int.reduceGT,endO,iI,iU,ats_Lg,ats_I,d1,hA,d2,d3,d3',d3'',hw,d9,dw,d10,d11,dz,d5]
    refine ⟨hb,hlt,⟨hi,Nat.le_refl _⟩,hi,?_⟩
    refine guardVq (.c (.v (.bool false))) _ (fun E=>rfl) (fun E a w' hs=>hO w' _ _ _ _ (isSl_den _ _ _ _ _ _) (isSl_den _ _ _ _ _ _) (isSl_den _ _ _ _ _ _) (arr_own (d:=D.ca0) hs 2 _ _ _ rfl rfl (Nat.le_refl _) fun _ _=>rfl)) ?_
    simp (maxSteps:=2000000) only [go_sem,↓reduceIte,Nat.reduceLT,Nat.reduceLeDiff,Nat.reduceAdd,Nat.reduceSub,Nat.reduceMul,Nat.reduceEqDiff,reduceCtorEq,Int.reduceToNat,Int.reduceEq,Int.reduceBEq,Int.reduceBNe,Int.reduceLT,Int.reduceLE,Int.reduceNeg,Int.reduceAdd,Int.reduceSub,Int.reduceMul,Int.reduceGE,Int.reduceGT,endO,hw]
    refine backI ⟨k+1,hlt⟩ (by simp only;omega) ?_
    rw [hst]
    exact le_ren id rfl rfl (by simp [TmpsLe,look,SV.ren,SC.ren,idσ,SV.okN,SC.okN,iI,swS]) (own_bk (show 1<8 by decide) rfl (by simp [SC.renL,SC.ren,iI]) (by simp [SC.okL,SC.okN,iI]) (own_av (show 2<8 by decide) rfl (Nat.le_refl _) (fun _ _=>rfl) (own_av (show 3<8 by decide) rfl (Nat.le_refl _) (fun _ _=>rfl) (own_av (show 4<8 by decide) rfl (Nat.le_refl _) (fun _ _=>rfl) (own_av (show 5<8 by decide) rfl (Nat.le_refl _) (fun _ _=>rfl) (own_bk (show 6<8 by decide) rfl (by simp [SC.renL,SC.ren,idσ]) (by simp [SC.okL,SC.okN,swS]) (own_av (show 7<8 by decide) rfl (Nat.le_refl _) (fun e he=>rfl) trivial))))))) ⟨⟨show 0<8 by decide,arrLe_of⟩,trivial⟩ rfl
theorem swaps_walk (w:World) (v:Value) (t r:Int) (l:List D.Mo) (ha:∀ y∈l,D.i64 y.arg=y.arg) (h:Arr w D.Mo.enc 4 v l) :
  Calls Try.prog 4 #[.agg #[.int .i64 t,.int .i64 r],v] w (RetV w (.bool true)):=by
 by_cases hl:l.length≤65536
 ·cases hm:mayD t r with
  | false=>exact swaps_no w v t r l (by rw [hm];rfl) h
  | true =>
   have hmm:1≤t∧t≤16∧1≤r∧r≤256:=of_decide_eq_true hm
   obtain ⟨th,rfl⟩:∃ th:Nat,t=th:=⟨t.toNat,by omega⟩
   exact swaps_yes w v th r l hm hl ha h
 ·exact swaps_no w v t r l (by rw [decide_eq_false hl,Bool.and_false]) h
end Go.Proofs.Ytcloeignccpljaa.Z
namespace Go.Proofs.Ytcloeignccpljaa.Z
open Go Go.RowKit Go.ChangeShapes Go.WideShapes Go.ChangeAt
theorem own:ownKnob Try.prog.godebug=none:=by kernel_rfl
theorem laidOut:laidOutB Try.prog=true:=by kernel_rfl
theorem leavesDq:leavesIn Try.prog 9 23=some [3,3]:=by kernel_rfl
theorem cellsDq:Try.prog.cellsOf 23=2:=by kernel_rfl
theorem leavesMo:leavesIn Try.prog 9 51=some [3,49,3,3]:=by kernel_rfl
theorem leavesMos:leavesIn Try.prog 9 34=some [34]:=by kernel_rfl
theorem cellsMo:Try.prog.cellsOf 51=4:=by kernel_rfl
theorem bytesMo:Try.prog.bytesOf 51=32:=by kernel_rfl
theorem lit_rng {n:Int} (h:(Lit.int .i64 n).wf=true) : -9223372036854775808≤n∧n≤9223372036854775807:=by
 simp [Lit.wf,IntKind.min,IntKind.max,IntKind.signed,IntKind.bits] at h
 omega
section
variable {H:Type} {enc:TypeId×Value→H} {w:World}
set_option maxRecDepth 100000 in
theorem open_dq {base:Nat} {v:Value} {d:DataW H} {p:List MemPlace} (hv:Value.okWide Try.prog w .any base 23 v) (h:DataW.Trod enc Try.prog w 0 (fun _=>true) true 23 v d p) :
  ∃ a b,v = .agg #[.int .i64 a,.int .i64 b]:=by
 obtain ⟨cs,rfl,hsz⟩:=okWide_struct Try.underlying23 hv
 obtain ⟨l⟩:=cs
 obtain ⟨fuel,hf⟩:=h
 match l,hsz.trans cellsDq with
 | [c0,c1],_ =>
  have L:=leaf_of 9 _ _ leavesDq fuel _ _ hf
  obtain ⟨t,rfl,_⟩:=(L 0 3 c0 rfl rfl).int Try.underlying3
  obtain ⟨o,rfl,_⟩:=(L 1 3 c1 rfl rfl).int Try.underlying3
  exact ⟨t,o,rfl⟩
theorem leaf_mos {b:Nat} {ws:List Nat} {c:Value} (h:LeafAt enc Try.prog w 0 (fun _=>true) true b ws 34 c) :
  ∃ xs:List D.Mo,Arr w D.Mo.enc 4 c xs∧(∀ c∈xs,D.i64 c.arg=c.arg)∧xs.length+1≤b∧(xs=[]∨∃ k∈ws,xs.length * 32≤k):=by
 obtain ⟨xs,h1,h4,h2,h3⟩:=h.slice (α:=D.Mo) Try.underlying34 (by decide) cellsMo D.Mo.enc (fun c=>D.i64 c.arg=c.arg) (fun m cs y hl ht=>by
  match cs,hl with
  | [c0,c1,c2,c3],_ =>
   have L:=leaf_of 9 _ _ leavesMo m _ _ ht
   obtain ⟨x0,rfl,_⟩:=(L 0 _ c0 rfl rfl).int Try.underlying3
   obtain ⟨x1,rfl,_⟩:=(L 1 _ c1 rfl rfl).int Try.underlying49
   obtain ⟨x2,rfl,r2⟩:=(L 2 _ c2 rfl rfl).int Try.underlying3
   obtain ⟨x3,rfl,_⟩:=(L 3 _ c3 rfl rfl).int Try.underlying3
   exact ⟨⟨x0,x1,x2,x3⟩,rfl,D.i64_id (lit_rng r2).1 (Int.lt_of_le_of_lt (lit_rng r2).2 (by decide))⟩)
 rw [bytesMo] at h3
 exact ⟨xs,h1,h4,h2,h3⟩
set_option maxRecDepth 100000 in
theorem open_mos {base:Nat} {v:Value} {d:DataW H} {p:List MemPlace} (hv:Value.okWide Try.prog w .any base 34 v) (h:DataW.Trod enc Try.prog w 0 (fun _=>true) true 34 v d p) :
  ∃ xs:List D.Mo,Arr w D.Mo.enc 4 v xs∧(∀ c∈xs,D.i64 c.arg=c.arg):=by
 obtain ⟨ba,len,cap,rfl⟩:=okWide_slice Try.underlying34 hv
 obtain ⟨fuel,hf⟩:=h
 obtain ⟨xs,h1,h4,_,_⟩:=leaf_mos (leaf_of 9 _ _ leavesMos fuel _ _ hf 0 34 _ rfl rfl)
 exact ⟨xs,h1,h4⟩
end
end Go.Proofs.Ytcloeignccpljaa.Z
