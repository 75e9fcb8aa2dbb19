/- TsoStepsSaid: what its proof is made of. No condition. -/
import Derived.Test.YtmcpdafmkkjlcaaPkTTsoStepsAN
set_option linter.unusedSimpArgs false
set_option linter.unusedVariables false
namespace Go.Proofs.Ytmcpdafmkkjlcaa.Z
open Go Go.RowKit
theorem st_own {C:Ctx} {E:Env} {S:St} {a:Act} {w:World} (hs:Sat C.B C.W C.w0 E S a w) {s:LS} (b:Nat) (h6:look S.own b=some (.one (.ar s.words.length 1 (ats eI s.words 0) 3))) (h7:look S.own (b+1)=some (.one (.ar s.regs.length 4 (ats R4.enc s.regs r40) 68))) (h8:look S.own (b+2)=some (.one (.ar s.places.length 1 (ats eI s.places 0) 3)))
  (h9:look S.own (b+3)=some (.one (.ar s.bufs.length 1 (bfC (b+4) s) 86))) (h10:look S.own (b+4)=some (.fam s.bufs.length (bfO s))):StR w ((SV.agg (stC b s)).den E) s :=
 ⟨_,_,_,_,by simp [stC,SV.den],own_at (d:=0) hs b _ h6 rfl,own_at (d:=r40) hs (b+1) _ h7 rfl,own_at (d:=0) hs (b+2) _ h8 rfl,nest_own (d:=pd0) hs (b+3,0,0) (b+4) _ rfl (bfC (b+4) s) (by simp [atN,h9,Fm.get];rfl) (fun _ _=>rfl) (fun k hk=>by simp [atN,h10,Fm.get,hk,bfO];rfl)⟩
theorem st_nil (w:World):StR w (.agg #[.slice none 0 0,.slice none 0 0,.slice none 0 0,.slice none 0 0]) ⟨[],[],[],[]⟩ :=
 ⟨_,_,_,_,rfl,Arr.nil _ _ _,Arr.nil _ _ _,Arr.nil _ _ _,[],Arr.nil _ _ _,rfl,fun k hk=>by simp at hk⟩
end Go.Proofs.Ytmcpdafmkkjlcaa.Z
namespace Go.Proofs.Ytmcpdafmkkjlcaa.Z
open Go Go.RowKit
theorem enterLtSt {P:Program} {A:List Nat} {f nt:Nat} {fn:Func} {x:Code} {c:IR} {w:World} {rs:List RS} {R:Ending→World→Prop} {v v' : Value} {L:Lt} {s:LS} (h:LtR w v L) (h' : StR w v' s) (sc:List SV) (args:Array Value)
  (hf:P.funcs[f]? = some fn) (hb:fn.body=some x) (hc:compC (mkTab P A) x=some c.strip) (hrs:compR (mkTab P A).T fn.results.toList=some rs) (hn:fn.ntmps=nt)
  (hargs:∀ E',(SV.agg (ltS 0)).den E' = v→(SV.agg (stS 3)).den E' = v'→(sc.map (SV.den E')).toArray=args) (hnt:sc.length≤nt)
  (hex:exec (mkC P A w rs R) 1000 [.code c] ⟨nt,enumT 0 sc,[],ltA 0 L++stA 3 s,[],8⟩):Calls P f args w R:=by
 obtain ⟨vw,vt,rfl,h1,us,h4,h5,h6⟩:=h
 obtain ⟨vw',vr',vp',vb',rfl,h1',h2',h3',us',h4',h5',h6'⟩:=h'
 refine enterL [fun _=>vw,fun _=>vt,fun k=>us.getD k nest0,fun _=>vw',fun _=>vr',fun _=>vp',fun _=>vb',fun k=>us'.getD k nest0] ⟨fun _=>arr_one h1,fun _=>arr_one h4,nest_one h5 h6,fun _=>arr_one h1',fun _=>arr_one h2',fun _=>arr_one h3',fun _=>arr_one h4',nest_one h5' h6',trivial⟩
  (rd_one 0 0 eI_ok h1 (by simp) rfl (rd_nest 1 2 in0 in_ok h4 h5 h6 (by simp) (by simp) rfl (fun _=>rfl) (rd_one 3 0 eI_ok h1' (by simp) rfl (rd_one 4 r40 r4_ok h2' (by simp) rfl (rd_one 5 0 eI_ok h3' (by simp) rfl (rd_nest 6 7 pd0 pd_ok h4' h5' h6' (by simp) (by simp) rfl (fun _=>rfl) rd_nil))))))
  sc args hf hb hc hrs hn (fun E' hE'=>hargs E' ?_ ?_) hnt hex
 ·have e:=fun i hi=>hE' i 0 0 hi
  simp only [SV.den,ltS,List.map_cons,List.map_nil,SC.den,Nat.reduceAdd,e 0 (by simp),e 1 (by simp)]
  rfl
 ·have e:=fun i hi=>hE' i 0 0 hi
  simp only [SV.den,stS,List.map_cons,List.map_nil,SC.den,Nat.reduceAdd,e 3 (by simp),e 4 (by simp),e 5 (by simp),e 6 (by simp)]
  rfl
theorem belongs_iff {L:Lt} {o:Int} {s:LS}:belongsB L o s=true↔(s.words.length=L.words.length∧s.regs.length=L.thr.length∧s.places.length=L.thr.length∧s.bufs.length=L.thr.length)∧∀ t,t<L.thr.length→(0≤s.places.getD t 0∧s.places.getD t 0≤(L.thr.getD t []).length∧(s.bufs.getD t []).length≤10∧(o=1→(s.bufs.getD t []).length=0))∧∀ i,i<(s.bufs.getD t []).length→0≤((s.bufs.getD t []).getD i pd0).addr∧((s.bufs.getD t []).getD i pd0).addr<L.words.length:=by
 simp only [belongsB,Bool.and_eq_true,decide_eq_true_eq,List.all_eq_true,List.mem_range,thrB,pendB]
 refine and_congr Iff.rfl ⟨fun h t ht=>?_,fun h t ht=>?_⟩
 ·obtain ⟨h1,h2⟩:=h t ht
  exact ⟨h1,fun i hi=>h2 _ (getD_memE hi)⟩
 ·obtain ⟨h1,h2⟩:=h t ht
  refine ⟨h1,fun p hp=>?_⟩
  obtain ⟨i,hi,rfl⟩:=List.getElem_of_mem hp
  have:=h2 i hi
  rwa [List.getD_eq_getElem?_getD,List.getElem?_eq_getElem hi,Option.getD_some] at this
theorem bel_no {L:Lt} {o:Int} {s:LS} {t:Nat} (ht:t<L.thr.length) (h:¬ ((0≤s.places.getD t 0∧s.places.getD t 0≤(L.thr.getD t []).length∧(s.bufs.getD t []).length≤10∧(o=1→(s.bufs.getD t []).length=0))∧∀ i,i<(s.bufs.getD t []).length→0≤((s.bufs.getD t []).getD i pd0).addr∧((s.bufs.getD t []).getD i pd0).addr<L.words.length)):belongsB L o s=false:=by
 cases e:belongsB L o s
 ·rfl
 ·exact absurd ((belongs_iff.1 e).2 t ht) h
def BelT (L:Lt) (o:Int) (s:LS) (t:Nat):Prop:=(0≤s.places.getD t 0∧s.places.getD t 0≤(L.thr.getD t []).length∧(s.bufs.getD t []).length≤10∧(o=1→(s.bufs.getD t []).length=0))∧∀ i,i<(s.bufs.getD t []).length→0≤((s.bufs.getD t []).getD i pd0).addr∧((s.bufs.getD t []).getD i pd0).addr<L.words.length
def ir45:IR:=(.seq (.ops [⟨(some 3),(.box 25 (.t 0)),none⟩,⟨(some 5),(.box 32 (.t 2)),none⟩,⟨(some 6),(.mv (.k (.c (.v (.bool false))))),none⟩]) (.kill [0,2,4,6,7,8,9,10,11] (.seq (.ops [⟨(some 12),(.fa 1 (.t 3)),none⟩,⟨(some 13),(.ld false 1 (.t 12)),none⟩,⟨(some 14),(.len (.t 13)),none⟩,⟨(some 7),(.mv (.t 14)),none⟩]) (.kill [12,13,14] (.seq (.seq (.ops [⟨(some 15),(.fa 0 (.t 5)),none⟩,⟨(some 16),(.ld false 1 (.t 15)),none⟩,⟨(some 17),(.len (.t 16)),none⟩,⟨(some 18),(.fa 0 (.t 3)),none⟩,⟨(some 19),(.ld false 1 (.t 18)),none⟩,⟨(some 20),(.len (.t 19)),none⟩,⟨(some 21),(.bin .neq (.t 17) (.t 20)),none⟩,⟨(some 22),(.mv (.t 21)),none⟩,⟨(some 23),(.fa 1 (.t 5)),(some (22,false))⟩,⟨(some 24),(.ld false 1 (.t 23)),(some (22,false))⟩,⟨(some 25),(.len (.t 24)),(some (22,false))⟩,⟨(some 26),(.mv (.t 7)),(some (22,false))⟩,⟨(some 27),(.bin .neq (.t 25) (.t 26)),(some (22,false))⟩,⟨(some 28),(.pick (.t 22) (.k (.c (.v (.bool true)))) (.t 27)),none⟩,⟨(some 29),(.mv (.t 28)),none⟩,⟨(some 30),(.fa 2 (.t 5)),(some (29,false))⟩,⟨(some 31),(.ld false 1 (.t 30)),(some (29,false))⟩,⟨(some 32),(.len (.t 31)),(some (29,false))⟩,⟨(some 33),(.mv (.t 7)),(some (29,false))⟩,⟨(some 34),(.bin .neq (.t 32) (.t 33)),(some (29,false))⟩,⟨(some 35),(.pick (.t 29) (.k (.c (.v (.bool true)))) (.t 34)),none⟩,⟨(some 36),(.mv (.t 35)),none⟩,⟨(some 37),(.fa 3 (.t 5)),(some (36,false))⟩,⟨(some 38),(.ld false 1 (.t 37)),(some (36,false))⟩,⟨(some 39),(.len (.t 38)),(some (36,false))⟩,⟨(some 40),(.mv (.t 7)),(some (36,false))⟩,⟨(some 41),(.bin .neq (.t 39) (.t 40)),(some (36,false))⟩,⟨(some 42),(.pick (.t 36) (.k (.c (.v (.bool true)))) (.t 41)),none⟩]) (.kill [7,15,16,17,18,19,20,21,22,23,24,25,26,27,28,29,30,31,32,33,34,35,36,37,38,39,40,41] (.cond (.t 42) (.seq (.ops [⟨(some 6),(.mv (.k (.c (.v (.bool false))))),none⟩]) (.kill [1,3,5,42] .ret)) .skip))) (.kill [6,42] (.seq (.seq (.ops [⟨(some 43),(.fa 1 (.t 3)),none⟩,⟨(some 44),(.ld false 1 (.t 43)),none⟩,⟨(some 45),(.len (.t 44)),none⟩,⟨(some 46),(.mv (.k (.c (.v (.int .i64 0))))),none⟩]) (.kill [43] (.blk 0 (.loop (.seq (.ops [⟨(some 47),(.bin .lss (.t 46) (.t 45)),none⟩]) (.kill [6,8,9,11,48,49,50,51,52,53,54,55,56,57,58,59,60,61,62,63,64,65,66,67,68,69,70,71,72,73,74,75,76,77,78,79,80,81,82,83,84,85,86,87,88,89,90,91,92,93,94,95,96,97,98,99,100,101] (.seq (.cond (.t 47) .skip (.exit 0)) (.kill [47] (.seq (.blk 1 (.seq (.ops [⟨(some 48),(.mv (.t 46)),none⟩,⟨(some 49),(.ia 1 (.t 44) (.t 46)),none⟩,⟨(some 50),(.ld false 1 (.t 49)),none⟩,⟨(some 8),(.mv (.t 48)),none⟩,⟨(some 9),(.mv (.t 50)),none⟩]) (.kill [48,49,50] (.seq (.seq (.ops [⟨(some 51),(.fa 2 (.t 5)),none⟩,⟨(some 52),(.ld false 1 (.t 51)),none⟩,⟨(some 53),(.mv (.t 8)),none⟩,⟨(some 54),(.ia 1 (.t 52) (.t 53)),none⟩,⟨(some 55),(.ld false 1 (.t 54)),none⟩,⟨(some 56),(.mv (.t 9)),none⟩,⟨(some 57),(.len (.t 56)),none⟩,⟨(some 58),(.bin .add (.t 57) (.k (.c (.v (.int .i64 1))))),none⟩,⟨(some 59),(.call 72 [(.t 55),(.t 58)]),none⟩,⟨(some 60),(.un .not (.t 59)),none⟩,⟨(some 61),(.mv (.t 60)),none⟩,⟨(some 62),(.fa 3 (.t 5)),(some (61,false))⟩,⟨(some 63),(.ld false 1 (.t 62)),(some (61,false))⟩,⟨(some 64),(.mv (.t 8)),(some (61,false))⟩,⟨(some 65),(.ia 1 (.t 63) (.t 64)),(some (61,false))⟩,⟨(some 66),(.ld false 1 (.t 65)),(some (61,false))⟩,⟨(some 67),(.len (.t 66)),(some (61,false))⟩,⟨(some 68),(.bin .gtr (.t 67) (.k (.c (.v (.int .i64 10))))),(some (61,false))⟩,⟨(some 69),(.pick (.t 61) (.k (.c (.v (.bool true)))) (.t 68)),none⟩,⟨(some 70),(.mv (.t 69)),none⟩,⟨(some 71),(.mv (.t 1)),(some (70,false))⟩,⟨(some 72),(.bin .eql (.t 71) (.k (.c (.v (.int .i64 1))))),(some (70,false))⟩,⟨(some 73),(.mv (.t 72)),(some (70,false))⟩,⟨(some 74),(.fa 3 (.t 5)),(some (73,true))⟩,⟨(some 75),(.ld false 1 (.t 74)),(some (73,true))⟩,⟨(some 76),(.mv (.t 8)),(some (73,true))⟩,⟨(some 77),(.ia 1 (.t 75) (.t 76)),(some (73,true))⟩,⟨(some 78),(.ld false 1 (.t 77)),(some (73,true))⟩,⟨(some 79),(.len (.t 78)),(some (73,true))⟩,⟨(some 80),(.bin .gtr (.t 79) (.k (.c (.v (.int .i64 0))))),(some (73,true))⟩,⟨(some 81),(.pick (.t 73) (.t 80) (.k (.c (.v (.bool false))))),(some (70,false))⟩,⟨(some 82),(.pick (.t 70) (.k (.c (.v (.bool true)))) (.t 81)),none⟩]) (.kill [9,51,52,53,54,55,56,57,58,59,60,61,62,63,64,65,66,67,68,69,70,71,72,73,74,75,76,77,78,79,80,81] (.cond (.t 82) (.seq (.ops [⟨(some 6),(.mv (.k (.c (.v (.bool false))))),none⟩]) (.kill [1,3,5,8,44,45,46,82] .ret)) .skip))) (.kill [6,82] (.seq (.ops [⟨(some 83),(.fa 3 (.t 5)),none⟩,⟨(some 84),(.ld false 1 (.t 83)),none⟩,⟨(some 85),(.mv (.t 8)),none⟩,⟨(some 86),(.ia 1 (.t 84) (.t 85)),none⟩,⟨(some 87),(.ld false 1 (.t 86)),none⟩,⟨(some 88),(.len (.t 87)),none⟩,⟨(some 89),(.mv (.k (.c (.v (.int .i64 0))))),none⟩]) (.kill [8,83,84,85,86] (.blk 2 (.loop (.seq (.ops [⟨(some 90),(.bin .lss (.t 89) (.t 88)),none⟩]) (.kill [6,11,91,92,93,94,95,96,97,98,99,100] (.seq (.cond (.t 90) .skip (.exit 2)) (.kill [90] (.seq (.blk 3 (.seq (.ops [⟨(some 91),(.ia 2 (.t 87) (.t 89)),none⟩,⟨(some 92),(.ld true 2 (.t 91)),none⟩,⟨(some 11),(.new 88 [(.v (.int .i64 0)),(.v (.int .i64 0))]),none⟩,⟨none,(.st 2 (.t 11) (.t 92)),none⟩]) (.kill [91,92] (.seq (.ops [⟨(some 93),(.fa 0 (.t 11)),none⟩,⟨(some 94),(.ld false 1 (.t 93)),none⟩,⟨(some 95),(.fa 0 (.t 3)),none⟩,⟨(some 96),(.ld false 1 (.t 95)),none⟩,⟨(some 97),(.len (.t 96)),none⟩,⟨(some 98),(.call 72 [(.t 94),(.t 97)]),none⟩,⟨(some 99),(.un .not (.t 98)),none⟩]) (.kill [11,93,94,95,96,97,98] (.cond (.t 99) (.seq (.ops [⟨(some 6),(.mv (.k (.c (.v (.bool false))))),none⟩]) (.kill [1,3,5,44,45,46,87,88,89,99] .ret)) .skip)))))) (.kill [6,11,91,92,93,94,95,96,97,98,99] (.ops [⟨(some 100),(.bin .add (.t 89) (.k (.c (.v (.int .i64 1))))),none⟩,⟨(some 89),(.mv (.t 100)),none⟩])))))))))))))))) (.kill [6,8,9,11,48,49,50,51,52,53,54,55,56,57,58,59,60,61,62,63,64,65,66,67,68,69,70,71,72,73,74,75,76,77,78,79,80,81,82,83,84,85,86,87,88,89,90,91,92,93,94,95,96,97,98,99,100] (.ops [⟨(some 101),(.bin .add (.t 46) (.k (.c (.v (.int .i64 1))))),none⟩,⟨(some 46),(.mv (.t 101)),none⟩]))))))))))) (.kill [1,3,5,6,8,9,11,44,45,46,47,48,49,50,51,52,53,54,55,56,57,58,59,60,61,62,63,64,65,66,67,68,69,70,71,72,73,74,75,76,77,78,79,80,81,82,83,84,85,86,87,88,89,90,91,92,93,94,95,96,97,98,99,100,101] (.seq (.ops [⟨(some 6),(.mv (.k (.c (.v (.bool true))))),none⟩]) .ret)))))))))
def rs45:List RS:=[(.t 6)]
def nt45:Nat:=102
def ir24:IR:=(.seq (.ops [⟨(some 3),(.box 25 (.t 0)),none⟩,⟨(some 5),(.box 32 (.t 2)),none⟩,⟨(some 6),(.mv (.k (.c (.v (.bool false))))),none⟩]) (.kill [0,2,4,6,7,8,9,10,11] (.seq (.ops [⟨(some 10),(.fa 1 (.t 3)),none⟩,⟨(some 11),(.ld false 1 (.t 10)),none⟩,⟨(some 12),(.len (.t 11)),none⟩,⟨(some 7),(.mv (.t 12)),none⟩]) (.kill [10,11,12] (.seq (.seq (.ops [⟨(some 13),(.fa 0 (.t 5)),none⟩,⟨(some 14),(.ld false 1 (.t 13)),none⟩,⟨(some 15),(.len (.t 14)),none⟩,⟨(some 16),(.fa 0 (.t 3)),none⟩,⟨(some 17),(.ld false 1 (.t 16)),none⟩,⟨(some 18),(.len (.t 17)),none⟩,⟨(some 19),(.bin .neq (.t 15) (.t 18)),none⟩,⟨(some 20),(.mv (.t 19)),none⟩,⟨(some 21),(.fa 1 (.t 5)),(some (20,false))⟩,⟨(some 22),(.ld false 1 (.t 21)),(some (20,false))⟩,⟨(some 23),(.len (.t 22)),(some (20,false))⟩,⟨(some 24),(.mv (.t 7)),(some (20,false))⟩,⟨(some 25),(.bin .neq (.t 23) (.t 24)),(some (20,false))⟩,⟨(some 26),(.pick (.t 20) (.k (.c (.v (.bool true)))) (.t 25)),none⟩,⟨(some 27),(.mv (.t 26)),none⟩,⟨(some 28),(.fa 2 (.t 5)),(some (27,false))⟩,⟨(some 29),(.ld false 1 (.t 28)),(some (27,false))⟩,⟨(some 30),(.len (.t 29)),(some (27,false))⟩,⟨(some 31),(.mv (.t 7)),(some (27,false))⟩,⟨(some 32),(.bin .neq (.t 30) (.t 31)),(some (27,false))⟩,⟨(some 33),(.pick (.t 27) (.k (.c (.v (.bool true)))) (.t 32)),none⟩,⟨(some 34),(.mv (.t 33)),none⟩,⟨(some 35),(.fa 3 (.t 5)),(some (34,false))⟩,⟨(some 36),(.ld false 1 (.t 35)),(some (34,false))⟩,⟨(some 37),(.len (.t 36)),(some (34,false))⟩,⟨(some 38),(.mv (.t 7)),(some (34,false))⟩,⟨(some 39),(.bin .neq (.t 37) (.t 38)),(some (34,false))⟩,⟨(some 40),(.pick (.t 34) (.k (.c (.v (.bool true)))) (.t 39)),none⟩]) (.kill [13,14,15,16,17,18,19,20,21,22,23,24,25,26,27,28,29,30,31,32,33,34,35,36,37,38,39] (.cond (.t 40) (.seq (.ops [⟨(some 6),(.mv (.k (.c (.v (.bool false))))),none⟩]) (.kill [1,3,5,7,40] .ret)) .skip))) (.kill [6,40] (.seq (.seq (.ops [⟨(some 8),(.mv (.k (.c (.v (.int .i64 0))))),none⟩]) (.blk 0 (.loop (.seq (.seq (.ops [⟨(some 41),(.mv (.t 8)),none⟩,⟨(some 42),(.mv (.t 7)),none⟩,⟨(some 43),(.bin .lss (.t 41) (.t 42)),none⟩]) (.kill [6,9,41,42,44,45,46,47,48,49,50,51,52,53,54,55,56,57,58,59,60,61,62,63,64,65,66,67,68,69,70,71,72,73,74,75,76,77,78,79,80,81,82,83,84,85,86,87,88,89,90,91,92,93,94,95,96,97,98,99,100,101,102,103,104,105,106,107,108,109,110,111,112,113,114,115,116,117,118,119,120,121,122] (.cond (.t 43) .skip (.exit 0)))) (.kill [43] (.seq (.blk 1 (.seq (.seq (.draw [(⟨(some 46),(.fa 2 (.t 5)),none⟩,([],[48])),(⟨(some 47),(.ld false 1 (.t 46)),none⟩,([],[48])),(⟨(some 48),(.mv (.t 8)),none⟩,([0,1],[46,47])),(⟨(some 49),(.ia 1 (.t 47) (.t 48)),none⟩,([],[])),(⟨(some 50),(.ld false 1 (.t 49)),none⟩,([],[])),(⟨(some 51),(.bin .lss (.t 50) (.k (.c (.v (.int .i64 0))))),none⟩,([],[])),(⟨(some 52),(.mv (.t 51)),none⟩,([],[])),(⟨(some 53),(.fa 2 (.t 5)),(some (52,false))⟩,([],[55,58,59,60,61,62,63])),(⟨(some 54),(.ld false 1 (.t 53)),(some (52,false))⟩,([],[55,58,59,60,61,62,63])),(⟨(some 55),(.mv (.t 8)),(some (52,false))⟩,([7,8],[53,54,58,59,60,61,62,63])),(⟨(some 56),(.ia 1 (.t 54) (.t 55)),(some (52,false))⟩,([],[58,59,60,61,62,63])),(⟨(some 57),(.ld false 1 (.t 56)),(some (52,false))⟩,([],[58,59,60,61,62,63])),(⟨(some 58),(.fa 1 (.t 3)),(some (52,false))⟩,([7,8,9,10,11],[53,54,55,56,57,60])),(⟨(some 59),(.ld false 1 (.t 58)),(some (52,false))⟩,([7,8,9,10,11],[53,54,55,56,57,60])),(⟨(some 60),(.mv (.t 8)),(some (52,false))⟩,([7,8,9,10,11,12,13],[53,54,55,56,57,58,59])),(⟨(some 61),(.ia 1 (.t 59) (.t 60)),(some (52,false))⟩,([7,8,9,10,11],[53,54,55,56,57])),(⟨(some 62),(.ld false 1 (.t 61)),(some (52,false))⟩,([7,8,9,10,11],[53,54,55,56,57])),(⟨(some 63),(.len (.t 62)),(some (52,false))⟩,([7,8,9,10,11],[53,54,55,56,57])),(⟨(some 64),(.bin .gtr (.t 57) (.t 63)),(some (52,false))⟩,([],[])),(⟨(some 65),(.pick (.t 52) (.k (.c (.v (.bool true)))) (.t 64)),none⟩,([],[])),(⟨(some 66),(.mv (.t 65)),none⟩,([],[])),(⟨(some 67),(.fa 3 (.t 5)),(some (66,false))⟩,([],[69])),(⟨(some 68),(.ld false 1 (.t 67)),(some (66,false))⟩,([],[69])),(⟨(some 69),(.mv (.t 8)),(some (66,false))⟩,([21,22],[67,68])),(⟨(some 70),(.ia 1 (.t 68) (.t 69)),(some (66,false))⟩,([],[])),(⟨(some 71),(.ld false 1 (.t 70)),(some (66,false))⟩,([],[])),(⟨(some 72),(.len (.t 71)),(some (66,false))⟩,([],[])),(⟨(some 73),(.bin .gtr (.t 72) (.k (.c (.v (.int .i64 10))))),(some (66,false))⟩,([],[])),(⟨(some 74),(.pick (.t 66) (.k (.c (.v (.bool true)))) (.t 73)),none⟩,([],[])),(⟨(some 75),(.mv (.t 74)),none⟩,([],[])),(⟨(some 76),(.mv (.t 1)),(some (75,false))⟩,([],[])),(⟨(some 77),(.bin .eql (.t 76) (.k (.c (.v (.int .i64 1))))),(some (75,false))⟩,([],[])),(⟨(some 78),(.mv (.t 77)),(some (75,false))⟩,([],[])),(⟨(some 79),(.fa 3 (.t 5)),(some (78,true))⟩,([],[81])),(⟨(some 80),(.ld false 1 (.t 79)),(some (78,true))⟩,([],[81])),(⟨(some 81),(.mv (.t 8)),(some (78,true))⟩,([33,34],[79,80])),(⟨(some 82),(.ia 1 (.t 80) (.t 81)),(some (78,true))⟩,([],[])),(⟨(some 83),(.ld false 1 (.t 82)),(some (78,true))⟩,([],[])),(⟨(some 84),(.len (.t 83)),(some (78,true))⟩,([],[])),(⟨(some 85),(.bin .gtr (.t 84) (.k (.c (.v (.int .i64 0))))),(some (78,true))⟩,([],[])),(⟨(some 86),(.pick (.t 78) (.t 85) (.k (.c (.v (.bool false))))),(some (75,false))⟩,([],[])),(⟨(some 87),(.pick (.t 75) (.k (.c (.v (.bool true)))) (.t 86)),none⟩,([],[]))]) (.kill [46,47,48,49,50,51,52,53,54,55,56,57,58,59,60,61,62,63,64,65,66,67,68,69,70,71,72,73,74,75,76,77,78,79,80,81,82,83,84,85,86] (.cond (.t 87) (.seq (.ops [⟨(some 6),(.mv (.k (.c (.v (.bool false))))),none⟩]) (.kill [1,3,5,7,8,87] .ret)) .skip))) (.kill [6,87] (.seq (.ops [⟨(some 9),(.mv (.k (.c (.v (.int .i64 0))))),none⟩]) (.blk 2 (.loop (.seq (.seq (.ops [⟨(some 88),(.mv (.t 9)),none⟩,⟨(some 89),(.fa 3 (.t 5)),none⟩,⟨(some 90),(.ld false 1 (.t 89)),none⟩,⟨(some 91),(.mv (.t 8)),none⟩,⟨(some 92),(.ia 1 (.t 90) (.t 91)),none⟩,⟨(some 93),(.ld false 1 (.t 92)),none⟩,⟨(some 94),(.len (.t 93)),none⟩,⟨(some 95),(.bin .lss (.t 88) (.t 94)),none⟩]) (.kill [6,88,89,90,91,92,93,94,96,97,98,99,100,101,102,103,104,105,106,107,108,109,110,111,112,113,114,115,116,117,118,119,120,121,122] (.cond (.t 95) .skip (.exit 2)))) (.kill [95] (.seq (.blk 3 (.seq (.draw [(⟨(some 98),(.fa 3 (.t 5)),none⟩,([],[100,103])),(⟨(some 99),(.ld false 1 (.t 98)),none⟩,([],[100,103])),(⟨(some 100),(.mv (.t 8)),none⟩,([0,1],[98,99,103])),(⟨(some 101),(.ia 1 (.t 99) (.t 100)),none⟩,([],[103])),(⟨(some 102),(.ld false 1 (.t 101)),none⟩,([],[103])),(⟨(some 103),(.mv (.t 9)),none⟩,([0,1,2,3,4],[98,99,100,101,102])),(⟨(some 104),(.ia 2 (.t 102) (.t 103)),none⟩,([],[])),(⟨(some 105),(.fa 0 (.t 104)),none⟩,([],[])),(⟨(some 106),(.ld false 1 (.t 105)),none⟩,([],[])),(⟨(some 107),(.bin .lss (.t 106) (.k (.c (.v (.int .i64 0))))),none⟩,([],[])),(⟨(some 108),(.mv (.t 107)),none⟩,([],[])),(⟨(some 109),(.fa 3 (.t 5)),(some (108,false))⟩,([],[111,114,118,119,120])),(⟨(some 110),(.ld false 1 (.t 109)),(some (108,false))⟩,([],[111,114,118,119,120])),(⟨(some 111),(.mv (.t 8)),(some (108,false))⟩,([11,12],[109,110,114,118,119,120])),(⟨(some 112),(.ia 1 (.t 110) (.t 111)),(some (108,false))⟩,([],[114,118,119,120])),(⟨(some 113),(.ld false 1 (.t 112)),(some (108,false))⟩,([],[114,118,119,120])),(⟨(some 114),(.mv (.t 9)),(some (108,false))⟩,([11,12,13,14,15],[109,110,111,112,113,118,119,120])),(⟨(some 115),(.ia 2 (.t 113) (.t 114)),(some (108,false))⟩,([],[118,119,120])),(⟨(some 116),(.fa 0 (.t 115)),(some (108,false))⟩,([],[118,119,120])),(⟨(some 117),(.ld false 1 (.t 116)),(some (108,false))⟩,([],[118,119,120])),(⟨(some 118),(.fa 0 (.t 3)),(some (108,false))⟩,([11,12,13,14,15,16,17,18,19],[109,110,111,112,113,114,115,116,117])),(⟨(some 119),(.ld false 1 (.t 118)),(some (108,false))⟩,([11,12,13,14,15,16,17,18,19],[109,110,111,112,113,114,115,116,117])),(⟨(some 120),(.len (.t 119)),(some (108,false))⟩,([11,12,13,14,15,16,17,18,19],[109,110,111,112,113,114,115,116,117])),(⟨(some 121),(.bin .geq (.t 117) (.t 120)),(some (108,false))⟩,([],[])),(⟨(some 122),(.pick (.t 108) (.k (.c (.v (.bool true)))) (.t 121)),none⟩,([],[]))]) (.kill [98,99,100,101,102,103,104,105,106,107,108,109,110,111,112,113,114,115,116,117,118,119,120,121] (.cond (.t 122) (.seq (.ops [⟨(some 6),(.mv (.k (.c (.v (.bool false))))),none⟩]) (.kill [1,3,5,7,8,9,122] .ret)) .skip)))) (.kill [6,98,99,100,101,102,103,104,105,106,107,108,109,110,111,112,113,114,115,116,117,118,119,120,121,122] (.ops [⟨(some 96),(.mv (.t 9)),none⟩,⟨(some 97),(.bin .add (.t 96) (.k (.c (.v (.int .i64 1))))),none⟩,⟨(some 9),(.mv (.t 97)),none⟩]))))))))))) (.kill [6,9,46,47,48,49,50,51,52,53,54,55,56,57,58,59,60,61,62,63,64,65,66,67,68,69,70,71,72,73,74,75,76,77,78,79,80,81,82,83,84,85,86,87,88,89,90,91,92,93,94,95,96,97,98,99,100,101,102,103,104,105,106,107,108,109,110,111,112,113,114,115,116,117,118,119,120,121,122] (.ops [⟨(some 44),(.mv (.t 8)),none⟩,⟨(some 45),(.bin .add (.t 44) (.k (.c (.v (.int .i64 1))))),none⟩,⟨(some 8),(.mv (.t 45)),none⟩])))))))) (.kill [1,3,5,6,7,8,9,41,42,43,44,45,46,47,48,49,50,51,52,53,54,55,56,57,58,59,60,61,62,63,64,65,66,67,68,69,70,71,72,73,74,75,76,77,78,79,80,81,82,83,84,85,86,87,88,89,90,91,92,93,94,95,96,97,98,99,100,101,102,103,104,105,106,107,108,109,110,111,112,113,114,115,116,117,118,119,120,121,122] (.seq (.ops [⟨(some 6),(.mv (.k (.c (.v (.bool true))))),none⟩]) .ret)))))))))
def rs24:List RS:=[(.t 6)]
def nt24:Nat:=123
set_option maxRecDepth 100000 in
set_option maxHeartbeats 400000 in
theorem belongs_calls (w:World) (v v' : Value) (L:Lt) (o:Int) (s:LS) (hL:checkB L=true) (h:LtR w v L) (h' : StR w v' s):Calls Try.prog 45 #[v,.int .i64 o,v'] w (RetV w (.bool (belongsB L o s))):=by
 refine enterLtSt (A:=[]) (c:=ir45) (rs:=rs45) (nt:=nt45) h h' [.agg (ltS 0),.c (.v (.int .i64 o)),.agg (stS 3)] _ Try.func45 rfl (by kernel_rfl) (by kernel_rfl) rfl (fun E' h0 h1=>by simp only [List.map_cons,List.map_nil,h0,h1];rfl) (of_decide_eq_true rfl) ?_
 obtain ⟨z1,z2,z3,z4⟩:=sz_at hL
 simp (maxSteps:=2000000) only [ir45,nt45,rs45,go_sem,↓reduceIte,Nat.reduceLT,Nat.reduceLeDiff,Nat.reduceAdd,Nat.reduceSub,Nat.reduceMul,Nat.reduceEqDiff,reduceCtorEq,Int.reduceToNat,Int.reduceEq,Int.reduceBEq,Int.reduceBNe,Int.reduceLT,Int.reduceLE,Int.reduceNeg,Int.reduceAdd,Int.reduceSub,Int.reduceMul,Int.reduceGE,Int.reduceGT,endO,ltA,ltS,stA,stS]
 refine both (fun hb=>?_) (fun hb=>?_)
 ·simp only [b_decR,b_decL,bt_ite,bf_ite,bt_dec,bf_dec,bt_int,bf_int,bt_nint,bf_nint,bt_bool,bf_bool,bt_nbool,bf_nbool,bt_not,bf_not,bt_and,bf_and,bt_or,bf_or,Bool.false_eq_true,Bool.true_eq_false,Bool.not_eq_true,Bool.not_eq_false,reduceCtorEq,false_iff,true_iff,iff_false,iff_true,and_true,true_and,and_false,false_and,or_true,true_or,or_false,false_or,not_true_eq_false,not_false_eq_true,ne_eq] at hb
  have hbl:belongsB L o s=false:=by
   cases e:belongsB L o s
   ·rfl
   ·have:=(belongs_iff.1 e).1;omega
  exact retV fun E=>by simp [SV.den,SC.den,hbl]
 simp only [b_decR,b_decL,bt_ite,bf_ite,bt_dec,bf_dec,bt_int,bf_int,bt_nint,bf_nint,bt_bool,bf_bool,bt_nbool,bf_nbool,bt_not,bf_not,bt_and,bf_and,bt_or,bf_or,Bool.false_eq_true,Bool.true_eq_false,Bool.not_eq_true,Bool.not_eq_false,reduceCtorEq,false_iff,true_iff,iff_false,iff_true,and_true,true_and,and_false,false_and,or_true,true_or,or_false,false_or,not_true_eq_false,not_false_eq_true,ne_eq] at hb
 have hsz:s.words.length=L.words.length∧s.regs.length=L.thr.length∧s.places.length=L.thr.length∧s.bufs.length=L.thr.length:=by omega
 obtain ⟨lw,lr,lp,lb⟩:=hsz
 refine loopI (ι:={ i:Nat // i≤L.thr.length∧∀ u,u<i→BelT L o s u }) (fun i=>⟨102,[(1,.c (.v (.int .i64 o))),(3,.c (.ptr (8,0,0) 0)),(5,.c (.ptr (9,0,0) 0)),(44,.c (.xv (1,0,0))),(45,.c (.v (.int .i64 L.thr.length))),(46,.c (.v (.int .i64 (i.1:Nat))))],
  [(8,.one (.bk [.xv (0,0,0),.xv (1,0,0)] 25)),(9,.one (.bk [.xv (3,0,0),.xv (4,0,0),.xv (5,0,0),.xv (6,0,0)] 32))],ltA 0 L++stA 3 s,[],10⟩)
  (fun i=>L.thr.length - i.1) ⟨0,by omega,fun u hu=>by omega⟩ (le_ren id rfl rfl (by simp [TmpsLe,look,SV.ren,SC.ren,SC.renL,ren1L,ren1,idσ,SV.okN,SC.okN,SC.okL,ok1L]) (by simp [OwnLe,BlkLeO,BlkLe,atN,look,Fm.get,idσ,SC.renL,SC.ren,SC.okL,SC.okN,renL_v,okL_v]) (by simp +contextual [ltA,stA,ArrsLe,ArrLeO,atN,look,Fm.get,idσ,arrLe_of,arrLe_0,arrLe_nest]) rfl) ?_
 rintro ⟨i,hi,hg⟩
 simp (maxSteps:=2000000) only [go_sem,↓reduceIte,Nat.reduceLT,Nat.reduceLeDiff,Nat.reduceAdd,Nat.reduceSub,Nat.reduceMul,Nat.reduceEqDiff,reduceCtorEq,Int.reduceToNat,Int.reduceEq,Int.reduceBEq,Int.reduceBNe,Int.reduceLT,Int.reduceLE,Int.reduceNeg,Int.reduceAdd,Int.reduceSub,Int.reduceMul,Int.reduceGE,Int.reduceGT,endO,ltA,stA]
 refine both (fun hlt=>?_) (fun hge=>?_)
 ·rw [decide_eq_true_eq] at hlt
  have hlt:i<L.thr.length:=by omega
  have hlp:i<s.places.length:=by omega
  have hlb:i<s.bufs.length:=by omega
  refine And.intro hlt (And.intro hlt (And.intro hlp (And.intro hlp ?_)))
  simp (maxSteps:=2000000) only [go_sem,↓reduceIte,Nat.reduceLT,Nat.reduceLeDiff,Nat.reduceAdd,Nat.reduceSub,Nat.reduceMul,Nat.reduceEqDiff,reduceCtorEq,Int.reduceToNat,Int.reduceEq,Int.reduceBEq,Int.reduceBNe,Int.reduceLT,Int.reduceLE,Int.reduceNeg,Int.reduceAdd,Int.reduceSub,Int.reduceMul,Int.reduceGE,Int.reduceGT,endO]
  refine And.intro hlt ?_
  have hc10:=(fits_at hL hlt).1
  have hwr:IntKind.i64.wrap (((L.thr.getD i []).length:Int)+1)=(((L.thr.getD i []).length+1:Nat):Int):=wr_succ (by omega)
  rw [hwr]
  refine callV (.c (.bo (decide (0≤s.places.getD i 0∧s.places.getD i 0<(((L.thr.getD i []).length+1:Nat):Int))))) _ (fun E=>rfl) (fun E a w' _=>withinL w' _ _) ?_
  simp (maxSteps:=2000000) only [go_sem,↓reduceIte,Nat.reduceLT,Nat.reduceLeDiff,Nat.reduceAdd,Nat.reduceSub,Nat.reduceMul,Nat.reduceEqDiff,reduceCtorEq,Int.reduceToNat,Int.reduceEq,Int.reduceBEq,Int.reduceBNe,Int.reduceLT,Int.reduceLE,Int.reduceNeg,Int.reduceAdd,Int.reduceSub,Int.reduceMul,Int.reduceGE,Int.reduceGT,endO]
  repeat (with_reducible refine And.intro (fun _=>hlb) ?_)
  refine both (fun hb=>?_) (fun hb=>?_)
  ·simp only [b_decR,b_decL,bt_ite,bf_ite,bt_dec,bf_dec,bt_int,bf_int,bt_nint,bf_nint,bt_bool,bf_bool,bt_nbool,bf_nbool,bt_not,bf_not,bt_and,bf_and,bt_or,bf_or,Bool.false_eq_true,Bool.true_eq_false,Bool.not_eq_true,Bool.not_eq_false,reduceCtorEq,false_iff,true_iff,iff_false,iff_true,and_true,true_and,and_false,false_and,or_true,true_or,or_false,false_or,not_true_eq_false,not_false_eq_true,ne_eq] at hb
   have hbl:belongsB L o s=false:=bel_no hlt (fun q=>by obtain ⟨⟨q1,q2,q3,q4⟩,_⟩:=q;omega)
   exact retV fun E=>by simp [SV.den,SC.den,hbl]
  simp only [b_decR,b_decL,bt_ite,bf_ite,bt_dec,bf_dec,bt_int,bf_int,bt_nint,bf_nint,bt_bool,bf_bool,bt_nbool,bf_nbool,bt_not,bf_not,bt_and,bf_and,bt_or,bf_or,Bool.false_eq_true,Bool.true_eq_false,Bool.not_eq_true,Bool.not_eq_false,reduceCtorEq,false_iff,true_iff,iff_false,iff_true,and_true,true_and,and_false,false_and,or_true,true_or,or_false,false_or,not_true_eq_false,not_false_eq_true,ne_eq] at hb
  have hgo:0≤s.places.getD i 0∧s.places.getD i 0≤(L.thr.getD i []).length∧(s.bufs.getD i []).length≤10∧(o=1→(s.bufs.getD i []).length=0):=by omega
  have hb10:=hgo.2.2.1
  repeat (with_reducible refine And.intro hlb ?_)
  refine loopI (ι:={ j:Nat // j≤(s.bufs.getD i []).length∧∀ u,u<j→0≤((s.bufs.getD i []).getD u pd0).addr∧((s.bufs.getD i []).getD u pd0).addr<L.words.length }) (fun j=>⟨102,[(1,.c (.v (.int .i64 o))),(3,.c (.ptr (8,0,0) 0)),(5,.c (.ptr (9,0,0) 0)),(44,.c (.xv (1,0,0))),(45,.c (.v (.int .i64 L.thr.length))),(46,.c (.v (.int .i64 i))),(87,.c (.xv (7,i,0))),(88,.c (.v (.int .i64 (s.bufs.getD i []).length))),(89,.c (.v (.int .i64 (j.1:Nat))))],
   [(8,.one (.bk [.xv (0,0,0),.xv (1,0,0)] 25)),(9,.one (.bk [.xv (3,0,0),.xv (4,0,0),.xv (5,0,0),.xv (6,0,0)] 32))],ltA 0 L++stA 3 s,[],10⟩)
   (fun j=>(s.bufs.getD i []).length - j.1) ⟨0,by omega,fun u hu=>by omega⟩ (le_ren id rfl rfl (by simp [TmpsLe,look,SV.ren,SC.ren,SC.renL,ren1L,ren1,idσ,SV.okN,SC.okN,SC.okL,ok1L]) (by simp [OwnLe,BlkLeO,BlkLe,atN,look,Fm.get,idσ,SC.renL,SC.ren,SC.okL,SC.okN,renL_v,okL_v]) (by simp +contextual [ltA,stA,ArrsLe,ArrLeO,atN,look,Fm.get,idσ,arrLe_of,arrLe_0,arrLe_nest]) rfl) ?_
  rintro ⟨j,hj,hgj⟩
  simp (maxSteps:=2000000) only [go_sem,↓reduceIte,Nat.reduceLT,Nat.reduceLeDiff,Nat.reduceAdd,Nat.reduceSub,Nat.reduceMul,Nat.reduceEqDiff,reduceCtorEq,Int.reduceToNat,Int.reduceEq,Int.reduceBEq,Int.reduceBNe,Int.reduceLT,Int.reduceLE,Int.reduceNeg,Int.reduceAdd,Int.reduceSub,Int.reduceMul,Int.reduceGE,Int.reduceGT,endO,ltA,stA,Pd.enc]
  refine both (fun hltj=>?_) (fun hge=>?_)
  ·rw [decide_eq_true_eq] at hltj
   have hltj:j<(s.bufs.getD i []).length:=by omega
   generalize hpj:(s.bufs.getD i []).getD j pd0=pj
   repeat (with_reducible refine And.intro (by first | exact hlb | exact ⟨hlb,hltj⟩) ?_)
   refine callV (.c (.bo (decide (0≤pj.addr∧pj.addr<(L.words.length:Nat))))) _ (fun E=>rfl) (fun E a w' _=>withinL w' _ _) ?_
   simp (maxSteps:=2000000) only [go_sem,↓reduceIte,Nat.reduceLT,Nat.reduceLeDiff,Nat.reduceAdd,Nat.reduceSub,Nat.reduceMul,Nat.reduceEqDiff,reduceCtorEq,Int.reduceToNat,Int.reduceEq,Int.reduceBEq,Int.reduceBNe,Int.reduceLT,Int.reduceLE,Int.reduceNeg,Int.reduceAdd,Int.reduceSub,Int.reduceMul,Int.reduceGE,Int.reduceGT,endO]
   refine both (fun hb=>?_) (fun hb=>?_)
   ·simp only [b_decR,b_decL,bt_ite,bf_ite,bt_dec,bf_dec,bt_int,bf_int,bt_nint,bf_nint,bt_bool,bf_bool,bt_nbool,bf_nbool,bt_not,bf_not,bt_and,bf_and,bt_or,bf_or,Bool.false_eq_true,Bool.true_eq_false,Bool.not_eq_true,Bool.not_eq_false,reduceCtorEq,false_iff,true_iff,iff_false,iff_true,and_true,true_and,and_false,false_and,or_true,true_or,or_false,false_or,not_true_eq_false,not_false_eq_true,ne_eq] at hb
    have hbl:belongsB L o s=false:=bel_no hlt (fun q=>by have:=q.2 j hltj;rw [hpj] at this;omega)
    exact retV fun E=>by simp [SV.den,SC.den,hbl]
   simp only [b_decR,b_decL,bt_ite,bf_ite,bt_dec,bf_dec,bt_int,bf_int,bt_nint,bf_nint,bt_bool,bf_bool,bt_nbool,bf_nbool,bt_not,bf_not,bt_and,bf_and,bt_or,bf_or,Bool.false_eq_true,Bool.true_eq_false,Bool.not_eq_true,Bool.not_eq_false,reduceCtorEq,false_iff,true_iff,iff_false,iff_true,and_true,true_and,and_false,false_and,or_true,true_or,or_false,false_or,not_true_eq_false,not_false_eq_true,ne_eq] at hb
   rw [wr_succ (by omega)]
   refine backI ⟨j+1,by omega,fun u hu=>?_⟩ (by simp only;omega) (le_ren id rfl rfl (by simp [TmpsLe,look,SV.ren,SC.ren,SC.renL,ren1L,ren1,idσ,SV.okN,SC.okN,SC.okL,ok1L]) (by simp [OwnLe,BlkLeO,BlkLe,atN,look,Fm.get,idσ,SC.renL,SC.ren,SC.okL,SC.okN,renL_v,okL_v]) (by simp +contextual [ltA,stA,ArrsLe,ArrLeO,atN,look,Fm.get,idσ,arrLe_of,arrLe_0,arrLe_nest]) rfl)
   by_cases e:u=j
   ·subst e;rw [hpj];omega
   ·exact hgj u (by omega)
  ·rw [decide_eq_false_iff_not] at hge
   rw [wr_succ (by omega)]
   refine backI ⟨i+1,by omega,fun u hu=>?_⟩ (by simp only;omega) (le_ren id rfl rfl (by simp [TmpsLe,look,SV.ren,SC.ren,SC.renL,ren1L,ren1,idσ,SV.okN,SC.okN,SC.okL,ok1L]) (by simp [OwnLe,BlkLeO,BlkLe,atN,look,Fm.get,idσ,SC.renL,SC.ren,SC.okL,SC.okN,renL_v,okL_v]) (by simp +contextual [ltA,stA,ArrsLe,ArrLeO,atN,look,Fm.get,idσ,arrLe_of,arrLe_0,arrLe_nest]) rfl)
   by_cases e:u=i
   ·subst e;exact ⟨hgo,fun k hk=>hgj k (by omega)⟩
   ·exact hg u (by omega)
 ·rw [decide_eq_false_iff_not] at hge
  have hbl:belongsB L o s=true:=belongs_iff.2 ⟨⟨lw,lr,lp,lb⟩,fun u hu=>hg u (by omega)⟩
  exact retV fun E=>by simp [SV.den,SC.den,hbl]
set_option maxRecDepth 100000 in
set_option maxHeartbeats 400000 in
theorem rbelongs_calls (w:World) (v v' : Value) (L:Lt) (o:Int) (s:LS) (hL:checkB L=true) (h:LtR w v L) (h' : StR w v' s):Calls Try.prog 24 #[v,.int .i64 o,v'] w (RetV w (.bool (belongsB L o s))):=by
 refine enterLtSt (A:=[]) (c:=ir24) (rs:=rs24) (nt:=nt24) h h' [.agg (ltS 0),.c (.v (.int .i64 o)),.agg (stS 3)] _ Try.func24 rfl (by kernel_rfl) (by kernel_rfl) rfl (fun E' h0 h1=>by simp only [List.map_cons,List.map_nil,h0,h1];rfl) (of_decide_eq_true rfl) ?_
 obtain ⟨z1,z2,z3,z4⟩:=sz_at hL
 simp (maxSteps:=2000000) only [ir24,nt24,rs24,go_sem,↓reduceIte,Nat.reduceLT,Nat.reduceLeDiff,Nat.reduceAdd,Nat.reduceSub,Nat.reduceMul,Nat.reduceEqDiff,reduceCtorEq,Int.reduceToNat,Int.reduceEq,Int.reduceBEq,Int.reduceBNe,Int.reduceLT,Int.reduceLE,Int.reduceNeg,Int.reduceAdd,Int.reduceSub,Int.reduceMul,Int.reduceGE,Int.reduceGT,endO,ltA,ltS,stA,stS]
 refine both (fun hb=>?_) (fun hb=>?_)
 ·simp only [b_decR,b_decL,bt_ite,bf_ite,bt_dec,bf_dec,bt_int,bf_int,bt_nint,bf_nint,bt_bool,bf_bool,bt_nbool,bf_nbool,bt_not,bf_not,bt_and,bf_and,bt_or,bf_or,Bool.false_eq_true,Bool.true_eq_false,Bool.not_eq_true,Bool.not_eq_false,reduceCtorEq,false_iff,true_iff,iff_false,iff_true,and_true,true_and,and_false,false_and,or_true,true_or,or_false,false_or,not_true_eq_false,not_false_eq_true,ne_eq] at hb
  have hbl:belongsB L o s=false:=by
   cases e:belongsB L o s
   ·rfl
   ·have:=(belongs_iff.1 e).1;omega
  exact retV fun E=>by simp [SV.den,SC.den,hbl]
 simp only [b_decR,b_decL,bt_ite,bf_ite,bt_dec,bf_dec,bt_int,bf_int,bt_nint,bf_nint,bt_bool,bf_bool,bt_nbool,bf_nbool,bt_not,bf_not,bt_and,bf_and,bt_or,bf_or,Bool.false_eq_true,Bool.true_eq_false,Bool.not_eq_true,Bool.not_eq_false,reduceCtorEq,false_iff,true_iff,iff_false,iff_true,and_true,true_and,and_false,false_and,or_true,true_or,or_false,false_or,not_true_eq_false,not_false_eq_true,ne_eq] at hb
 have hsz:s.words.length=L.words.length∧s.regs.length=L.thr.length∧s.places.length=L.thr.length∧s.bufs.length=L.thr.length:=by omega
 obtain ⟨lw,lr,lp,lb⟩:=hsz
 refine loopI (ι:={ i:Nat // i≤L.thr.length∧∀ u,u<i→BelT L o s u }) (fun i=>⟨123,[(1,.c (.v (.int .i64 o))),(3,.c (.ptr (8,0,0) 0)),(5,.c (.ptr (9,0,0) 0)),(7,.c (.v (.int .i64 L.thr.length))),(8,.c (.v (.int .i64 (i.1:Nat))))],
  [(8,.one (.bk [.xv (0,0,0),.xv (1,0,0)] 25)),(9,.one (.bk [.xv (3,0,0),.xv (4,0,0),.xv (5,0,0),.xv (6,0,0)] 32))],ltA 0 L++stA 3 s,[],10⟩)
  (fun i=>L.thr.length - i.1) ⟨0,by omega,fun u hu=>by omega⟩ (le_ren id rfl rfl (by simp [TmpsLe,look,SV.ren,SC.ren,SC.renL,ren1L,ren1,idσ,SV.okN,SC.okN,SC.okL,ok1L]) (by simp [OwnLe,BlkLeO,BlkLe,atN,look,Fm.get,idσ,SC.renL,SC.ren,SC.okL,SC.okN,renL_v,okL_v]) (by simp +contextual [ltA,stA,ArrsLe,ArrLeO,atN,look,Fm.get,idσ,arrLe_of,arrLe_0,arrLe_nest]) rfl) ?_
 rintro ⟨i,hi,hg⟩
 simp (maxSteps:=2000000) only [go_sem,↓reduceIte,Nat.reduceLT,Nat.reduceLeDiff,Nat.reduceAdd,Nat.reduceSub,Nat.reduceMul,Nat.reduceEqDiff,reduceCtorEq,Int.reduceToNat,Int.reduceEq,Int.reduceBEq,Int.reduceBNe,Int.reduceLT,Int.reduceLE,Int.reduceNeg,Int.reduceAdd,Int.reduceSub,Int.reduceMul,Int.reduceGE,Int.reduceGT,endO,ltA,stA]
 refine both (fun hlt=>?_) (fun hge=>?_)
 ·rw [decide_eq_true_eq] at hlt
  have hlt:i<L.thr.length:=by omega
  have hlp:i<s.places.length:=by omega
  have hlb:i<s.bufs.length:=by omega
  have hc10:=(fits_at hL hlt).1
  refine draw_vc (by kernel_rfl) (mkTab_ok _ _) (of_decide_eq_true rfl) (of_decide_eq_true rfl) ?_
  repeat (first | simp (maxSteps:=2000000) only [go_sem,↓reduceIte,Nat.reduceLT,Nat.reduceLeDiff,Nat.reduceAdd,Nat.reduceSub,Nat.reduceMul,Nat.reduceEqDiff,reduceCtorEq,Int.reduceToNat,Int.reduceEq,Int.reduceBEq,Int.reduceBNe,Int.reduceLT,Int.reduceLE,Int.reduceNeg,Int.reduceAdd,Int.reduceSub,Int.reduceMul,Int.reduceGE,Int.reduceGT,endO,eI] | rw [dr_cons])
  repeat (with_reducible refine And.intro (by first | exact hlp | exact (fun _=>hlp) | exact (fun _=>hlt) | exact (fun _=>hlb)) ?_)
  refine both (fun hb=>?_) (fun hb=>?_)
  ·simp only [b_decR,b_decL,bt_ite,bf_ite,bt_dec,bf_dec,bt_int,bf_int,bt_nint,bf_nint,bt_bool,bf_bool,bt_nbool,bf_nbool,bt_not,bf_not,bt_and,bf_and,bt_or,bf_or,Bool.false_eq_true,Bool.true_eq_false,Bool.not_eq_true,Bool.not_eq_false,reduceCtorEq,false_iff,true_iff,iff_false,iff_true,and_true,true_and,and_false,false_and,or_true,true_or,or_false,false_or,not_true_eq_false,not_false_eq_true,ne_eq] at hb
   have hbl:belongsB L o s=false:=bel_no hlt (fun q=>by obtain ⟨⟨q1,q2,q3,q4⟩,_⟩:=q;omega)
   exact retV fun E=>by simp [SV.den,SC.den,hbl]
  simp only [b_decR,b_decL,bt_ite,bf_ite,bt_dec,bf_dec,bt_int,bf_int,bt_nint,bf_nint,bt_bool,bf_bool,bt_nbool,bf_nbool,bt_not,bf_not,bt_and,bf_and,bt_or,bf_or,Bool.false_eq_true,Bool.true_eq_false,Bool.not_eq_true,Bool.not_eq_false,reduceCtorEq,false_iff,true_iff,iff_false,iff_true,and_true,true_and,and_false,false_and,or_true,true_or,or_false,false_or,not_true_eq_false,not_false_eq_true,ne_eq] at hb
  have hgo:0≤s.places.getD i 0∧s.places.getD i 0≤(L.thr.getD i []).length∧(s.bufs.getD i []).length≤10∧(o=1→(s.bufs.getD i []).length=0):=by omega
  have hb10:=hgo.2.2.1
  refine loopI (ι:={ j:Nat // j≤(s.bufs.getD i []).length∧∀ u,u<j→0≤((s.bufs.getD i []).getD u pd0).addr∧((s.bufs.getD i []).getD u pd0).addr<L.words.length }) (fun j=>⟨123,[(1,.c (.v (.int .i64 o))),(3,.c (.ptr (8,0,0) 0)),(5,.c (.ptr (9,0,0) 0)),(7,.c (.v (.int .i64 L.thr.length))),(8,.c (.v (.int .i64 i))),(9,.c (.v (.int .i64 (j.1:Nat))))],
   [(8,.one (.bk [.xv (0,0,0),.xv (1,0,0)] 25)),(9,.one (.bk [.xv (3,0,0),.xv (4,0,0),.xv (5,0,0),.xv (6,0,0)] 32))],ltA 0 L++stA 3 s,[],10⟩)
   (fun j=>(s.bufs.getD i []).length - j.1) ⟨0,by omega,fun u hu=>by omega⟩ (le_ren id rfl rfl (by simp [TmpsLe,look,SV.ren,SC.ren,SC.renL,ren1L,ren1,idσ,SV.okN,SC.okN,SC.okL,ok1L]) (by simp [OwnLe,BlkLeO,BlkLe,atN,look,Fm.get,idσ,SC.renL,SC.ren,SC.okL,SC.okN,renL_v,okL_v]) (by simp +contextual [ltA,stA,ArrsLe,ArrLeO,atN,look,Fm.get,idσ,arrLe_of,arrLe_0,arrLe_nest]) rfl) ?_
  rintro ⟨j,hj,hgj⟩
  simp (maxSteps:=2000000) only [go_sem,↓reduceIte,Nat.reduceLT,Nat.reduceLeDiff,Nat.reduceAdd,Nat.reduceSub,Nat.reduceMul,Nat.reduceEqDiff,reduceCtorEq,Int.reduceToNat,Int.reduceEq,Int.reduceBEq,Int.reduceBNe,Int.reduceLT,Int.reduceLE,Int.reduceNeg,Int.reduceAdd,Int.reduceSub,Int.reduceMul,Int.reduceGE,Int.reduceGT,endO,ltA,stA,Pd.enc]
  repeat (with_reducible refine And.intro hlb ?_)
  refine both (fun hltj=>?_) (fun hge=>?_)
  ·rw [decide_eq_true_eq] at hltj
   have hltj:j<(s.bufs.getD i []).length:=by omega
   refine draw_vc (by kernel_rfl) (mkTab_ok _ _) (of_decide_eq_true rfl) (of_decide_eq_true rfl) ?_
   repeat (first | simp (maxSteps:=2000000) only [go_sem,↓reduceIte,Nat.reduceLT,Nat.reduceLeDiff,Nat.reduceAdd,Nat.reduceSub,Nat.reduceMul,Nat.reduceEqDiff,reduceCtorEq,Int.reduceToNat,Int.reduceEq,Int.reduceBEq,Int.reduceBNe,Int.reduceLT,Int.reduceLE,Int.reduceNeg,Int.reduceAdd,Int.reduceSub,Int.reduceMul,Int.reduceGE,Int.reduceGT,endO,Pd.enc] | rw [dr_cons])
   generalize hpj:(s.bufs.getD i []).getD j pd0=pj
   repeat (with_reducible refine And.intro (by first | exact hlb | exact ⟨hlb,hltj⟩ | exact fun _=>hlb | exact fun _=>⟨hlb,hltj⟩) ?_)
   refine both (fun hb=>?_) (fun hb=>?_)
   ·simp only [b_decR,b_decL,bt_ite,bf_ite,bt_dec,bf_dec,bt_int,bf_int,bt_nint,bf_nint,bt_bool,bf_bool,bt_nbool,bf_nbool,bt_not,bf_not,bt_and,bf_and,bt_or,bf_or,Bool.false_eq_true,Bool.true_eq_false,Bool.not_eq_true,Bool.not_eq_false,reduceCtorEq,false_iff,true_iff,iff_false,iff_true,and_true,true_and,and_false,false_and,or_true,true_or,or_false,false_or,not_true_eq_false,not_false_eq_true,ne_eq] at hb
    have hbl:belongsB L o s=false:=bel_no hlt (fun q=>by have:=q.2 j hltj;rw [hpj] at this;omega)
    exact retV fun E=>by simp [SV.den,SC.den,hbl]
   simp only [b_decR,b_decL,bt_ite,bf_ite,bt_dec,bf_dec,bt_int,bf_int,bt_nint,bf_nint,bt_bool,bf_bool,bt_nbool,bf_nbool,bt_not,bf_not,bt_and,bf_and,bt_or,bf_or,Bool.false_eq_true,Bool.true_eq_false,Bool.not_eq_true,Bool.not_eq_false,reduceCtorEq,false_iff,true_iff,iff_false,iff_true,and_true,true_and,and_false,false_and,or_true,true_or,or_false,false_or,not_true_eq_false,not_false_eq_true,ne_eq] at hb
   rw [wr_succ (by omega)]
   refine backI ⟨j+1,by omega,fun u hu=>?_⟩ (by simp only;omega) (le_ren id rfl rfl (by simp [TmpsLe,look,SV.ren,SC.ren,SC.renL,ren1L,ren1,idσ,SV.okN,SC.okN,SC.okL,ok1L]) (by simp [OwnLe,BlkLeO,BlkLe,atN,look,Fm.get,idσ,SC.renL,SC.ren,SC.okL,SC.okN,renL_v,okL_v]) (by simp +contextual [ltA,stA,ArrsLe,ArrLeO,atN,look,Fm.get,idσ,arrLe_of,arrLe_0,arrLe_nest]) rfl)
   by_cases e:u=j
   ·subst e;rw [hpj];omega
   ·exact hgj u (by omega)
  ·rw [decide_eq_false_iff_not] at hge
   rw [wr_succ (by omega)]
   refine backI ⟨i+1,by omega,fun u hu=>?_⟩ (by simp only;omega) (le_ren id rfl rfl (by simp [TmpsLe,look,SV.ren,SC.ren,SC.renL,ren1L,ren1,idσ,SV.okN,SC.okN,SC.okL,ok1L]) (by simp [OwnLe,BlkLeO,BlkLe,atN,look,Fm.get,idσ,SC.renL,SC.ren,SC.okL,SC.okN,renL_v,okL_v]) (by simp +contextual [ltA,stA,ArrsLe,ArrLeO,atN,look,Fm.get,idσ,arrLe_of,arrLe_0,arrLe_nest]) rfl)
   by_cases e:u=i
   ·subst e;exact ⟨hgo,fun k hk=>hgj k (by omega)⟩
   ·exact hg u (by omega)
 ·rw [decide_eq_false_iff_not] at hge
  have hbl:belongsB L o s=true:=belongs_iff.2 ⟨⟨lw,lr,lp,lb⟩,fun u hu=>hg u (by omega)⟩
  exact retV fun E=>by simp [SV.den,SC.den,hbl]
end Go.Proofs.Ytmcpdafmkkjlcaa.Z
namespace Go.Proofs.Ytmcpdafmkkjlcaa.Z
open Go Go.RowKit
theorem enterSt {P:Program} {A:List Nat} {f nt:Nat} {fn:Func} {x:Code} {c:IR} {w:World} {rs:List RS} {R:Ending→World→Prop} {v:Value} {s:LS} (h:StR w v s)
  (hf:P.funcs[f]? = some fn) (hb:fn.body=some x) (hc:compC (mkTab P A) x=some c.strip) (hrs:compR (mkTab P A).T fn.results.toList=some rs) (hn:fn.ntmps=nt) (hnt:1≤nt)
  (hex:exec (mkC P A w rs R) 1000 [.code c] ⟨nt,enumT 0 [.agg (stS 0)],[],stA 0 s,[],5⟩):Calls P f #[v] w R:=by
 obtain ⟨vw,vr,vp,vb,rfl,h1,h2,h3,us,h4,h5,h6⟩:=h
 refine enterL [fun _=>vw,fun _=>vr,fun _=>vp,fun _=>vb,fun k=>us.getD k nest0] ⟨fun _=>arr_one h1,fun _=>arr_one h2,fun _=>arr_one h3,fun _=>arr_one h4,nest_one h5 h6,trivial⟩
  (rd_one 0 0 eI_ok h1 (by simp) rfl (rd_one 1 r40 r4_ok h2 (by simp) rfl (rd_one 2 0 eI_ok h3 (by simp) rfl (rd_nest 3 4 pd0 pd_ok h4 h5 h6 (by simp) (by simp) rfl (fun _=>rfl) rd_nil))))
  [.agg (stS 0)] _ hf hb hc hrs hn (fun E' hE'=>?_) hnt hex
 have e:=fun i hi=>hE' i 0 0 hi
 simp only [List.map_cons,List.map_nil,SV.den,stS,SC.den,e 0 (by simp),e 1 (by simp),e 2 (by simp),e 3 (by simp),Nat.reduceAdd]
 rfl
def cpσ (l f i a b:Nat) (x:Nm):Nm:=if x.1=l then (a,x.2) else if x.1=f then (if x.2.1=i then (b,0,0) else x) else x
theorem cpσ_inj {l f i a b n:Nat} {F:Nat→Blk} {own:Own} (hk:∀ k∈keysL own,k≤f) (hf:look own f=some (.fam n F)) (hlf:l<f) (ha:f<a) (hb:f<b) (hab:a≠b):InjN (cpσ l f i a b) own:=by
 have hx2:∀ z c,atN own z=some c→z.1≤f∧(z.1=f→z.2.2=0):=fun z c hz=>by
  obtain ⟨G,hG,hg⟩:=atN_some hz
  refine ⟨hk _ (look_keysL hG),fun e=>?_⟩
  rw [e,hf] at hG
  cases hG
  simp only [Fm.get] at hg
  split at hg
  ·next h=>exact h.2
  ·cases hg
 intro x y c d hx hy e
 obtain ⟨hx1,hx2'⟩:=hx2 x c hx
 obtain ⟨hy1,hy2'⟩:=hx2 y d hy
 obtain ⟨x1,x2,x3⟩:=x
 obtain ⟨y1,y2,y3⟩:=y
 simp only at hx1 hx2' hy1 hy2'
 have key:∀ z1 z2 z3:Nat,z1≤f→(z1=f→z3=0)→(cpσ l f i a b (z1,z2,z3)=(a,z2,z3)∧z1=l)∨(cpσ l f i a b (z1,z2,z3)=(b,0,0)∧z1=f∧z2=i∧z3=0)∨(cpσ l f i a b (z1,z2,z3)=(z1,z2,z3)∧z1≠l∧¬ (z1=f∧z2=i)):=fun z1 z2 z3 h1 h2=>by
  unfold cpσ
  simp only
  by_cases g1:z1=l
  ·rw [if_pos g1];exact Or.inl ⟨rfl,g1⟩
  ·rw [if_neg g1]
   by_cases g2:z1=f
   ·rw [if_pos g2]
    by_cases g3:z2=i
    ·rw [if_pos g3];exact Or.inr (Or.inl ⟨rfl,g2,g3,h2 g2⟩)
    ·rw [if_neg g3];exact Or.inr (Or.inr ⟨rfl,g1,fun h=>g3 h.2⟩)
   ·rw [if_neg g2];exact Or.inr (Or.inr ⟨rfl,g1,fun h=>g2 h.1⟩)
 clear hk hf hx hy
 have k1:=key x1 x2 x3 hx1 hx2'
 have k2:=key y1 y2 y3 hy1 hy2'
 rw [e] at k1
 generalize cpσ l f i a b (y1,y2,y3)=q at k1 k2
 obtain ⟨q1,q2,q3⟩:=q
 simp only [Prod.mk.injEq] at k1 k2 ⊢
 omega
theorem fit8 (n:Nat) (h:n * 8≤140737488351232):(n+n / 4+192) * 8≤281474976710656∧n≤9223372036854775807:=by omega
theorem fit32 (n:Nat) (h:n * 32≤140737488351232):(n+n / 4+192) * 32≤281474976710656∧n≤9223372036854775807:=by omega
theorem fit16 (n:Nat) (h:n * 16≤140737488351232):(n+n / 4+192) * 16≤281474976710656∧n≤9223372036854775807:=by omega
def LsSz (s:LS):Prop:=s.words.length * 8≤140737488351232∧s.regs.length * 32≤140737488351232∧s.places.length * 8≤140737488351232∧s.bufs.length * 24≤140737488351232∧∀ k,k<s.bufs.length→(s.bufs.getD k []).length * 16≤140737488351232
def ir21:IR:=(.seq (.ops [⟨(some 1),(.box 32 (.t 0)),none⟩,⟨(some 2),(.new 32 [(.v (.slice none 0 0)),(.v (.slice none 0 0)),(.v (.slice none 0 0)),(.v (.slice none 0 0))]),none⟩]) (.kill [0,3,4,5,6,7,8,9,10,11] (.seq (.ops [⟨(some 3),(.new 32 [(.v (.slice none 0 0)),(.v (.slice none 0 0)),(.v (.slice none 0 0)),(.v (.slice none 0 0))]),none⟩]) (.seq (.ops [⟨(some 6),(.fa 0 (.t 3)),none⟩,⟨(some 7),(.ld false 1 (.t 6)),none⟩,⟨(some 8),(.fa 0 (.t 1)),none⟩,⟨(some 9),(.ld false 1 (.t 8)),none⟩,⟨(some 10),(.app 3 1 8 [(.v (.int .i64 0))] (.t 7) (.t 9)),none⟩,⟨(some 11),(.fa 0 (.t 3)),none⟩,⟨none,(.st 1 (.t 11) (.t 10)),none⟩]) (.kill [6,7,8,9,10,11] (.seq (.ops [⟨(some 12),(.fa 1 (.t 3)),none⟩,⟨(some 13),(.ld false 1 (.t 12)),none⟩,⟨(some 14),(.fa 1 (.t 1)),none⟩,⟨(some 15),(.ld false 1 (.t 14)),none⟩,⟨(some 16),(.app 68 4 32 [(.v (.int .i64 0)),(.v (.int .i64 0)),(.v (.int .i64 0)),(.v (.int .i64 0))] (.t 13) (.t 15)),none⟩,⟨(some 17),(.fa 1 (.t 3)),none⟩,⟨none,(.st 1 (.t 17) (.t 16)),none⟩]) (.kill [12,13,14,15,16,17] (.seq (.ops [⟨(some 18),(.fa 2 (.t 3)),none⟩,⟨(some 19),(.ld false 1 (.t 18)),none⟩,⟨(some 20),(.fa 2 (.t 1)),none⟩,⟨(some 21),(.ld false 1 (.t 20)),none⟩,⟨(some 22),(.app 3 1 8 [(.v (.int .i64 0))] (.t 19) (.t 21)),none⟩,⟨(some 23),(.fa 2 (.t 3)),none⟩,⟨none,(.st 1 (.t 23) (.t 22)),none⟩]) (.kill [18,19,20,21,22,23] (.seq (.seq (.ops [⟨(some 4),(.mv (.k (.c (.v (.int .i64 0))))),none⟩]) (.blk 0 (.loop (.seq (.seq (.ops [⟨(some 24),(.mv (.t 4)),none⟩,⟨(some 25),(.fa 3 (.t 1)),none⟩,⟨(some 26),(.ld false 1 (.t 25)),none⟩,⟨(some 27),(.len (.t 26)),none⟩,⟨(some 28),(.bin .lss (.t 24) (.t 27)),none⟩]) (.kill [5,24,25,26,27,29,30,31,32,33,34,35,36,37,38,39,40,41,42,43] (.cond (.t 28) .skip (.exit 0)))) (.kill [28] (.seq (.blk 1 (.seq (.ops [⟨(some 5),(.mv (.k (.c (.v (.slice none 0 0))))),none⟩]) (.seq (.ops [⟨(some 31),(.mv (.t 5)),none⟩,⟨(some 32),(.fa 3 (.t 1)),none⟩,⟨(some 33),(.ld false 1 (.t 32)),none⟩,⟨(some 34),(.mv (.t 4)),none⟩,⟨(some 35),(.ia 1 (.t 33) (.t 34)),none⟩,⟨(some 36),(.ld false 1 (.t 35)),none⟩,⟨(some 37),(.app 88 2 16 [(.v (.int .i64 0)),(.v (.int .i64 0))] (.t 31) (.t 36)),none⟩,⟨(some 5),(.mv (.t 37)),none⟩]) (.kill [31,32,33,34,35,36,37] (.ops [⟨(some 38),(.fa 3 (.t 3)),none⟩,⟨(some 39),(.ld false 1 (.t 38)),none⟩,⟨(some 40),(.mv (.t 5)),none⟩,⟨(some 41),(.mkSl 86 1 1 [(.v (.slice none 0 0))] [(0,(1,(.t 40)))]),none⟩,⟨(some 42),(.app 86 1 24 [(.v (.slice none 0 0))] (.t 39) (.t 41)),none⟩,⟨(some 43),(.fa 3 (.t 3)),none⟩,⟨none,(.st 1 (.t 43) (.t 42)),none⟩]))))) (.kill [5,31,32,33,34,35,36,37,38,39,40,41,42,43] (.ops [⟨(some 29),(.mv (.t 4)),none⟩,⟨(some 30),(.bin .add (.t 29) (.k (.c (.v (.int .i64 1))))),none⟩,⟨(some 4),(.mv (.t 30)),none⟩])))))))) (.kill [1,4,5,24,25,26,27,28,29,30,31,32,33,34,35,36,37,38,39,40,41,42,43] (.seq (.ops [⟨(some 44),(.ld true 4 (.t 3)),none⟩,⟨none,(.st 4 (.t 2) (.t 44)),none⟩]) (.kill [3,44] .ret)))))))))))))
def rs21:List RS:=[(.cell 2 true 4)]
def nt21:Nat:=45
def ir46:IR:=(.seq (.ops [⟨(some 1),(.box 32 (.t 0)),none⟩,⟨(some 2),(.new 32 [(.v (.slice none 0 0)),(.v (.slice none 0 0)),(.v (.slice none 0 0)),(.v (.slice none 0 0))]),none⟩]) (.kill [0,3,4,5,6,7,8,9,10,11] (.seq (.draw [(⟨(some 6),(.fa 0 (.t 1)),none⟩,([],[9,10,12,13,3])),(⟨(some 7),(.ld false 1 (.t 6)),none⟩,([],[9,10,12,13,3])),(⟨(some 8),(.call 44 [(.t 7)]),none⟩,([],[9,10,12,13,3])),(⟨(some 9),(.fa 1 (.t 1)),none⟩,([0,1,2],[6,7,8,12,13,3])),(⟨(some 10),(.ld false 1 (.t 9)),none⟩,([0,1,2],[6,7,8,12,13,3])),(⟨(some 11),(.call 81 [(.t 10)]),none⟩,([],[12,13,3])),(⟨(some 12),(.fa 2 (.t 1)),none⟩,([0,1,2,3,4,5],[6,7,8,9,10,11,3])),(⟨(some 13),(.ld false 1 (.t 12)),none⟩,([0,1,2,3,4,5],[6,7,8,9,10,11,3])),(⟨(some 14),(.call 44 [(.t 13)]),none⟩,([],[3])),(⟨(some 15),(.build [(.v (.slice none 0 0)),(.v (.slice none 0 0)),(.v (.slice none 0 0)),(.v (.slice none 0 0))] [(0,(1,(.t 8))),(1,(1,(.t 11))),(2,(1,(.t 14)))]),none⟩,([],[3])),(⟨(some 3),(.new 32 [(.v (.slice none 0 0)),(.v (.slice none 0 0)),(.v (.slice none 0 0)),(.v (.slice none 0 0))]),none⟩,([0,1,2,3,4,5,6,7,8,9],[6,7,8,9,10,11,12,13,14,15])),(⟨none,(.st 4 (.t 3) (.t 15)),none⟩,([],[]))]) (.kill [6,7,8,9,10,11,12,13,14,15] (.seq (.seq (.ops [⟨(some 16),(.fa 3 (.t 1)),none⟩,⟨(some 17),(.ld false 1 (.t 16)),none⟩,⟨(some 18),(.len (.t 17)),none⟩,⟨(some 19),(.mv (.k (.c (.v (.int .i64 0))))),none⟩]) (.kill [1,16] (.blk 0 (.loop (.seq (.ops [⟨(some 20),(.bin .lss (.t 19) (.t 18)),none⟩]) (.kill [5,21,22,23,24,25,26,27,28,29,30] (.seq (.cond (.t 20) .skip (.exit 0)) (.kill [20] (.seq (.blk 1 (.seq (.ops [⟨(some 21),(.ia 1 (.t 17) (.t 19)),none⟩,⟨(some 22),(.ld false 1 (.t 21)),none⟩,⟨(some 5),(.mv (.t 22)),none⟩]) (.kill [21,22] (.draw [(⟨(some 23),(.fa 3 (.t 3)),none⟩,([],[25,26,27])),(⟨(some 24),(.ld false 1 (.t 23)),none⟩,([],[25,26,27])),(⟨(some 25),(.mv (.t 5)),none⟩,([0,1],[23,24])),(⟨(some 26),(.call 82 [(.t 25)]),none⟩,([0,1],[23,24])),(⟨(some 27),(.mkSl 86 1 1 [(.v (.slice none 0 0))] [(0,(1,(.t 26)))]),none⟩,([0,1],[23,24])),(⟨(some 28),(.app 86 1 24 [(.v (.slice none 0 0))] (.t 24) (.t 27)),none⟩,([],[])),(⟨(some 29),(.fa 3 (.t 3)),none⟩,([],[])),(⟨none,(.st 1 (.t 29) (.t 28)),none⟩,([],[]))])))) (.kill [5,21,22,23,24,25,26,27,28,29] (.ops [⟨(some 30),(.bin .add (.t 19) (.k (.c (.v (.int .i64 1))))),none⟩,⟨(some 19),(.mv (.t 30)),none⟩]))))))))))) (.kill [5,17,18,19,20,21,22,23,24,25,26,27,28,29,30] (.seq (.ops [⟨(some 31),(.ld true 4 (.t 3)),none⟩,⟨none,(.st 4 (.t 2) (.t 31)),none⟩]) (.kill [3,31] .ret))))))))
def rs46:List RS:=[(.cell 2 true 4)]
def nt46:Nat:=32
set_option maxRecDepth 100000 in
set_option maxHeartbeats 1000000 in
theorem rcopy_calls (w:World) (v:Value) (s:LS) (hsz:LsSz s) (h:StR w v s):Calls Try.prog 21 #[v] w (RetN w 5 (fun b=>.agg (stC b s)) (fun b=>stO b s)):=by
 refine enterSt (A:=[]) (c:=ir21) (rs:=rs21) (nt:=nt21) h Try.func21 rfl (by kernel_rfl) (by kernel_rfl) rfl (of_decide_eq_true rfl) ?_
 obtain ⟨z1,z2,z3,z4,z5⟩:=hsz
 have y1:=fit8 _ z1
 have y2:=fit32 _ z2
 have y3:=fit8 _ z3
 simp (maxSteps:=2000000) only [ir21,nt21,rs21,go_sem,↓reduceIte,Nat.reduceLT,Nat.reduceLeDiff,Nat.reduceAdd,Nat.reduceSub,Nat.reduceMul,Nat.reduceEqDiff,reduceCtorEq,Int.reduceToNat,Int.reduceEq,Int.reduceBEq,Int.reduceBNe,Int.reduceLT,Int.reduceLE,Int.reduceNeg,Int.reduceAdd,Int.reduceSub,Int.reduceMul,Int.reduceGE,Int.reduceGT,endO,stA,stS]
 refine And.intro ⟨by omega,y1.2⟩ (And.intro ⟨by omega,y2.2⟩ (And.intro ⟨by omega,y3.2⟩ ?_))
 refine loopI (ι:={ i:Nat // i≤s.bufs.length }) (fun i=>⟨45,[(1,.c (.ptr (5,0,0) 0)),(2,.c (.ptr (6,0,0) 0)),(3,.c (.ptr (7,0,0) 0)),(4,.c (.v (.int .i64 (i.1:Nat))))],
  [(5,.one (.bk [.xv (0,0,0),.xv (1,0,0),.xv (2,0,0),.xv (3,0,0)] 32)),(6,.one (.bk [.v (.slice none 0 0),.v (.slice none 0 0),.v (.slice none 0 0),.v (.slice none 0 0)] 32)),(7,.one (.bk [.sl (8,0,0) 1 0 s.words.length none,.sl (9,0,0) 4 0 s.regs.length none,.sl (10,0,0) 1 0 s.places.length none,.sl (11,0,0) 1 0 i.1 none] 32)),(8,.one (.ar s.words.length 1 (ats eI s.words 0) 3)),(9,.one (.ar s.regs.length 4 (ats R4.enc s.regs r40) 68)),(10,.one (.ar s.places.length 1 (ats eI s.places 0) 3)),(11,.one (.ar i.1 1 (bfC 12 s) 86)),(12,.fam i.1 (bfO s))],stA 0 s,[],13⟩)
  (fun i=>s.bufs.length - i.1) ⟨0,by omega⟩ ?_ ?_
 ·refine le_tr (le_nilcell 7 1 86 32 _ [.sl (8,0,0) 1 0 s.words.length none,.sl (9,0,0) 4 0 s.regs.length none,.sl (10,0,0) 1 0 s.places.length none,.sl (11,0,0) 1 0 0 none] (bfC 12 s) rfl rfl (fun E h1 h2=>by simp [SC.den,h1,h2])) ?_
  refine le_ren id rfl rfl (by simp [TmpsLe,look,SV.ren,SC.ren,SC.renL,ren1L,ren1,idσ,SV.okN,SC.okN,SC.okL,ok1L]) ?_ (by simp +contextual [stA,ArrsLe,ArrLeO,atN,look,Fm.get,idσ,arrLe_of,arrLe_0,arrLe_nest]) rfl
  simp [OwnLe,BlkLeO,BlkLe,atN,look,setL,Fm.get,idσ,SC.renL,SC.ren,SC.okL,SC.okN,renL_v,okL_v,ren_ats,ok_ats,appAt,arrOf_ats]
 rintro ⟨i,hi⟩
 simp (maxSteps:=2000000) only [go_sem,↓reduceIte,Nat.reduceLT,Nat.reduceLeDiff,Nat.reduceAdd,Nat.reduceSub,Nat.reduceMul,Nat.reduceEqDiff,reduceCtorEq,Int.reduceToNat,Int.reduceEq,Int.reduceBEq,Int.reduceBNe,Int.reduceLT,Int.reduceLE,Int.reduceNeg,Int.reduceAdd,Int.reduceSub,Int.reduceMul,Int.reduceGE,Int.reduceGT,endO,bfC,bfO,stA]
 refine both (fun hlt=>?_) (fun hge=>?_)
 ·rw [decide_eq_true_eq] at hlt
  have hlt:i<s.bufs.length:=by omega
  have y4:=fit16 _ (z5 i hlt)
  have y5:(i+1+(i+1) / 4+192) * 24≤281474976710656:=fit24 (i+1) (Nat.le_trans (Nat.mul_le_mul_right 24 hlt) (Nat.le_trans z4 (by decide)))
  have y6:i+1≤maxLen:=Nat.le_trans hlt (by simp only [maxLen];omega)
  refine And.intro hlt (And.intro hlt (And.intro ⟨hlt,by omega,y4.2⟩ (And.intro (by decide) (And.intro ⟨Nat.le_refl _,y5,y6⟩ ?_))))
  rw [wr_succ (by omega)]
  refine backI ⟨i+1,by omega⟩ (by simp only;omega) (le_nm (cpσ 11 12 i 15 13) ⟨rfl,rfl,by simp [TmpsLe,look,SV.ren,SC.ren,cpσ,SV.okN,SC.okN],?_,?_,?_⟩)
  ·refine ⟨⟨of_decide_eq_true rfl,by simp [BlkLeO,BlkLe,atN,look,Fm.get,cpσ,SC.renL,SC.ren,SC.okL,SC.okN]⟩,⟨of_decide_eq_true rfl,by simp [BlkLeO,BlkLe,atN,look,Fm.get,cpσ,SC.renL,SC.ren,SC.okL,SC.okN]⟩,⟨of_decide_eq_true rfl,by simp [BlkLeO,BlkLe,atN,look,Fm.get,cpσ,SC.renL,SC.ren,SC.okL,SC.okN]⟩,⟨of_decide_eq_true rfl,arLe_same⟩,⟨of_decide_eq_true rfl,arLe_same⟩,⟨of_decide_eq_true rfl,arLe_same⟩,⟨of_decide_eq_true rfl,?_⟩,⟨of_decide_eq_true rfl,fun k hk=>?_⟩,trivial⟩
   ·refine ⟨Nat.le_refl _,rfl,rfl,fun e he=>⟨?_,by simp [bfC,SC.okL,SC.okN]⟩⟩
    by_cases h:e=i
    ·subst h;simp [appAt,bfC,SC.renL,SC.ren,cpσ,take',drop',segs]
    ·have:e<i:=by have he' : e<i+1:=he;omega
     simp [appAt,this,bfC,SC.renL,SC.ren,cpσ,h]
   ·by_cases h:k=i
    ·subst h
     simp only [cpσ,atN,look,Nat.reduceEqDiff,reduceIte,Fm.get,and_self,bfO]
     exact arLe_of (Nat.le_refl _) fun e he=>by simp [appAt,arrOf_ats]
    ·have:k<i:=by have hk' : k<i+1:=hk;omega
     simp only [cpσ,atN,look,Nat.reduceEqDiff,reduceIte,Fm.get,h,this,and_self,bfO]
     exact arLe_same
  ·refine ⟨⟨of_decide_eq_true rfl,arrLe_of⟩,⟨of_decide_eq_true rfl,arrLe_of⟩,⟨of_decide_eq_true rfl,arrLe_of⟩,⟨of_decide_eq_true rfl,⟨rfl,rfl,fun e _=>⟨by simp [nestF,SC.renL,SC.ren,cpσ],by simp [nestF,SC.okL,SC.okN]⟩,Nat.le_refl _⟩⟩,⟨of_decide_eq_true rfl,fun k hk=>?_⟩,trivial⟩
   simp only [cpσ,atN,look,Nat.reduceEqDiff,reduceIte,Fm.get,hk,and_self]
   exact arrLe_of
  ·exact cpσ_inj (fun k hk=>by simp [keysL] at hk;omega) rfl (by decide) (by decide) (by decide) (by decide)
 ·rw [decide_eq_false_iff_not] at hge
  have hin:i=s.bufs.length:=by omega
  subst hin
  refine retN (fun j=>j+8) (fun b=>⟨?_,?_⟩) (fun b=>?_) (fun b=>?_)
  ·simp [stC,SV.ren,SC.renL,SC.ren,fromσ]
  ·simp [stC,SV.okN,SC.okL,SC.okN,NewIds]
  ·refine ⟨⟨⟨by omega,by omega⟩,?_⟩,⟨⟨by omega,by omega⟩,?_⟩,⟨⟨by omega,by omega⟩,?_⟩,⟨⟨by omega,by omega⟩,?_⟩,⟨⟨by omega,by omega⟩,fun k hk=>?_⟩,trivial⟩
   ·simp only [fromσ,Nat.sub_self,Nat.zero_add,atN,look,Nat.reduceEqDiff,reduceIte,Fm.get,and_self,Nat.reduceLT,Nat.reduceAdd];exact arLe_same
   ·simp only [fromσ,Nat.add_sub_cancel_left,Nat.reduceAdd,atN,look,Nat.reduceEqDiff,reduceIte,Fm.get,and_self,Nat.reduceLT];exact arLe_same
   ·simp only [fromσ,Nat.add_sub_cancel_left,Nat.reduceAdd,atN,look,Nat.reduceEqDiff,reduceIte,Fm.get,and_self,Nat.reduceLT];exact arLe_same
   ·simp only [fromσ,Nat.add_sub_cancel_left,Nat.reduceAdd,atN,look,Nat.reduceEqDiff,reduceIte,Fm.get,and_self,Nat.reduceLT]
    exact ⟨Nat.le_refl _,rfl,rfl,fun e he=>⟨by simp [bfC,SC.renL,SC.ren,fromσ],by simp [bfC,SC.okL,SC.okN,NewIds]⟩⟩
   ·simp only [fromσ,Nat.add_sub_cancel_left,Nat.reduceAdd,atN,look,Nat.reduceEqDiff,reduceIte,Fm.get,hk,and_self,bfO,Nat.reduceLT];exact arLe_same
  ·exact injN_from fun x hx y hy e=>by
    simp [stO,keysL] at hx hy
    (try simp only at e);(try split at e <;> try split at e);all_goals omega
set_option maxRecDepth 100000 in
set_option maxHeartbeats 1000000 in
theorem icopy_calls (w:World) (v:Value) (s:LS) (hsz:LsSz s) (h:StR w v s):Calls Try.prog 46 #[v] w (RetN w 5 (fun b=>.agg (stC b s)) (fun b=>stO b s)):=by
 refine enterSt (A:=[]) (c:=ir46) (rs:=rs46) (nt:=nt46) h Try.func46 rfl (by kernel_rfl) (by kernel_rfl) rfl (of_decide_eq_true rfl) ?_
 obtain ⟨z1,z2,z3,z4,z5⟩:=hsz
 simp (maxSteps:=2000000) only [ir46,nt46,rs46,go_sem,↓reduceIte,Nat.reduceLT,Nat.reduceLeDiff,Nat.reduceAdd,Nat.reduceSub,Nat.reduceMul,Nat.reduceEqDiff,reduceCtorEq,Int.reduceToNat,Int.reduceEq,Int.reduceBEq,Int.reduceBNe,Int.reduceLT,Int.reduceLE,Int.reduceNeg,Int.reduceAdd,Int.reduceSub,Int.reduceMul,Int.reduceGE,Int.reduceGT,endO,stA,stS]
 refine draw_vc (by kernel_rfl) (mkTab_ok _ _) (of_decide_eq_true rfl) (of_decide_eq_true rfl) ?_
 repeat (first | simp (maxSteps:=2000000) only [go_sem,↓reduceIte,Nat.reduceLT,Nat.reduceLeDiff,Nat.reduceAdd,Nat.reduceSub,Nat.reduceMul,Nat.reduceEqDiff,reduceCtorEq,Int.reduceToNat,Int.reduceEq,Int.reduceBEq,Int.reduceBNe,Int.reduceLT,Int.reduceLE,Int.reduceNeg,Int.reduceAdd,Int.reduceSub,Int.reduceMul,Int.reduceGE,Int.reduceGT,endO] | rw [dr_cons])
 refine dcallN 1 (lsT 1 s.words.length) (lsO 3 1 eI s.words 0) (fun E a w' hs=>(clone_ints (arr_at (d:=0) hs 0 rfl) (Nat.le_trans z1 (by decide))).mono fun e w2 he=>retN_of (d:=0) eI_ok he) ?_ ?_
 ·simp [newOk,keysL,lsO]
 repeat (first | simp (maxSteps:=2000000) only [go_sem,↓reduceIte,Nat.reduceLT,Nat.reduceLeDiff,Nat.reduceAdd,Nat.reduceSub,Nat.reduceMul,Nat.reduceEqDiff,reduceCtorEq,Int.reduceToNat,Int.reduceEq,Int.reduceBEq,Int.reduceBNe,Int.reduceLT,Int.reduceLE,Int.reduceNeg,Int.reduceAdd,Int.reduceSub,Int.reduceMul,Int.reduceGE,Int.reduceGT,endO,lsT,lsO] | rw [dr_cons])
 refine dcallN 1 (lsT 4 s.regs.length) (lsO 68 4 R4.enc s.regs r40) (fun E a w' hs=>(clone_regs (arr_at (d:=r40) hs 1 rfl) (Nat.le_trans z2 (by decide))).mono fun e w2 he=>retN_of (d:=r40) r4_ok he) ?_ ?_
 ·simp [newOk,keysL,lsO]
 repeat (first | simp (maxSteps:=2000000) only [go_sem,↓reduceIte,Nat.reduceLT,Nat.reduceLeDiff,Nat.reduceAdd,Nat.reduceSub,Nat.reduceMul,Nat.reduceEqDiff,reduceCtorEq,Int.reduceToNat,Int.reduceEq,Int.reduceBEq,Int.reduceBNe,Int.reduceLT,Int.reduceLE,Int.reduceNeg,Int.reduceAdd,Int.reduceSub,Int.reduceMul,Int.reduceGE,Int.reduceGT,endO,lsT,lsO] | rw [dr_cons])
 refine dcallN 1 (lsT 1 s.places.length) (lsO 3 1 eI s.places 0) (fun E a w' hs=>(clone_ints (arr_at (d:=0) hs 2 rfl) (Nat.le_trans z3 (by decide))).mono fun e w2 he=>retN_of (d:=0) eI_ok he) ?_ ?_
 ·simp [newOk,keysL,lsO]
 repeat (first | simp (maxSteps:=2000000) only [go_sem,↓reduceIte,Nat.reduceLT,Nat.reduceLeDiff,Nat.reduceAdd,Nat.reduceSub,Nat.reduceMul,Nat.reduceEqDiff,reduceCtorEq,Int.reduceToNat,Int.reduceEq,Int.reduceBEq,Int.reduceBNe,Int.reduceLT,Int.reduceLE,Int.reduceNeg,Int.reduceAdd,Int.reduceSub,Int.reduceMul,Int.reduceGE,Int.reduceGT,endO,lsT,lsO] | rw [dr_cons])
 refine And.intro (Or.inl trivial) (And.intro (Or.inr trivial) ?_)
 refine loopI (ι:={ i:Nat // i≤s.bufs.length }) (fun i=>⟨32,[(2,.c (.ptr (6,0,0) 0)),(3,.c (.ptr (10,0,0) 0)),(17,.c (.xv (3,0,0))),(18,.c (.v (.int .i64 s.bufs.length))),(19,.c (.v (.int .i64 (i.1:Nat))))],
  [(5,.one (.bk [.xv (0,0,0),.xv (1,0,0),.xv (2,0,0),.xv (3,0,0)] 32)),(6,.one (.bk [.v (.slice none 0 0),.v (.slice none 0 0),.v (.slice none 0 0),.v (.slice none 0 0)] 32)),(7,.one (.ar s.words.length 1 (ats eI s.words 0) 3)),(8,.one (.ar s.regs.length 4 (ats R4.enc s.regs r40) 68)),(9,.one (.ar s.places.length 1 (ats eI s.places 0) 3)),(10,.one (.bk [.sl (7,0,0) 1 0 s.words.length none,.sl (8,0,0) 4 0 s.regs.length none,.sl (9,0,0) 1 0 s.places.length none,.sl (11,0,0) 1 0 i.1 none] 32)),(11,.one (.ar i.1 1 (bfC 12 s) 86)),(12,.fam i.1 (bfO s))],stA 0 s,[],13⟩)
  (fun i=>s.bufs.length - i.1) ⟨0,by omega⟩ ?_ ?_
 ·refine le_tr (le_nilcell 10 1 86 32 _ [.sl (7,0,0) 1 0 s.words.length none,.sl (8,0,0) 4 0 s.regs.length none,.sl (9,0,0) 1 0 s.places.length none,.sl (11,0,0) 1 0 0 none] (bfC 12 s) rfl rfl (fun E h1 h2=>by simp [SC.den,h1,h2])) ?_
  refine le_ren id rfl rfl (by simp [TmpsLe,look,SV.ren,SC.ren,SC.renL,ren1L,ren1,idσ,SV.okN,SC.okN,SC.okL,ok1L]) ?_ (by simp +contextual [stA,ArrsLe,ArrLeO,atN,look,Fm.get,idσ,arrLe_of,arrLe_0,arrLe_nest]) rfl
  simp [OwnLe,BlkLeO,BlkLe,atN,look,setL,Fm.get,idσ,SC.renL,SC.ren,SC.okL,SC.okN,renL_v,okL_v,ren_ats,ok_ats,appAt,arrOf_ats]
 rintro ⟨i,hi⟩
 simp (maxSteps:=2000000) only [go_sem,↓reduceIte,Nat.reduceLT,Nat.reduceLeDiff,Nat.reduceAdd,Nat.reduceSub,Nat.reduceMul,Nat.reduceEqDiff,reduceCtorEq,Int.reduceToNat,Int.reduceEq,Int.reduceBEq,Int.reduceBNe,Int.reduceLT,Int.reduceLE,Int.reduceNeg,Int.reduceAdd,Int.reduceSub,Int.reduceMul,Int.reduceGE,Int.reduceGT,endO,bfC,bfO,stA]
 refine both (fun hlt=>?_) (fun hge=>?_)
 ·rw [decide_eq_true_eq] at hlt
  have hlt:i<s.bufs.length:=by omega
  have y4:=fit16 _ (z5 i hlt)
  have y5:(i+1+(i+1) / 4+192) * 24≤281474976710656:=fit24 (i+1) (Nat.le_trans (Nat.mul_le_mul_right 24 hlt) (Nat.le_trans z4 (by decide)))
  have y6:i+1≤maxLen:=Nat.le_trans hlt (by simp only [maxLen];omega)
  have z6:=z5 i hlt
  refine And.intro hlt (And.intro hlt ?_)
  refine draw_vc (by kernel_rfl) (mkTab_ok _ _) (of_decide_eq_true rfl) (of_decide_eq_true rfl) ?_
  repeat (first | simp (maxSteps:=2000000) only [go_sem,↓reduceIte,Nat.reduceLT,Nat.reduceLeDiff,Nat.reduceAdd,Nat.reduceSub,Nat.reduceMul,Nat.reduceEqDiff,reduceCtorEq,Int.reduceToNat,Int.reduceEq,Int.reduceBEq,Int.reduceBNe,Int.reduceLT,Int.reduceLE,Int.reduceNeg,Int.reduceAdd,Int.reduceSub,Int.reduceMul,Int.reduceGE,Int.reduceGT,endO,bfC,bfO] | rw [dr_cons])
  refine dcallN 1 (lsT 2 (s.bufs.getD i []).length) (lsO 88 2 Pd.enc (s.bufs.getD i []) pd0) (fun E a w' hs=>(clone_pend (arr_of (d:=pd0) ((holds_of hs).1 (4,i,0) _ (by simp [atN,look,Fm.get,hlt];rfl))) (Nat.le_trans z6 (by decide))).mono fun e w2 he=>retN_of (d:=pd0) pd_ok he) ?_ ?_
  ·simp [newOk,keysL,lsO]
  repeat (first | simp (maxSteps:=2000000) only [go_sem,↓reduceIte,Nat.reduceLT,Nat.reduceLeDiff,Nat.reduceAdd,Nat.reduceSub,Nat.reduceMul,Nat.reduceEqDiff,reduceCtorEq,Int.reduceToNat,Int.reduceEq,Int.reduceBEq,Int.reduceBNe,Int.reduceLT,Int.reduceLE,Int.reduceNeg,Int.reduceAdd,Int.reduceSub,Int.reduceMul,Int.reduceGE,Int.reduceGT,endO,lsT,lsO,bfC,bfO] | rw [dr_cons])
  refine And.intro (by decide) (And.intro (Or.inl trivial) (And.intro ⟨Nat.le_refl _,y5,y6⟩ (And.intro ⟨Or.inl trivial,Or.inr trivial⟩ (And.intro (Or.inr trivial) ?_))))
  rw [wr_succ (by omega)]
  refine backI ⟨i+1,by omega⟩ (by simp only;omega) (le_nm (cpσ 11 12 i 15 13) ⟨rfl,rfl,by simp [TmpsLe,look,SV.ren,SC.ren,cpσ,SV.okN,SC.okN],?_,?_,?_⟩)
  ·refine ⟨⟨of_decide_eq_true rfl,by simp [BlkLeO,BlkLe,atN,look,Fm.get,cpσ,SC.renL,SC.ren,SC.okL,SC.okN]⟩,⟨of_decide_eq_true rfl,by simp [BlkLeO,BlkLe,atN,look,Fm.get,cpσ,SC.renL,SC.ren,SC.okL,SC.okN]⟩,⟨of_decide_eq_true rfl,arLe_same⟩,⟨of_decide_eq_true rfl,arLe_same⟩,⟨of_decide_eq_true rfl,arLe_same⟩,⟨of_decide_eq_true rfl,by simp [BlkLeO,BlkLe,atN,look,Fm.get,cpσ,SC.renL,SC.ren,SC.okL,SC.okN]⟩,⟨of_decide_eq_true rfl,?_⟩,⟨of_decide_eq_true rfl,fun k hk=>?_⟩,trivial⟩
   ·refine ⟨Nat.le_refl _,rfl,rfl,fun e he=>⟨?_,by simp [bfC,SC.okL,SC.okN]⟩⟩
    by_cases h:e=i
    ·subst h;simp [appAt,bfC,SC.renL,SC.ren,cpσ,take',drop',segs]
    ·have:e<i:=by have he' : e<i+1:=he;omega
     simp [appAt,this,bfC,SC.renL,SC.ren,cpσ,h]
   ·by_cases h:k=i
    ·subst h
     simp only [cpσ,atN,look,Nat.reduceEqDiff,reduceIte,Fm.get,and_self,bfO]
     exact arLe_of (Nat.le_refl _) fun e he=>by simp [appAt,arrOf_ats]
    ·have:k<i:=by have hk' : k<i+1:=hk;omega
     simp only [cpσ,atN,look,Nat.reduceEqDiff,reduceIte,Fm.get,h,this,and_self,bfO]
     exact arLe_same
  ·refine ⟨⟨of_decide_eq_true rfl,arrLe_of⟩,⟨of_decide_eq_true rfl,arrLe_of⟩,⟨of_decide_eq_true rfl,arrLe_of⟩,⟨of_decide_eq_true rfl,⟨rfl,rfl,fun e _=>⟨by simp [nestF,SC.renL,SC.ren,cpσ],by simp [nestF,SC.okL,SC.okN]⟩,Nat.le_refl _⟩⟩,⟨of_decide_eq_true rfl,fun k hk=>?_⟩,trivial⟩
   simp only [cpσ,atN,look,Nat.reduceEqDiff,reduceIte,Fm.get,hk,and_self]
   exact arrLe_of
  ·exact cpσ_inj (fun k hk=>by simp [keysL] at hk;omega) rfl (by decide) (by decide) (by decide) (by decide)
 ·rw [decide_eq_false_iff_not] at hge
  have hin:i=s.bufs.length:=by omega
  subst hin
  refine retN (fun j=>if j<3 then j+7 else j+8) (fun b=>⟨?_,?_⟩) (fun b=>?_) (fun b=>?_)
  ·simp [stC,SV.ren,SC.renL,SC.ren,fromσ]
  ·simp [stC,SV.okN,SC.okL,SC.okN,NewIds]
  ·refine ⟨⟨⟨by omega,by omega⟩,?_⟩,⟨⟨by omega,by omega⟩,?_⟩,⟨⟨by omega,by omega⟩,?_⟩,⟨⟨by omega,by omega⟩,?_⟩,⟨⟨by omega,by omega⟩,fun k hk=>?_⟩,trivial⟩
   ·simp only [fromσ,Nat.sub_self,Nat.zero_add,atN,look,Nat.reduceEqDiff,reduceIte,Fm.get,and_self,Nat.reduceLT,Nat.reduceAdd];exact arLe_same
   ·simp only [fromσ,Nat.add_sub_cancel_left,Nat.reduceAdd,atN,look,Nat.reduceEqDiff,reduceIte,Fm.get,and_self,Nat.reduceLT];exact arLe_same
   ·simp only [fromσ,Nat.add_sub_cancel_left,Nat.reduceAdd,atN,look,Nat.reduceEqDiff,reduceIte,Fm.get,and_self,Nat.reduceLT];exact arLe_same
   ·simp only [fromσ,Nat.add_sub_cancel_left,Nat.reduceAdd,atN,look,Nat.reduceEqDiff,reduceIte,Fm.get,and_self,Nat.reduceLT]
    exact ⟨Nat.le_refl _,rfl,rfl,fun e he=>⟨by simp [bfC,SC.renL,SC.ren,fromσ],by simp [bfC,SC.okL,SC.okN,NewIds]⟩⟩
   ·simp only [fromσ,Nat.add_sub_cancel_left,Nat.reduceAdd,atN,look,Nat.reduceEqDiff,reduceIte,Fm.get,hk,and_self,bfO,Nat.reduceLT];exact arLe_same
  ·exact injN_from fun x hx y hy e=>by
    simp [stO,keysL] at hx hy
    (try simp only at e);(try split at e <;> try split at e);all_goals omega
end Go.Proofs.Ytmcpdafmkkjlcaa.Z
namespace Go.Proofs.Ytmcpdafmkkjlcaa.Z
open Go Go.RowKit
def InT (tmps:List (Nat×SV)):List Nat→List SV→Prop
 | [],[]=>True
 | t :: ts,v :: vs=>look tmps t=some v∧InT tmps ts vs
 | _,_=>False
theorem inT_den {B:Nat} {W:Nat→Prop} {w0:World} {E:Env} {S:St} {a:Act} {w:World} (hs:Sat B W w0 E S a w):∀ {ts:List Nat} {vs:List SV},InT S.tmps ts vs→vs.map (SV.den E)=ts.map fun t=>a.tmps.getD t undef
 | [],[],_=>rfl
 | t :: ts,v :: vs,h=>by rw [List.map_cons,List.map_cons,inT_den hs h.2,(hs.tmps t v h.1).2]
 | [],_ :: _,h=>h.elim
 | _ :: _,[],h=>h.elim
theorem call_leT {C:Ctx} {S S' : St} {f:Nat} {vs vs' : List SV} {dst:Option Nat} {K:St→Prop} (ts:List Nat) (hle:Le C S S') (hv:InT S.tmps ts vs) (hv' : InT S'.tmps ts vs') (h:CallVC C f vs' dst S' K):CallVC C f vs dst S K:=by
 intro E a w hs
 obtain ⟨E',hs'⟩:=hle E a w hs
 have e:vs.map (SV.den E)=vs'.map (SV.den E'):=by rw [inT_den hs.sat hv,inT_den hs'.sat hv']
 rw [e]
 exact h E' a w hs'
theorem st_retE {P:Program} {A:List Nat} {w:World} {rs:List RS} {s:LS} {S:St} {T:Nat→SV} {v:SV} (n:Nat) (hn:10<n) (hv:∀ b,v=(T b).ren (fromσ b fun j=>if j=4 then n else j+6)∧(T b).okN (NewIds b 5))
  (h6:look S.own 6=some (.one (.ar s.words.length 1 (ats eI s.words 0) 3))) (h7:look S.own 7=some (.one (.ar s.regs.length 4 (ats R4.enc s.regs r40) 68))) (h8:look S.own 8=some (.one (.ar s.places.length 1 (ats eI s.places 0) 3)))
  (h9:look S.own 9=some (.one (.ar s.bufs.length 1 (bfC n s) 86))) (h10:look S.own n=some (.fam s.bufs.length (bfO s))):RetVC (mkC P A w rs (RetN w 5 T (fun b=>stO b s))) v S:=by
 refine retN (fun j=>if j=4 then n else j+6) hv (fun b=>?_) (fun b=>?_)
 ·refine ⟨⟨⟨by omega,by omega⟩,?_⟩,⟨⟨by omega,by omega⟩,?_⟩,⟨⟨by omega,by omega⟩,?_⟩,⟨⟨by omega,by omega⟩,?_⟩,⟨⟨by omega,by omega⟩,fun k hk=>?_⟩,trivial⟩
  ·simp only [fromσ,Nat.sub_self,Nat.reduceEqDiff,reduceIte,Nat.zero_add,atN,h6,Fm.get,and_self,if_true];exact arLe_same
  ·simp only [fromσ,Nat.add_sub_cancel_left,Nat.reduceEqDiff,reduceIte,Nat.reduceAdd,atN,h7,Fm.get,and_self,if_true];exact arLe_same
  ·simp only [fromσ,Nat.add_sub_cancel_left,Nat.reduceEqDiff,reduceIte,Nat.reduceAdd,atN,h8,Fm.get,and_self,if_true];exact arLe_same
  ·simp only [fromσ,Nat.add_sub_cancel_left,Nat.reduceEqDiff,reduceIte,Nat.reduceAdd,atN,h9,Fm.get,and_self,if_true]
   exact ⟨Nat.le_refl _,rfl,rfl,fun e he=>⟨by simp [bfC,SC.renL,SC.ren,fromσ],by simp [bfC,SC.okL,SC.okN,NewIds]⟩⟩
  ·simp only [fromσ,Nat.add_sub_cancel_left,Nat.reduceEqDiff,reduceIte,Nat.reduceAdd,atN,h10,Fm.get,hk,and_self,if_true];exact arLe_same
 ·exact injN_from fun x hx y hy e=>by
   simp [stO,keysL] at hx hy
   split at e <;> split at e <;> omega
theorem belongs_wf {L:Lt} {o:Int} {s:LS} (h:belongsB L o s=true):WfS L o 10 s:=by
 obtain ⟨⟨h1,h2,h3,h4⟩,h5⟩:=belongs_iff.1 h
 refine ⟨h1,h2,h3,h4,fun t ht=>?_⟩
 obtain ⟨⟨g1,g2,g3,g4⟩,g5⟩:=h5 t ht
 refine ⟨g1,g2,g3,fun ho=>List.eq_nil_of_length_eq_zero (g4 ho),fun p hp=>?_⟩
 obtain ⟨i,hi,rfl⟩:=List.getElem_of_mem hp
 have:=g5 i hi
 rwa [List.getD_eq_getElem?_getD,List.getElem?_eq_getElem hi,Option.getD_some] at this
theorem arr_ltA {p:Nat→Prop} {τ:Nat→Nat} {L:Lt} {arrs:List (Nat×Fm ArrF)} (hp:∀ i,i<3→p i) (hτ:∀ i,i<3→τ i=i) (h0:look arrs 0=some (.one (arrOf eI 1 L.words 0))) (h1:look arrs 1=some (.one (nestF 2 L.thr.length))) (h2:look arrs 2=some (.fam L.thr.length fun k=>arrOf Ins.enc 7 (L.thr.getD k []) in0)):ArrsLe p (idσ τ) arrs (ltA 0 L):=by
 have t0:=hτ 0 (by decide);have t1:=hτ 1 (by decide);have t2:=hτ 2 (by decide)
 have p0:=hp 0 (by decide);have p1:=hp 1 (by decide);have p2:=hp 2 (by decide)
 simp +contextual [ltA,ArrsLe,ArrLeO,atN,look,Fm.get,idσ,arrLe_of,arrLe_0,arrLe_nest,t0,t1,t2,p0,p1,p2,h0,h1,h2]
noncomputable def nxE (L:Lt) (o:Int) (s:LS):Int:=if checkB L=true then (if 1≤o∧o≤3 then (if belongsB L o s=true then 0 else 2) else 191) else 190
def nxT (s:LS) (d:Bool) (b:Nat):SV:=.tup [(true,stC b s),(false,[.bo d]),(false,[.v (.int .i64 0)])]
def nilN (e:Int):SV:=.tup [(true,[.v (.slice none 0 0),.v (.slice none 0 0),.v (.slice none 0 0),.v (.slice none 0 0)]),(false,[.v (.bool false)]),(false,[.v (.int .i64 e)])]
def nilM (e:Int):Value:=.tuple #[.agg #[.slice none 0 0,.slice none 0 0,.slice none 0 0,.slice none 0 0],.bool false,.int .i64 e]
theorem nilN_den (e:Int) (E:Env):(nilN e).den E=nilM e:=by simp [nilN,nilM,SV.den,SC.den,den1]
theorem st_at {C:Ctx} {E:Env} {S:St} {a:Act} {w:World} (hs:Sat C.B C.W C.w0 E S a w) {s:LS} (i:Nat) (h0:look S.arrs i=some (.one (arrOf eI 1 s.words 0))) (h1:look S.arrs (i+1)=some (.one (arrOf R4.enc 4 s.regs r40))) (h2:look S.arrs (i+2)=some (.one (arrOf eI 1 s.places 0))) (h3:look S.arrs (i+3)=some (.one (nestF (i+4) s.bufs.length))) (h4:look S.arrs (i+4)=some (.fam s.bufs.length fun k=>arrOf Pd.enc 2 (s.bufs.getD k []) pd0)):StR w ((SV.agg (stS i)).den E) s :=
 ⟨_,_,_,_,by simp [stS,SV.den,SC.den],arr_at (d:=0) hs i (by simp [atN,h0,Fm.get];rfl),arr_at (d:=r40) hs (i+1) (by simp [atN,h1,Fm.get];rfl),arr_at (d:=0) hs (i+2) (by simp [atN,h2,Fm.get];rfl),nest_at hs (d:=pd0) (i+3,0,0) (i+4) (by simp [atN,h3,Fm.get];rfl) (fun k hk=>by simp [atN,h4,Fm.get,hk];rfl)⟩
def ir22:IR:=(.seq (.ops [⟨(some 4),(.box 25 (.t 0)),none⟩,⟨(some 6),(.box 32 (.t 2)),none⟩,⟨(some 7),(.box 44 (.t 3)),none⟩,⟨(some 8),(.new 32 [(.v (.slice none 0 0)),(.v (.slice none 0 0)),(.v (.slice none 0 0)),(.v (.slice none 0 0))]),none⟩,⟨(some 9),(.mv (.k (.c (.v (.bool false))))),none⟩,⟨(some 10),(.mv (.k (.c (.v (.int .i64 0))))),none⟩]) (.kill [0,2,3,5,9,10,11] (.seq (.seq (.ops [⟨(some 14),(.ld true 2 (.t 4)),none⟩,⟨(some 15),(.mv (.t 1)),none⟩,⟨(some 16),(.call 39 [(.t 14),(.t 15)]),none⟩,⟨(some 11),(.mv (.t 16)),none⟩]) (.kill [14,15,16] (.seq (.ops [⟨(some 17),(.mv (.t 11)),none⟩,⟨(some 18),(.bin .neq (.t 17) (.k (.c (.v (.int .i64 0))))),none⟩]) (.kill [17] (.cond (.t 18) (.seq (.ops [⟨(some 19),(.build [(.v (.slice none 0 0)),(.v (.slice none 0 0)),(.v (.slice none 0 0)),(.v (.slice none 0 0))] []),none⟩,⟨(some 20),(.mv (.t 11)),none⟩,⟨none,(.st 4 (.t 8) (.t 19)),none⟩,⟨(some 9),(.mv (.k (.c (.v (.bool false))))),none⟩,⟨(some 10),(.mv (.t 20)),none⟩]) (.kill [1,4,6,7,11,18,19,20] .ret)) .skip))))) (.kill [9,10,11,18] (.seq (.seq (.ops [⟨(some 21),(.ld true 2 (.t 4)),none⟩,⟨(some 22),(.mv (.t 1)),none⟩,⟨(some 23),(.ld true 4 (.t 6)),none⟩,⟨(some 24),(.call 45 [(.t 21),(.t 22),(.t 23)]),none⟩,⟨(some 25),(.un .not (.t 24)),none⟩]) (.kill [21,22,23,24] (.cond (.t 25) (.seq (.ops [⟨(some 26),(.build [(.v (.slice none 0 0)),(.v (.slice none 0 0)),(.v (.slice none 0 0)),(.v (.slice none 0 0))] []),none⟩,⟨none,(.st 4 (.t 8) (.t 26)),none⟩,⟨(some 9),(.mv (.k (.c (.v (.bool false))))),none⟩,⟨(some 10),(.mv (.k (.c (.v (.int .i64 2))))),none⟩]) (.kill [1,4,6,7,25,26] .ret)) .skip))) (.kill [9,10,25] (.seq (.ops [⟨(some 27),(.ld true 4 (.t 6)),none⟩,⟨(some 28),(.call 46 [(.t 27)]),none⟩,⟨(some 12),(.new 32 [(.v (.slice none 0 0)),(.v (.slice none 0 0)),(.v (.slice none 0 0)),(.v (.slice none 0 0))]),none⟩,⟨none,(.st 4 (.t 12) (.t 28)),none⟩]) (.kill [6,27,28] (.seq (.ops [⟨(some 29),(.ld true 2 (.t 4)),none⟩,⟨(some 30),(.mv (.t 1)),none⟩,⟨(some 31),(.ld true 3 (.t 7)),none⟩,⟨(some 32),(.call 40 [(.t 29),(.t 30),(.t 12),(.t 31)]),none⟩,⟨(some 13),(.mv (.t 32)),none⟩]) (.kill [1,4,7,29,30,31,32] (.seq (.ops [⟨(some 33),(.ld true 4 (.t 12)),none⟩,⟨(some 34),(.mv (.t 13)),none⟩,⟨none,(.st 4 (.t 8) (.t 33)),none⟩,⟨(some 9),(.mv (.t 34)),none⟩,⟨(some 10),(.mv (.k (.c (.v (.int .i64 0))))),none⟩]) (.kill [12,13,33,34] .ret))))))))))))
def rs22:List RS:=[(.cell 8 true 4),(.t 9),(.t 10)]
def nt22:Nat:=35
set_option maxRecDepth 100000 in
set_option maxHeartbeats 1000000 in
theorem next_calls (w:World) (v v' : Value) (L:Lt) (o:Int) (s:LS) (t:Tn) (hL:checkB L=true) (hok:LtOk L) (ho:1≤o∧o≤3) (hb:belongsB L o s=true) (hsz:LsSz s) (h:LtR w v L) (h' : StR w v' s):Calls Try.prog 22 #[v,.int .i64 o,v',.agg t.enc.toArray] w (RetN w 5 (nxT (turnS L o s t).1 (turnS L o s t).2) (fun b=>stO b (turnS L o s t).1)):=by
 refine enterLtSt (A:=[]) (c:=ir22) (rs:=rs22) (nt:=nt22) h h' [.agg (ltS 0),.c (.v (.int .i64 o)),.agg (stS 3),.agg (t.enc.map .v)] _ Try.func22 rfl (by kernel_rfl) (by kernel_rfl) rfl (fun E' h0 h1=>by simp only [List.map_cons,List.map_nil,h0,h1];simp [SV.den,SC.den,Tn.enc]) (of_decide_eq_true rfl) ?_
 generalize hR:RetN w 5 (nxT (turnS L o s t).1 (turnS L o s t).2) (fun b=>stO b (turnS L o s t).1)=R
 simp (maxSteps:=2000000) only [ir22,nt22,rs22,go_sem,↓reduceIte,Nat.reduceLT,Nat.reduceLeDiff,Nat.reduceAdd,Nat.reduceSub,Nat.reduceMul,Nat.reduceEqDiff,reduceCtorEq,Int.reduceToNat,Int.reduceEq,Int.reduceBEq,Int.reduceBNe,Int.reduceLT,Int.reduceLE,Int.reduceNeg,Int.reduceAdd,Int.reduceSub,Int.reduceMul,Int.reduceGE,Int.reduceGT,endO,ltA,ltS,stA,stS,Tn.enc]
 refine callV (.c (.v (.int .i64 0))) _ (fun E=>rfl) (fun E a w' hs=>by
  have:=look_calls w' _ L o hok (ltL_at hs rfl rfl rfl)
  rw [if_pos hL,if_pos ho] at this
  exact this) ?_
 simp (maxSteps:=2000000) only [go_sem,↓reduceIte,Nat.reduceLT,Nat.reduceLeDiff,Nat.reduceAdd,Nat.reduceSub,Nat.reduceMul,Nat.reduceEqDiff,reduceCtorEq,Int.reduceToNat,Int.reduceEq,Int.reduceBEq,Int.reduceBNe,Int.reduceLT,Int.reduceLE,Int.reduceNeg,Int.reduceAdd,Int.reduceSub,Int.reduceMul,Int.reduceGE,Int.reduceGT,endO]
 refine callV (.c (.v (.bool true))) _ (fun E=>rfl) (fun E a w' hs=>by
  have:=belongs_calls w' _ _ L o s hL (ltL_at hs rfl rfl rfl) (st_at hs 3 rfl rfl rfl rfl rfl)
  rw [hb] at this
  exact this) ?_
 simp (maxSteps:=2000000) only [go_sem,↓reduceIte,Nat.reduceLT,Nat.reduceLeDiff,Nat.reduceAdd,Nat.reduceSub,Nat.reduceMul,Nat.reduceEqDiff,reduceCtorEq,Int.reduceToNat,Int.reduceEq,Int.reduceBEq,Int.reduceBNe,Int.reduceLT,Int.reduceLE,Int.reduceNeg,Int.reduceAdd,Int.reduceSub,Int.reduceMul,Int.reduceGE,Int.reduceGT,endO]
 refine callN 5 (fun b=>.agg (stC b s)) (fun b=>stO b s) (fun E a w' hs=>icopy_calls w' _ s hsz (st_at hs 3 rfl rfl rfl rfl rfl)) ?_
 simp (maxSteps:=2000000) only [go_sem,↓reduceIte,Nat.reduceLT,Nat.reduceLeDiff,Nat.reduceAdd,Nat.reduceSub,Nat.reduceMul,Nat.reduceEqDiff,reduceCtorEq,Int.reduceToNat,Int.reduceEq,Int.reduceBEq,Int.reduceBNe,Int.reduceLT,Int.reduceLE,Int.reduceNeg,Int.reduceAdd,Int.reduceSub,Int.reduceMul,Int.reduceGE,Int.reduceGT,endO,stO,stC]
 have hwf:=belongs_wf hb
 refine call_leT (S':=⟨35,[(8,.c (.ptr (11,0,0) 0)),(12,.c (.ptr (5,0,0) 0)),(29,.agg (ltS 0)),(30,.c (.v (.int .i64 o))),(31,.agg (t.enc.map .v))],stP s++[(11,.one (.bk [.v (.slice none 0 0),.v (.slice none 0 0),.v (.slice none 0 0),.v (.slice none 0 0)] 32))],ltA 0 L,[],18⟩) (vs':=[.agg (ltS 0),.c (.v (.int .i64 o)),.c (.ptr (5,0,0) 0),.agg (t.enc.map .v)]) [29,30,12,31]
  ?_ ⟨rfl,rfl,rfl,rfl,trivial⟩ ⟨rfl,rfl,rfl,rfl,trivial⟩ ?_
 ·refine le_ren (fun i=>if i=5 then 17 else if i=11 then 11 else if 6≤i then (if i≤10 then i+6 else i) else i) rfl rfl (by simp [TmpsLe,look,SV.ren,SC.ren,SC.renL,idσ,SV.okN,SC.okN,SC.okL,ltS,Tn.enc]) ?_ (arr_ltA (p:=(· < 18)) (fun i h=>Nat.lt_of_lt_of_le h (show 3≤18 by decide)) (fun i h=>by rw [if_neg (by omega),if_neg (by omega),if_neg (by omega)]) rfl rfl rfl) rfl
  simp +contextual [stP,stO,stC,OwnLe,BlkLeO,BlkLe,atN,look,Fm.get,idσ,SC.renL,SC.ren,SC.okL,SC.okN,renL_v,okL_v,ren_ats,ok_ats,bfC,bfO]
 refine call_intro (cr_own 11 (stP s) (ltA 0 L) (show 11≤18 by decide) (stP_plain _) (stP_le (fun i h=>h) (fun _ _=>rfl) rfl rfl rfl rfl rfl rfl) (by simp +contextual [ltA,ArrsLe,ArrLeO,atN,look,Fm.get,idσ,arrLe_of,arrLe_0,arrLe_nest]) stE_key (fun E w h=>iturn_own w E L o _ t 10 hL hwf (by omega) h)) (lt11 (show 11≤18 by decide)) ?_
 generalize turnS L o s t=q at hR ⊢
 simp (maxSteps:=2000000) only [go_sem,↓reduceIte,Nat.reduceLT,Nat.reduceLeDiff,Nat.reduceAdd,Nat.reduceSub,Nat.reduceMul,Nat.reduceEqDiff,reduceCtorEq,Int.reduceToNat,Int.reduceEq,Int.reduceBEq,Int.reduceBNe,Int.reduceLT,Int.reduceLE,Int.reduceNeg,Int.reduceAdd,Int.reduceSub,Int.reduceMul,Int.reduceGE,Int.reduceGT,endO,killO,stE,stC,stP,stO,ltA,ltS,Tn.enc]
 rw [← hR]
 exact st_retE 18 (by decide) (fun b=>by simp [nxT,stC,SV.ren,SC.ren,SC.renL,ren1L,ren1,fromσ,SV.okN,SC.okN,SC.okL,ok1L,NewIds]) rfl rfl rfl rfl rfl
set_option maxRecDepth 100000 in
set_option maxHeartbeats 1000000 in
theorem next_err (w:World) (v v' : Value) (L:Lt) (o:Int) (s:LS) (t:Tn) (hok:LtOk L) (he:nxE L o s≠0) (h:LtR w v L) (h' : StR w v' s):Calls Try.prog 22 #[v,.int .i64 o,v',.agg t.enc.toArray] w (RetV w (nilM (nxE L o s))):=by
 refine enterLtSt (A:=[]) (c:=ir22) (rs:=rs22) (nt:=nt22) h h' [.agg (ltS 0),.c (.v (.int .i64 o)),.agg (stS 3),.agg (t.enc.map .v)] _ Try.func22 rfl (by kernel_rfl) (by kernel_rfl) rfl (fun E' h0 h1=>by simp only [List.map_cons,List.map_nil,h0,h1];simp [SV.den,SC.den,Tn.enc]) (of_decide_eq_true rfl) ?_
 unfold nxE at he ⊢
 simp (maxSteps:=2000000) only [ir22,nt22,rs22,go_sem,↓reduceIte,Nat.reduceLT,Nat.reduceLeDiff,Nat.reduceAdd,Nat.reduceSub,Nat.reduceMul,Nat.reduceEqDiff,reduceCtorEq,Int.reduceToNat,Int.reduceEq,Int.reduceBEq,Int.reduceBNe,Int.reduceLT,Int.reduceLE,Int.reduceNeg,Int.reduceAdd,Int.reduceSub,Int.reduceMul,Int.reduceGE,Int.reduceGT,endO,ltA,ltS,stA,stS,Tn.enc]
 by_cases hL:checkB L=true
 ·rw [if_pos hL] at he ⊢
  by_cases ho:1≤o∧o≤3
  ·rw [if_pos ho] at he ⊢
   by_cases hb:belongsB L o s=true
   ·rw [if_pos hb] at he;exact absurd rfl he
   rw [if_neg hb]
   refine callV (.c (.v (.int .i64 0))) _ (fun E=>rfl) (fun E a w' hs=>by
    have:=look_calls w' _ L o hok (ltL_at hs rfl rfl rfl)
    rw [if_pos hL,if_pos ho] at this
    exact this) ?_
   simp (maxSteps:=2000000) only [go_sem,↓reduceIte,Nat.reduceLT,Nat.reduceLeDiff,Nat.reduceAdd,Nat.reduceSub,Nat.reduceMul,Nat.reduceEqDiff,reduceCtorEq,Int.reduceToNat,Int.reduceEq,Int.reduceBEq,Int.reduceBNe,Int.reduceLT,Int.reduceLE,Int.reduceNeg,Int.reduceAdd,Int.reduceSub,Int.reduceMul,Int.reduceGE,Int.reduceGT,endO]
   refine callV (.c (.v (.bool false))) _ (fun E=>rfl) (fun E a w' hs=>by
    have:=belongs_calls w' _ _ L o s hL (ltL_at hs rfl rfl rfl) (st_at hs 3 rfl rfl rfl rfl rfl)
    rw [Bool.eq_false_iff.2 hb] at this
    exact this) ?_
   simp (maxSteps:=2000000) only [go_sem,↓reduceIte,Nat.reduceLT,Nat.reduceLeDiff,Nat.reduceAdd,Nat.reduceSub,Nat.reduceMul,Nat.reduceEqDiff,reduceCtorEq,Int.reduceToNat,Int.reduceEq,Int.reduceBEq,Int.reduceBNe,Int.reduceLT,Int.reduceLE,Int.reduceNeg,Int.reduceAdd,Int.reduceSub,Int.reduceMul,Int.reduceGE,Int.reduceGT,endO]
   exact retV fun E=>nilN_den 2 E
  ·rw [if_neg ho]
   refine callV (.c (.v (.int .i64 191))) _ (fun E=>rfl) (fun E a w' hs=>by
    have:=look_calls w' _ L o hok (ltL_at hs rfl rfl rfl)
    rw [if_pos hL,if_neg ho] at this
    exact this) ?_
   simp (maxSteps:=2000000) only [go_sem,↓reduceIte,Nat.reduceLT,Nat.reduceLeDiff,Nat.reduceAdd,Nat.reduceSub,Nat.reduceMul,Nat.reduceEqDiff,reduceCtorEq,Int.reduceToNat,Int.reduceEq,Int.reduceBEq,Int.reduceBNe,Int.reduceLT,Int.reduceLE,Int.reduceNeg,Int.reduceAdd,Int.reduceSub,Int.reduceMul,Int.reduceGE,Int.reduceGT,endO]
   exact retV fun E=>nilN_den 191 E
 ·rw [if_neg hL]
  refine callV (.c (.v (.int .i64 190))) _ (fun E=>rfl) (fun E a w' hs=>by
   have:=look_calls w' _ L o hok (ltL_at hs rfl rfl rfl)
   rw [if_neg hL] at this
   exact this) ?_
  simp (maxSteps:=2000000) only [go_sem,↓reduceIte,Nat.reduceLT,Nat.reduceLeDiff,Nat.reduceAdd,Nat.reduceSub,Nat.reduceMul,Nat.reduceEqDiff,reduceCtorEq,Int.reduceToNat,Int.reduceEq,Int.reduceBEq,Int.reduceBNe,Int.reduceLT,Int.reduceLE,Int.reduceNeg,Int.reduceAdd,Int.reduceSub,Int.reduceMul,Int.reduceGE,Int.reduceGT,endO]
  exact retV fun E=>nilN_den 190 E
end Go.Proofs.Ytmcpdafmkkjlcaa.Z
