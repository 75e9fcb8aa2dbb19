/- TsoClassicsSaid: what its proof is made of. No condition. -/
import Derived.Test.YtmcpdafmkkjlcaaPkTTsoClassicsAG
set_option linter.unusedSimpArgs false
set_option linter.unusedVariables false
namespace Go.Proofs.Ytmcpdafmkkjlcaa.Z
open Go Go.RowKit
attribute [go_sem] nestF_len nestF_size nestF_at
theorem arrLe_nest {p:Nat→Prop} {τ:Nat→Nat} {i n lw:Nat} (hp:p i) (hτ:τ i=i):ArrLe p (idσ τ) (nestF i n lw) (nestF i n lw):=by
 refine ⟨rfl,rfl,fun e _=>⟨?_,?_⟩,Nat.le_refl _⟩
 ·simp [nestF,SC.renL,SC.ren,idσ,hτ]
 ·simp [nestF,SC.okL,SC.okN,hp]
def LtR (w:World) (v:Value) (L:Lt):Prop:=∃ vw vt,v = .agg #[vw,vt]∧Arr w eI 1 vw L.words∧Nest w Ins.enc 7 vt L.thr
def ltA (i:Nat) (L:Lt):List (Nat×Fm ArrF):=[(i,.one (arrOf eI 1 L.words 0)),(i+1,.one (nestF (i+2) L.thr.length)),(i+2,.fam L.thr.length fun k=>arrOf Ins.enc 7 (L.thr.getD k []) in0)]
def ltS (i:Nat):List SC:=[.xv (i,0,0),.xv (i+1,0,0)]
theorem enterLt {P:Program} {A:List Nat} {f nt:Nat} {fn:Func} {x:Code} {c:IR} {w:World} {rs:List RS} {R:Ending→World→Prop} {v:Value} {L:Lt} (h:LtR w v L) (sc:List SV) (args:Array Value)
  (hf:P.funcs[f]? = some fn) (hb:fn.body=some x) (hc:compC (mkTab P A) x=some c.strip) (hrs:compR (mkTab P A).T fn.results.toList=some rs) (hn:fn.ntmps=nt)
  (hargs:∀ E',(SV.agg (ltS 0)).den E' = v→(sc.map (SV.den E')).toArray=args) (hnt:sc.length≤nt)
  (hex:exec (mkC P A w rs R) 1000 [.code c] ⟨nt,enumT 0 sc,[],ltA 0 L,[],3⟩):Calls P f args w R:=by
 obtain ⟨vw,vt,rfl,h1,vs,h2,h3,h4⟩:=h
 refine enterL [fun _=>vw,fun _=>vt,fun k=>vs.getD k nest0] ⟨fun _=>arr_one h1,fun _=>arr_one h2,fun k=>?_,trivial⟩ (rd_one 0 0 eI_ok h1 (by simp) rfl (rd_nest 1 2 in0 in_ok h2 h3 h4 (by simp) (by simp) rfl (fun _=>rfl) rd_nil)) sc args hf hb hc hrs hn (fun E' hE'=>hargs E' ?_) hnt hex
 ·by_cases hk:k<L.thr.length
  ·exact arr_one (h4 k hk)
  ·show (vs.getD k nest0).oneCell' = true
   rw [List.getD_eq_getElem?_getD,List.getElem?_eq_none (by omega)];rfl
 ·have e0:=hE' 0 0 0 (by simp)
  have e1:=hE' 1 0 0 (by simp)
  simp only [ltS,SV.den,List.map_cons,List.map_nil,SC.den,e0,e1]
  rfl
theorem lt_at {C:Ctx} {E:Env} {S:St} {a:Act} {w:World} (hs:Sat C.B C.W C.w0 E S a w) {L:Lt} (i:Nat) {lw lv:Nat} {lf:Nat→Nat} (h0:atN S.arrs (i,0,0)=some (arrOf eI 1 L.words 0 lv)) (h1:atN S.arrs (i+1,0,0)=some (nestF (i+2) L.thr.length lw)) (h2:∀ k,k<L.thr.length→atN S.arrs (i+2,k,0)=some (arrOf Ins.enc 7 (L.thr.getD k []) in0 (lf k))):LtR w ((SV.agg (ltS i)).den E) L :=
 ⟨E.χ (i,0,0),E.χ (i+1,0,0),by simp [ltS,SV.den,SC.den],arr_at (d:=0) hs i h0,nest_at hs (i+1,0,0) (i+2) h1 h2⟩
def ir72:IR:=(.seq (.ops [⟨(some 4),(.mv (.k (.c (.v (.bool false))))),none⟩]) (.kill [2,3,4,5,6,7,8,9,10,11] (.seq (.ops [⟨(some 5),(.mv (.t 0)),none⟩,⟨(some 6),(.bin .geq (.t 5) (.k (.c (.v (.int .i64 0))))),none⟩,⟨(some 7),(.mv (.t 6)),none⟩,⟨(some 8),(.mv (.t 0)),(some (7,true))⟩,⟨(some 9),(.mv (.t 1)),(some (7,true))⟩,⟨(some 10),(.bin .lss (.t 8) (.t 9)),(some (7,true))⟩,⟨(some 11),(.pick (.t 7) (.t 10) (.k (.c (.v (.bool false))))),none⟩,⟨(some 4),(.mv (.t 11)),none⟩]) (.kill [0,1,5,6,7,8,9,10,11] .ret))))
def rs72:List RS:=[(.t 4)]
def nt72:Nat:=12
def ir42:IR:=(.seq (.ops [⟨(some 2),(.box 25 (.t 0)),none⟩,⟨(some 3),(.box 83 (.t 1)),none⟩,⟨(some 4),(.mv (.k (.c (.v (.bool false))))),none⟩]) (.kill [0,1,4,5,6,7,8,9,10,11] (.seq (.draw [(⟨(some 7),(.fa 1 (.t 3)),none⟩,([],[10,11,12,13,14])),(⟨(some 8),(.ld false 1 (.t 7)),none⟩,([],[10,11,12,13,14])),(⟨(some 9),(.call 72 [(.t 8),(.k (.c (.v (.int .i64 4))))]),none⟩,([],[10,11,12,13,14])),(⟨(some 10),(.fa 2 (.t 3)),none⟩,([0,1,2],[7,8,9,12,13,14])),(⟨(some 11),(.ld false 1 (.t 10)),none⟩,([0,1,2],[7,8,9,12,13,14])),(⟨(some 12),(.fa 0 (.t 2)),none⟩,([0,1,2,3,4],[7,8,9,10,11])),(⟨(some 13),(.ld false 1 (.t 12)),none⟩,([0,1,2,3,4],[7,8,9,10,11])),(⟨(some 14),(.len (.t 13)),none⟩,([0,1,2,3,4],[7,8,9,10,11])),(⟨(some 15),(.call 72 [(.t 11),(.t 14)]),none⟩,([],[])),(⟨(some 5),(.mv (.t 9)),none⟩,([],[])),(⟨(some 6),(.mv (.t 15)),none⟩,([],[]))]) (.kill [2,7,8,9,10,11,12,13,14,15] (.seq (.seq (.ops [⟨(some 16),(.fa 0 (.t 3)),none⟩,⟨(some 17),(.ld false 1 (.t 16)),none⟩]) (.kill [16] (.blk 0 (.seq (.seq (.ops [⟨(some 19),(.bin .eql (.t 17) (.k (.c (.v (.int .i64 1))))),none⟩,⟨(some 18),(.mv (.t 19)),none⟩]) (.kill [19] (.cond (.t 18) .skip (.ops [⟨(some 20),(.bin .eql (.t 17) (.k (.c (.v (.int .i64 3))))),none⟩,⟨(some 18),(.mv (.t 20)),none⟩])))) (.kill [20] (.cond (.t 18) (.seq (.ops [⟨(some 21),(.mv (.t 5)),none⟩,⟨(some 22),(.mv (.t 21)),none⟩,⟨(some 23),(.mv (.t 6)),(some (22,true))⟩,⟨(some 24),(.pick (.t 22) (.t 23) (.k (.c (.v (.bool false))))),none⟩,⟨(some 4),(.mv (.t 24)),none⟩]) (.kill [3,5,6,17,18,21,22,23,24] .ret)) (.seq (.ops [⟨(some 26),(.bin .eql (.t 17) (.k (.c (.v (.int .i64 2))))),none⟩,⟨(some 25),(.mv (.t 26)),none⟩]) (.kill [18,26] (.cond (.t 25) (.seq (.ops [⟨(some 27),(.mv (.t 6)),none⟩,⟨(some 28),(.mv (.t 27)),none⟩,⟨(some 29),(.fa 4 (.t 3)),(some (28,true))⟩,⟨(some 30),(.ld false 1 (.t 29)),(some (28,true))⟩,⟨(some 31),(.bin .add (.t 30) (.k (.c (.v (.int .i64 1))))),(some (28,true))⟩,⟨(some 32),(.call 72 [(.t 31),(.k (.c (.v (.int .i64 5))))]),(some (28,true))⟩,⟨(some 33),(.pick (.t 28) (.t 32) (.k (.c (.v (.bool false))))),none⟩,⟨(some 4),(.mv (.t 33)),none⟩]) (.kill [3,5,6,17,25,27,28,29,30,31,32,33] .ret)) (.seq (.ops [⟨(some 35),(.bin .eql (.t 17) (.k (.c (.v (.int .i64 4))))),none⟩,⟨(some 34),(.mv (.t 35)),none⟩]) (.kill [6,25,35] (.cond (.t 34) (.seq (.ops [⟨(some 4),(.mv (.k (.c (.v (.bool true))))),none⟩]) (.kill [3,5,17,34] .ret)) (.seq (.seq (.ops [⟨(some 37),(.bin .eql (.t 17) (.k (.c (.v (.int .i64 5))))),none⟩,⟨(some 36),(.mv (.t 37)),none⟩]) (.kill [34,37] (.cond (.t 36) .skip (.ops [⟨(some 38),(.bin .eql (.t 17) (.k (.c (.v (.int .i64 6))))),none⟩,⟨(some 36),(.mv (.t 38)),none⟩])))) (.kill [38] (.cond (.t 36) (.seq (.ops [⟨(some 39),(.mv (.t 5)),none⟩,⟨(some 4),(.mv (.t 39)),none⟩]) (.kill [3,5,17,36,39] .ret)) (.seq (.ops [⟨(some 41),(.bin .eql (.t 17) (.k (.c (.v (.int .i64 7))))),none⟩,⟨(some 40),(.mv (.t 41)),none⟩]) (.kill [17,36,41] (.cond (.t 40) (.seq (.ops [⟨(some 42),(.mv (.t 5)),none⟩,⟨(some 43),(.mv (.t 42)),none⟩,⟨(some 44),(.fa 6 (.t 3)),(some (43,true))⟩,⟨(some 45),(.ld false 1 (.t 44)),(some (43,true))⟩,⟨(some 46),(.call 72 [(.t 45),(.k (.c (.v (.int .i64 11))))]),(some (43,true))⟩,⟨(some 47),(.pick (.t 43) (.t 46) (.k (.c (.v (.bool false))))),none⟩,⟨(some 4),(.mv (.t 47)),none⟩]) (.kill [3,5,40,42,43,44,45,46,47] .ret)) .skip)))))))))))))))))) (.kill [3,4,5,6,17,18,19,20,21,22,23,24,25,26,27,28,29,30,31,32,33,34,35,36,37,38,39,40,41,42,43,44,45,46,47] (.seq (.ops [⟨(some 4),(.mv (.k (.c (.v (.bool false))))),none⟩]) .ret)))))))
def rs42:List RS:=[(.t 4)]
def nt42:Nat:=48
set_option maxRecDepth 100000 in
set_option maxHeartbeats 400000 in
theorem withinL (w:World) (i n:Int):Calls Try.prog 72 #[.int .i64 i,.int .i64 n] w (RetV w (.bool (decide (0≤i∧i<n)))):=by
 refine enter0 (A:=[]) (c:=ir72) (rs:=rs72) (nt:=nt72) [.c (.v (.int .i64 i)),.c (.v (.int .i64 n))] #[.int .i64 i,.int .i64 n] Try.func72 rfl (by kernel_rfl) (by kernel_rfl) rfl (fun E'=>by simp [SV.den,SC.den]) (of_decide_eq_true rfl) ?_
 simp (maxSteps:=2000000) only [ir72,nt72,rs72,go_sem,↓reduceIte,Nat.reduceLT,Nat.reduceLeDiff,Nat.reduceAdd,Nat.reduceSub,Nat.reduceMul,Nat.reduceEqDiff,reduceCtorEq,Int.reduceToNat,Int.reduceEq,Int.reduceBEq,Int.reduceBNe,Int.reduceLT,Int.reduceLE,Int.reduceNeg,Int.reduceAdd,Int.reduceSub,Int.reduceMul,Int.reduceGE,Int.reduceGT,endO]
 refine retV fun E=>?_
 simp only [SV.den,SC.den,Value.bool.injEq]
 rw [Bool.eq_iff_iff]
 simp
def InR (c:Ins):Prop:=-9223372036854775808≤c.frm∧c.frm≤9223372036854775807
theorem frm_wrap {c:Ins} (h:InR c):(0≤IntKind.i64.wrap (c.frm+1)∧IntKind.i64.wrap (c.frm+1)<5)↔(-1≤c.frm∧c.frm<4):=by
 obtain ⟨h1,h2⟩:=h
 by_cases e:c.frm=9223372036854775807
 ·rw [e,show IntKind.i64.wrap ((9223372036854775807:Int)+1) = -9223372036854775808 from by decide]
  omega
 ·rw [wrI (by omega)]
  omega
set_option maxRecDepth 100000 in
set_option maxHeartbeats 400000 in
theorem fits_calls (w:World) (v:Value) (L:Lt) (c:Ins) (hr:InR c) (h:LtR w v L):Calls Try.prog 42 #[v,.agg c.enc.toArray] w (RetV w (.bool (fitsB c L.words.length))):=by
 refine enterLt (A:=[]) (c:=ir42) (rs:=rs42) (nt:=nt42) h [.agg (ltS 0),.agg (c.enc.map .v)] _ Try.func42 rfl (by kernel_rfl) (by kernel_rfl) rfl (fun E' h0=>by simp only [List.map_cons,List.map_nil,h0];simp [Ins.enc,SV.den,SC.den]) (of_decide_eq_true rfl) ?_
 have hw:=frm_wrap hr
 obtain ⟨kind,reg,addr,val,frm,old,cnt⟩:=c
 simp only at hw
 simp (maxSteps:=2000000) only [ir42,nt42,rs42,go_sem,↓reduceIte,Nat.reduceLT,Nat.reduceLeDiff,Nat.reduceAdd,Nat.reduceSub,Nat.reduceMul,Nat.reduceEqDiff,reduceCtorEq,Int.reduceToNat,Int.reduceEq,Int.reduceBEq,Int.reduceBNe,Int.reduceLT,Int.reduceLE,Int.reduceNeg,Int.reduceAdd,Int.reduceSub,Int.reduceMul,Int.reduceGE,Int.reduceGT,endO,ltA,ltS,Ins.enc]
 refine draw_vc (by kernel_rfl) (mkTab_ok _ _) (of_decide_eq_true rfl) (of_decide_eq_true rfl) ?_
 repeat (first | simp (maxSteps:=2000000) only [go_sem,↓reduceIte,Nat.reduceLT,Nat.reduceLeDiff,Nat.reduceAdd,Nat.reduceSub,Nat.reduceMul,Nat.reduceEqDiff,reduceCtorEq,Int.reduceToNat,Int.reduceEq,Int.reduceBEq,Int.reduceBNe,Int.reduceLT,Int.reduceLE,Int.reduceNeg,Int.reduceAdd,Int.reduceSub,Int.reduceMul,Int.reduceGE,Int.reduceGT,endO] | rw [dr_cons])
 refine dcallV (.c (.bo (decide (0≤reg∧reg<4)))) _ (fun E=>rfl) (fun E a w' _=>withinL w' _ _) ?_
 repeat (first | simp (maxSteps:=2000000) only [go_sem,↓reduceIte,Nat.reduceLT,Nat.reduceLeDiff,Nat.reduceAdd,Nat.reduceSub,Nat.reduceMul,Nat.reduceEqDiff,reduceCtorEq,Int.reduceToNat,Int.reduceEq,Int.reduceBEq,Int.reduceBNe,Int.reduceLT,Int.reduceLE,Int.reduceNeg,Int.reduceAdd,Int.reduceSub,Int.reduceMul,Int.reduceGE,Int.reduceGT,endO] | rw [dr_cons])
 refine dcallV (.c (.bo (decide (0≤addr∧addr<(L.words.length:Nat))))) _ (fun E=>rfl) (fun E a w' _=>withinL w' _ _) ?_
 have dn:∀ {n:Int},kind≠n→(kind == n)=false:=fun h=>by simpa using h
 by_cases k1:kind=1
 ·subst k1
  repeat (first | simp (maxSteps:=2000000) only [go_sem,↓reduceIte,Nat.reduceLT,Nat.reduceLeDiff,Nat.reduceAdd,Nat.reduceSub,Nat.reduceMul,Nat.reduceEqDiff,reduceCtorEq,Int.reduceToNat,Int.reduceEq,Int.reduceBEq,Int.reduceBNe,Int.reduceLT,Int.reduceLE,Int.reduceNeg,Int.reduceAdd,Int.reduceSub,Int.reduceMul,Int.reduceGE,Int.reduceGT,endO] | rw [dr_cons])
  exact retV fun E=>by
   simp only [SV.den,SC.den,Value.bool.injEq,fitsB,hw]
   rw [Bool.eq_iff_iff]
   simp;try omega
 by_cases k2:kind=2
 ·subst k2
  repeat (first | simp (maxSteps:=2000000) only [go_sem,↓reduceIte,Nat.reduceLT,Nat.reduceLeDiff,Nat.reduceAdd,Nat.reduceSub,Nat.reduceMul,Nat.reduceEqDiff,reduceCtorEq,Int.reduceToNat,Int.reduceEq,Int.reduceBEq,Int.reduceBNe,Int.reduceLT,Int.reduceLE,Int.reduceNeg,Int.reduceAdd,Int.reduceSub,Int.reduceMul,Int.reduceGE,Int.reduceGT,endO] | rw [dr_cons])
  refine guardW (.c (.bo (decide (0≤IntKind.i64.wrap (frm+1)∧IntKind.i64.wrap (frm+1)<5)))) _ (fun E=>rfl) (fun E a w' _=>withinL w' _ _) ?_
  simp (maxSteps:=2000000) only [go_sem,↓reduceIte,Nat.reduceLT,Nat.reduceLeDiff,Nat.reduceAdd,Nat.reduceSub,Nat.reduceMul,Nat.reduceEqDiff,reduceCtorEq,Int.reduceToNat,Int.reduceEq,Int.reduceBEq,Int.reduceBNe,Int.reduceLT,Int.reduceLE,Int.reduceNeg,Int.reduceAdd,Int.reduceSub,Int.reduceMul,Int.reduceGE,Int.reduceGT,endO]
  exact retV fun E=>by
   simp only [SV.den,SC.den,Value.bool.injEq,fitsB,hw]
   rw [Bool.eq_iff_iff]
   simp;try omega
 by_cases k3:kind=3
 ·subst k3
  repeat (first | simp (maxSteps:=2000000) only [go_sem,↓reduceIte,Nat.reduceLT,Nat.reduceLeDiff,Nat.reduceAdd,Nat.reduceSub,Nat.reduceMul,Nat.reduceEqDiff,reduceCtorEq,Int.reduceToNat,Int.reduceEq,Int.reduceBEq,Int.reduceBNe,Int.reduceLT,Int.reduceLE,Int.reduceNeg,Int.reduceAdd,Int.reduceSub,Int.reduceMul,Int.reduceGE,Int.reduceGT,endO] | rw [dr_cons])
  exact retV fun E=>by
   simp only [SV.den,SC.den,Value.bool.injEq,fitsB,hw]
   rw [Bool.eq_iff_iff]
   simp;try omega
 by_cases k4:kind=4
 ·subst k4
  repeat (first | simp (maxSteps:=2000000) only [go_sem,↓reduceIte,Nat.reduceLT,Nat.reduceLeDiff,Nat.reduceAdd,Nat.reduceSub,Nat.reduceMul,Nat.reduceEqDiff,reduceCtorEq,Int.reduceToNat,Int.reduceEq,Int.reduceBEq,Int.reduceBNe,Int.reduceLT,Int.reduceLE,Int.reduceNeg,Int.reduceAdd,Int.reduceSub,Int.reduceMul,Int.reduceGE,Int.reduceGT,endO] | rw [dr_cons])
  exact retV fun E=>by
   simp only [SV.den,SC.den,Value.bool.injEq,fitsB,hw]
   rw [Bool.eq_iff_iff]
   simp;try omega
 by_cases k5:kind=5
 ·subst k5
  repeat (first | simp (maxSteps:=2000000) only [go_sem,↓reduceIte,Nat.reduceLT,Nat.reduceLeDiff,Nat.reduceAdd,Nat.reduceSub,Nat.reduceMul,Nat.reduceEqDiff,reduceCtorEq,Int.reduceToNat,Int.reduceEq,Int.reduceBEq,Int.reduceBNe,Int.reduceLT,Int.reduceLE,Int.reduceNeg,Int.reduceAdd,Int.reduceSub,Int.reduceMul,Int.reduceGE,Int.reduceGT,endO] | rw [dr_cons])
  exact retV fun E=>by
   simp only [SV.den,SC.den,Value.bool.injEq,fitsB,hw]
   rw [Bool.eq_iff_iff]
   simp;try omega
 by_cases k6:kind=6
 ·subst k6
  repeat (first | simp (maxSteps:=2000000) only [go_sem,↓reduceIte,Nat.reduceLT,Nat.reduceLeDiff,Nat.reduceAdd,Nat.reduceSub,Nat.reduceMul,Nat.reduceEqDiff,reduceCtorEq,Int.reduceToNat,Int.reduceEq,Int.reduceBEq,Int.reduceBNe,Int.reduceLT,Int.reduceLE,Int.reduceNeg,Int.reduceAdd,Int.reduceSub,Int.reduceMul,Int.reduceGE,Int.reduceGT,endO] | rw [dr_cons])
  exact retV fun E=>by
   simp only [SV.den,SC.den,Value.bool.injEq,fitsB,hw]
   rw [Bool.eq_iff_iff]
   simp;try omega
 by_cases k7:kind=7
 ·subst k7
  repeat (first | simp (maxSteps:=2000000) only [go_sem,↓reduceIte,Nat.reduceLT,Nat.reduceLeDiff,Nat.reduceAdd,Nat.reduceSub,Nat.reduceMul,Nat.reduceEqDiff,reduceCtorEq,Int.reduceToNat,Int.reduceEq,Int.reduceBEq,Int.reduceBNe,Int.reduceLT,Int.reduceLE,Int.reduceNeg,Int.reduceAdd,Int.reduceSub,Int.reduceMul,Int.reduceGE,Int.reduceGT,endO] | rw [dr_cons])
  refine guardW (.c (.bo (decide (0≤cnt∧cnt<11)))) _ (fun E=>rfl) (fun E a w' _=>withinL w' _ _) ?_
  simp (maxSteps:=2000000) only [go_sem,↓reduceIte,Nat.reduceLT,Nat.reduceLeDiff,Nat.reduceAdd,Nat.reduceSub,Nat.reduceMul,Nat.reduceEqDiff,reduceCtorEq,Int.reduceToNat,Int.reduceEq,Int.reduceBEq,Int.reduceBNe,Int.reduceLT,Int.reduceLE,Int.reduceNeg,Int.reduceAdd,Int.reduceSub,Int.reduceMul,Int.reduceGE,Int.reduceGT,endO]
  exact retV fun E=>by
   simp only [SV.den,SC.den,Value.bool.injEq,fitsB,hw]
   rw [Bool.eq_iff_iff]
   simp;try omega
 repeat (first | simp (maxSteps:=2000000) only [go_sem,↓reduceIte,Nat.reduceLT,Nat.reduceLeDiff,Nat.reduceAdd,Nat.reduceSub,Nat.reduceMul,Nat.reduceEqDiff,reduceCtorEq,Int.reduceToNat,Int.reduceEq,Int.reduceBEq,Int.reduceBNe,Int.reduceLT,Int.reduceLE,Int.reduceNeg,Int.reduceAdd,Int.reduceSub,Int.reduceMul,Int.reduceGE,Int.reduceGT,endO,dn k1,dn k2,dn k3,dn k4,dn k5,dn k6,dn k7] | rw [dr_cons])
 exact retV fun E=>by
  simp only [SV.den,SC.den,Value.bool.injEq,fitsB]
  rw [Bool.eq_iff_iff]
  simp;try omega
end Go.Proofs.Ytmcpdafmkkjlcaa.Z
namespace Go.Proofs.Ytmcpdafmkkjlcaa.Z
open Go Go.RowKit
def LtOk (L:Lt):Prop:=∀ code∈L.thr,∀ c∈code,InR c
theorem getD_memE {α:Type} {l:List α} {d:α} {k:Nat} (h:k<l.length):l.getD k d∈l:=by
 rw [List.getD_eq_getElem?_getD,List.getElem?_eq_getElem h];exact List.getElem_mem h
theorem check_iff {L:Lt}:checkB L=true↔(1≤L.thr.length∧L.thr.length≤4∧1≤L.words.length∧L.words.length≤6)∧∀ t,t<L.thr.length→(L.thr.getD t []).length≤10∧∀ i,i<(L.thr.getD t []).length→fitsB ((L.thr.getD t []).getD i in0) L.words.length=true:=by
 simp only [checkB,Bool.and_eq_true,decide_eq_true_eq,List.all_eq_true,codeB]
 refine and_congr Iff.rfl ⟨fun h t ht=>?_,fun h code hc=>?_⟩
 ·obtain ⟨h1,h2⟩:=h _ (getD_memE ht)
  exact ⟨h1,fun i hi=>h2 _ (getD_memE hi)⟩
 ·obtain ⟨t,ht,rfl⟩:=List.getElem_of_mem hc
  have:=h t ht
  rw [List.getD_eq_getElem?_getD,List.getElem?_eq_getElem ht,Option.getD_some] at this
  refine ⟨this.1,fun c hc=>?_⟩
  obtain ⟨i,hi,rfl⟩:=List.getElem_of_mem hc
  have:=this.2 i hi
  rwa [List.getD_eq_getElem?_getD,List.getElem?_eq_getElem hi,Option.getD_some] at this
theorem ltL_at {C:Ctx} {E:Env} {S:St} {a:Act} {w:World} (hs:Sat C.B C.W C.w0 E S a w) {L:Lt} (h0:look S.arrs 0=some (.one (arrOf eI 1 L.words 0))) (h1:look S.arrs 1=some (.one (nestF 2 L.thr.length))) (h2:look S.arrs 2=some (.fam L.thr.length fun k=>arrOf Ins.enc 7 (L.thr.getD k []) in0)):LtR w ((SV.agg [.xv (0,0,0),.xv (1,0,0)]).den E) L :=
 lt_at hs 0 (by simp [atN,h0,Fm.get];rfl) (by simp [atN,h1,Fm.get];rfl) (fun k hk=>by simp [atN,h2,Fm.get,hk];rfl)
def errC (b:Bool):Int:=if b=true then 0 else 190
def ir17:IR:=(.seq (.ops [⟨(some 1),(.box 25 (.t 0)),none⟩,⟨(some 2),(.mv (.k (.c (.v (.int .i64 0))))),none⟩]) (.kill [0,2,3,4,5,6,7,8,9,10,11] (.seq (.seq (.ops [⟨(some 7),(.fa 1 (.t 1)),none⟩,⟨(some 8),(.ld false 1 (.t 7)),none⟩,⟨(some 9),(.len (.t 8)),none⟩,⟨(some 10),(.bin .lss (.t 9) (.k (.c (.v (.int .i64 1))))),none⟩,⟨(some 11),(.mv (.t 10)),none⟩,⟨(some 12),(.fa 1 (.t 1)),(some (11,false))⟩,⟨(some 13),(.ld false 1 (.t 12)),(some (11,false))⟩,⟨(some 14),(.len (.t 13)),(some (11,false))⟩,⟨(some 15),(.bin .gtr (.t 14) (.k (.c (.v (.int .i64 4))))),(some (11,false))⟩,⟨(some 16),(.pick (.t 11) (.k (.c (.v (.bool true)))) (.t 15)),none⟩,⟨(some 17),(.mv (.t 16)),none⟩,⟨(some 18),(.fa 0 (.t 1)),(some (17,false))⟩,⟨(some 19),(.ld false 1 (.t 18)),(some (17,false))⟩,⟨(some 20),(.len (.t 19)),(some (17,false))⟩,⟨(some 21),(.bin .lss (.t 20) (.k (.c (.v (.int .i64 1))))),(some (17,false))⟩,⟨(some 22),(.pick (.t 17) (.k (.c (.v (.bool true)))) (.t 21)),none⟩,⟨(some 23),(.mv (.t 22)),none⟩,⟨(some 24),(.fa 0 (.t 1)),(some (23,false))⟩,⟨(some 25),(.ld false 1 (.t 24)),(some (23,false))⟩,⟨(some 26),(.len (.t 25)),(some (23,false))⟩,⟨(some 27),(.bin .gtr (.t 26) (.k (.c (.v (.int .i64 6))))),(some (23,false))⟩,⟨(some 28),(.pick (.t 23) (.k (.c (.v (.bool true)))) (.t 27)),none⟩]) (.kill [7,8,9,10,11,12,13,14,15,16,17,18,19,20,21,22,23,24,25,26,27] (.cond (.t 28) (.seq (.ops [⟨(some 2),(.mv (.k (.c (.v (.int .i64 190))))),none⟩]) (.kill [1,28] .ret)) .skip))) (.kill [2,28] (.seq (.seq (.ops [⟨(some 29),(.fa 1 (.t 1)),none⟩,⟨(some 30),(.ld false 1 (.t 29)),none⟩,⟨(some 31),(.len (.t 30)),none⟩,⟨(some 32),(.mv (.k (.c (.v (.int .i64 0))))),none⟩]) (.kill [29] (.blk 0 (.loop (.seq (.ops [⟨(some 33),(.bin .lss (.t 32) (.t 31)),none⟩]) (.kill [2,4,6,34,35,36,37,38,39,40,41,42,43,44,45,46,47,48,49,50] (.seq (.cond (.t 33) .skip (.exit 0)) (.kill [33] (.seq (.blk 1 (.seq (.ops [⟨(some 34),(.ia 1 (.t 30) (.t 32)),none⟩,⟨(some 35),(.ld false 1 (.t 34)),none⟩,⟨(some 4),(.mv (.t 35)),none⟩]) (.kill [34,35] (.seq (.seq (.ops [⟨(some 36),(.mv (.t 4)),none⟩,⟨(some 37),(.len (.t 36)),none⟩,⟨(some 38),(.bin .gtr (.t 37) (.k (.c (.v (.int .i64 10))))),none⟩]) (.kill [36,37] (.cond (.t 38) (.seq (.ops [⟨(some 2),(.mv (.k (.c (.v (.int .i64 190))))),none⟩]) (.kill [1,4,30,31,32,38] .ret)) .skip))) (.kill [2,38] (.seq (.ops [⟨(some 39),(.mv (.t 4)),none⟩,⟨(some 40),(.len (.t 39)),none⟩,⟨(some 41),(.mv (.k (.c (.v (.int .i64 0))))),none⟩]) (.kill [4] (.blk 2 (.loop (.seq (.ops [⟨(some 42),(.bin .lss (.t 41) (.t 40)),none⟩]) (.kill [2,6,43,44,45,46,47,48,49] (.seq (.cond (.t 42) .skip (.exit 2)) (.kill [42] (.seq (.blk 3 (.seq (.ops [⟨(some 43),(.ia 7 (.t 39) (.t 41)),none⟩,⟨(some 44),(.ld true 7 (.t 43)),none⟩,⟨(some 6),(.new 83 [(.v (.int .i64 0)),(.v (.int .i64 0)),(.v (.int .i64 0)),(.v (.int .i64 0)),(.v (.int .i64 0)),(.v (.int .i64 0)),(.v (.int .i64 0))]),none⟩,⟨none,(.st 7 (.t 6) (.t 44)),none⟩]) (.kill [43,44] (.seq (.ops [⟨(some 45),(.ld true 2 (.t 1)),none⟩,⟨(some 46),(.ld true 7 (.t 6)),none⟩,⟨(some 47),(.call 42 [(.t 45),(.t 46)]),none⟩,⟨(some 48),(.un .not (.t 47)),none⟩]) (.kill [6,45,46,47] (.cond (.t 48) (.seq (.ops [⟨(some 2),(.mv (.k (.c (.v (.int .i64 190))))),none⟩]) (.kill [1,30,31,32,39,40,41,48] .ret)) .skip)))))) (.kill [2,6,43,44,45,46,47,48] (.ops [⟨(some 49),(.bin .add (.t 41) (.k (.c (.v (.int .i64 1))))),none⟩,⟨(some 41),(.mv (.t 49)),none⟩])))))))))))))))) (.kill [2,4,6,34,35,36,37,38,39,40,41,42,43,44,45,46,47,48,49] (.ops [⟨(some 50),(.bin .add (.t 32) (.k (.c (.v (.int .i64 1))))),none⟩,⟨(some 32),(.mv (.t 50)),none⟩]))))))))))) (.kill [1,2,4,6,30,31,32,33,34,35,36,37,38,39,40,41,42,43,44,45,46,47,48,49,50] (.seq (.ops [⟨(some 2),(.mv (.k (.c (.v (.int .i64 0))))),none⟩]) .ret)))))))
def rs17:List RS:=[(.t 2)]
def nt17:Nat:=51
set_option maxRecDepth 100000 in
set_option maxHeartbeats 400000 in
theorem check_calls (w:World) (v:Value) (L:Lt) (hok:LtOk L) (h:LtR w v L):Calls Try.prog 17 #[v] w (RetV w (.int .i64 (errC (checkB L)))):=by
 refine enterLt (A:=[]) (c:=ir17) (rs:=rs17) (nt:=nt17) h [.agg (ltS 0)] _ Try.func17 rfl (by kernel_rfl) (by kernel_rfl) rfl (fun E' h0=>by simp only [List.map_cons,List.map_nil,h0]) (of_decide_eq_true rfl) ?_
 by_cases hsz:1≤L.thr.length∧L.thr.length≤4∧1≤L.words.length∧L.words.length≤6
 ·have d1:decide ((L.thr.length:Int)<1)=false:=decide_eq_false (by omega)
  have d2:decide ((L.thr.length:Int)>4)=false:=decide_eq_false (by omega)
  have d3:decide ((L.words.length:Int)<1)=false:=decide_eq_false (by omega)
  have d4:decide ((L.words.length:Int)>6)=false:=decide_eq_false (by omega)
  simp (maxSteps:=2000000) only [ir17,nt17,rs17,go_sem,↓reduceIte,Nat.reduceLT,Nat.reduceLeDiff,Nat.reduceAdd,Nat.reduceSub,Nat.reduceMul,Nat.reduceEqDiff,reduceCtorEq,Int.reduceToNat,Int.reduceEq,Int.reduceBEq,Int.reduceBNe,Int.reduceLT,Int.reduceLE,Int.reduceNeg,Int.reduceAdd,Int.reduceSub,Int.reduceMul,Int.reduceGE,Int.reduceGT,endO,ltA,ltS,d1,d2,d3,d4]
  refine loopI (ι:={ t:Nat // t≤L.thr.length∧∀ u,u<t→(L.thr.getD u []).length≤10∧∀ i,i<(L.thr.getD u []).length→fitsB ((L.thr.getD u []).getD i in0) L.words.length=true }) (fun t=>⟨51,[(1,.c (.ptr (3,0,0) 0)),(30,.c (.xv (1,0,0))),(31,.c (.v (.int .i64 L.thr.length))),(32,.c (.v (.int .i64 (t.1:Nat))))],[(3,.one (.bk [.xv (0,0,0),.xv (1,0,0)] 25))],[(0,.one (arrOf eI 1 L.words 0)),(1,.one (nestF 2 L.thr.length)),(2,.fam L.thr.length fun k=>arrOf Ins.enc 7 (L.thr.getD k []) in0)],[],4⟩)
   (fun t=>L.thr.length - t.1) ⟨0,by omega,fun u hu=>by omega⟩ (le_ren id rfl rfl (by simp [TmpsLe,look,SV.ren,SC.ren,SC.renL,ren1L,ren1,idσ,SV.okN,SC.okN,SC.okL,ok1L]) (by simp [OwnLe,BlkLeO,BlkLe,atN,look,Fm.get,idσ,SC.renL,SC.ren,SC.okL,SC.okN,renL_v,okL_v]) (by simp +contextual [ArrsLe,ArrLeO,atN,look,Fm.get,idσ,arrLe_of,arrLe_0,arrLe_nest]) rfl) ?_
  rintro ⟨t,ht,hg⟩
  simp (maxSteps:=2000000) only [go_sem,↓reduceIte,Nat.reduceLT,Nat.reduceLeDiff,Nat.reduceAdd,Nat.reduceSub,Nat.reduceMul,Nat.reduceEqDiff,reduceCtorEq,Int.reduceToNat,Int.reduceEq,Int.reduceBEq,Int.reduceBNe,Int.reduceLT,Int.reduceLE,Int.reduceNeg,Int.reduceAdd,Int.reduceSub,Int.reduceMul,Int.reduceGE,Int.reduceGT,endO]
  refine both (fun hlt=>?_) (fun hge=>?_)
  ·rw [decide_eq_true_eq] at hlt
   have hlt:t<L.thr.length:=by omega
   have hf:∀ {C:Ctx} {E:Env} {S:St} {a:Act} {w' : World},Sat C.B C.W C.w0 E S a w'→look S.arrs 0=some (.one (arrOf eI 1 L.words 0))→look S.arrs 1=some (.one (nestF 2 L.thr.length))→look S.arrs 2=some (.fam L.thr.length fun k=>arrOf Ins.enc 7 (L.thr.getD k []) in0)→LtR w' ((SV.agg [.xv (0,0,0),.xv (1,0,0)]).den E) L:=fun hs h0 h1 h2=>ltL_at hs h0 h1 h2
   refine And.intro hlt (And.intro hlt (And.intro hlt (both (fun h10=>?_) (fun h10=>And.intro hlt ?_))))
   ·rw [decide_eq_true_eq] at h10
    have hck:checkB L=false:=by
     cases e:checkB L
     ·rfl
     ·have:=((check_iff.1 e).2 t hlt).1;omega
    exact retV fun E=>by simp [SV.den,SC.den,hck,errC]
   rw [decide_eq_false_iff_not] at h10
   refine loopI (ι:={ i:Nat // i≤(L.thr.getD t []).length∧∀ j,j<i→fitsB ((L.thr.getD t []).getD j in0) L.words.length=true }) (fun i=>⟨51,[(1,.c (.ptr (3,0,0) 0)),(30,.c (.xv (1,0,0))),(31,.c (.v (.int .i64 L.thr.length))),(32,.c (.v (.int .i64 t))),(39,.c (.xv (2,t,0))),(40,.c (.v (.int .i64 (L.thr.getD t []).length))),(41,.c (.v (.int .i64 (i.1:Nat))))],[(3,.one (.bk [.xv (0,0,0),.xv (1,0,0)] 25))],[(0,.one (arrOf eI 1 L.words 0)),(1,.one (nestF 2 L.thr.length)),(2,.fam L.thr.length fun k=>arrOf Ins.enc 7 (L.thr.getD k []) in0)],[],4⟩)
    (fun i=>(L.thr.getD t []).length - i.1) ⟨0,by omega,fun u hu=>by omega⟩ (le_ren id rfl rfl (by simp [TmpsLe,look,SV.ren,SC.ren,SC.renL,ren1L,ren1,idσ,SV.okN,SC.okN,SC.okL,ok1L]) (by simp [OwnLe,BlkLeO,BlkLe,atN,look,Fm.get,idσ,SC.renL,SC.ren,SC.okL,SC.okN,renL_v,okL_v]) (by simp +contextual [ArrsLe,ArrLeO,atN,look,Fm.get,idσ,arrLe_of,arrLe_0,arrLe_nest]) rfl) ?_
   rintro ⟨i,hi,hgi⟩
   simp (maxSteps:=2000000) only [go_sem,↓reduceIte,Nat.reduceLT,Nat.reduceLeDiff,Nat.reduceAdd,Nat.reduceSub,Nat.reduceMul,Nat.reduceEqDiff,reduceCtorEq,Int.reduceToNat,Int.reduceEq,Int.reduceBEq,Int.reduceBNe,Int.reduceLT,Int.reduceLE,Int.reduceNeg,Int.reduceAdd,Int.reduceSub,Int.reduceMul,Int.reduceGE,Int.reduceGT,endO,Ins.enc]
   refine both (fun hlti=>?_) (fun hge=>?_)
   ·rw [decide_eq_true_eq] at hlti
    have hlti:i<(L.thr.getD t []).length:=by omega
    generalize hci:(L.thr.getD t []).getD i in0=ci
    have hcr:InR ci:=hci ▸ hok _ (getD_memE hlt) _ (getD_memE hlti)
    refine And.intro ⟨hlt,hlti⟩ (And.intro ⟨hlt,hlti⟩ ?_)
    refine callV (.c (.bo (fitsB ci L.words.length))) _ (fun E=>rfl) (fun E a w' hs=>fits_calls w' _ L ci hcr (hf hs rfl rfl rfl)) ?_
    simp (maxSteps:=2000000) only [go_sem,↓reduceIte,Nat.reduceLT,Nat.reduceLeDiff,Nat.reduceAdd,Nat.reduceSub,Nat.reduceMul,Nat.reduceEqDiff,reduceCtorEq,Int.reduceToNat,Int.reduceEq,Int.reduceBEq,Int.reduceBNe,Int.reduceLT,Int.reduceLE,Int.reduceNeg,Int.reduceAdd,Int.reduceSub,Int.reduceMul,Int.reduceGE,Int.reduceGT,endO]
    refine both (fun hb=>?_) (fun hb=>?_)
    ·have hb:fitsB ci L.words.length=false:=by simpa using hb
     have hck:checkB L=false:=by
      cases e:checkB L
      ·rfl
      ·have:=((check_iff.1 e).2 t hlt).2 i hlti
       rw [hci,hb] at this;cases this
     exact retV fun E=>by simp [SV.den,SC.den,hck,errC]
    ·have hb:fitsB ci L.words.length=true:=by simpa using hb
     rw [wr_succ (by omega)]
     refine backI ⟨i+1,by omega,fun j hj=>?_⟩ (by simp only;omega) (le_ren id rfl rfl (by simp [TmpsLe,look,SV.ren,SC.ren,SC.renL,ren1L,ren1,idσ,SV.okN,SC.okN,SC.okL,ok1L]) (by simp [OwnLe,BlkLeO,BlkLe,atN,look,Fm.get,idσ,SC.renL,SC.ren,SC.okL,SC.okN,renL_v,okL_v]) (by simp +contextual [ArrsLe,ArrLeO,atN,look,Fm.get,idσ,arrLe_of,arrLe_0,arrLe_nest]) rfl)
     by_cases e:j=i
     ·subst e;rw [hci];exact hb
     ·exact hgi j (by omega)
   ·rw [decide_eq_false_iff_not] at hge
    rw [wr_succ (by omega)]
    refine backI ⟨t+1,by omega,fun u hu=>?_⟩ (by simp only;omega) (le_ren id rfl rfl (by simp [TmpsLe,look,SV.ren,SC.ren,SC.renL,ren1L,ren1,idσ,SV.okN,SC.okN,SC.okL,ok1L]) (by simp [OwnLe,BlkLeO,BlkLe,atN,look,Fm.get,idσ,SC.renL,SC.ren,SC.okL,SC.okN,renL_v,okL_v]) (by simp +contextual [ArrsLe,ArrLeO,atN,look,Fm.get,idσ,arrLe_of,arrLe_0,arrLe_nest]) rfl)
    by_cases e:u=t
    ·subst e;exact ⟨by omega,fun j hj=>hgi j (by omega)⟩
    ·exact hg u (by omega)
  ·rw [decide_eq_false_iff_not] at hge
   have hck:checkB L=true:=check_iff.2 ⟨hsz,fun u hu=>hg u (by omega)⟩
   exact retV fun E=>by simp only [SV.den,SC.den,hck,errC,if_true]
 ·have hck:checkB L=false:=by
   cases e:checkB L
   ·rfl
   ·exact absurd (check_iff.1 e).1 hsz
  simp (maxSteps:=2000000) only [ir17,nt17,rs17,go_sem,↓reduceIte,Nat.reduceLT,Nat.reduceLeDiff,Nat.reduceAdd,Nat.reduceSub,Nat.reduceMul,Nat.reduceEqDiff,reduceCtorEq,Int.reduceToNat,Int.reduceEq,Int.reduceBEq,Int.reduceBNe,Int.reduceLT,Int.reduceLE,Int.reduceNeg,Int.reduceAdd,Int.reduceSub,Int.reduceMul,Int.reduceGE,Int.reduceGT,endO,ltA,ltS]
  refine both (fun hb=>?_) (fun hb=>?_)
  ·exact retV fun E=>by simp [SV.den,SC.den,hck,errC]
  ·exfalso
   simp at hb
   omega
end Go.Proofs.Ytmcpdafmkkjlcaa.Z
namespace Go.Proofs.Ytmcpdafmkkjlcaa
open Go.RowKit
def RetCl {α:Type} (W:World) (e:TypeId) (enc:α→List Value) (s:Nat) (l:List α) (r:Ending) (w' : World):Prop :=
 ∃ v',r = .returned v'∧((l=[]∧∃ ba,v' = .slice ba 0 0∧(ba=none∨∃ b,ba=some ⟨b,0,none⟩))∨(l≠[]∧w'.ownsRow W.heap.size e s v' l.length (l.flatMap enc)))∧Below W.heap.size W w'
theorem wpList_append_emptyT {P:Program} {w:World} {ops:Array Oper} {rest:List Oper} {o:Oper} {a:Act} {Q:Exit→Act→World→Prop} (hgd:o.guard=none) (s x:Operand) {t e:TypeId} {size bytes:Nat}
  (ho:o.op = .call { callee:=.builtin .append,args:=#[s,x],argTypes:=#[t,t] }) (T:ElemT P t e size bytes)
  {α:Type} {enc:α→List Value} (E:EncT enc size) {ba:Option Addr} {xs:List α} (hs:a.eval s = .slice ba 0 0)
  {v2:Value} (hx:a.eval x=v2) (hxs:Arr w enc size v2 xs)
  (hbytes:xs.length * bytes≤140737488355328) (h63:xs.length≤maxLen)
  (h:∀ v' w',Below w.heap.size w w'→((xs=[]∧v' = .slice ba 0 0)∨(xs≠[]∧w'.ownsRow w.heap.size e size v' xs.length (xs.flatMap enc)))→wpList P ops Q rest (a.put o.dst v') w'):wpList P ops Q (o :: rest) a w :=
 wpList_plain hgd fun _ hK=>wp_append_full s x ho T E hs (arr_empty _ _ _ _) hx hxs (by simpa using hbytes) (by simpa using h63) fun v' w' hb h2=>hK _ _ (h v' w' hb (by
  rcases h2 with ⟨h1,h2,_⟩ | ⟨h1,h2⟩
  ·exact Or.inl ⟨h1,h2⟩
  ·simp only [Nat.zero_add,List.nil_append] at h2
   exact Or.inr ⟨h1,h2⟩))
theorem ownsRow_base {w:World} {base base' : Nat} {e:TypeId} {size n:Nat} {v:Value} {l:List Value} (h:w.ownsRow base e size v n l) (hb:base'≤base):w.ownsRow base' e size v n l:=by
 obtain ⟨h1,h⟩:=h
 refine ⟨h1,?_⟩
 rcases h with h | ⟨g,cap,cur,r1,r2,r3⟩
 ·exact Or.inl h
 ·exact Or.inr ⟨g,cap,cur,r1,Nat.le_trans hb r2,r3⟩
theorem tIT:ElemT Try.prog 22 3 1 8:=by
 refine ⟨Try.underlying22,?_,by decide⟩
 obtain ⟨i0,hi,hz0,hz1,hz2⟩:=info_parts (show (Try.prog.info? 3).map (fun i=>(i.zero,i.size,i.bytes))=some (some (.int .i64 0),1,8) by kernel_rfl)
 exact ⟨i0,_,hi,hz0,hz1,hz2,rfl⟩
set_option maxRecDepth 100000 in
set_option maxHeartbeats 400000 in
theorem clone_ints {v:Value} {l:List Int} {w:World} (h:Arr w eI 1 v l) (hl:l.length * 8≤140737488355328) :
  Calls Try.prog 44 #[v] w (RetCl w 3 eI 1 l):=by
 have h0:=h
 obtain ⟨ba,cap,rfl,hlc,hcm,hc⟩:=h
 have H:=Lib.hid h0;clear h0
 have HC:=Lib.hid hc;clear hc
 have HL:=Lib.hid hl;clear hl
 have HM:=Lib.hid (Nat.le_trans hlc hcm);clear hlc hcm
 have hq:=fun wx=>Lib.run_eql_slice_nil (P:=Try.prog) wx 22 _ ba l.length cap 0 0 Try.underlying22
 rcases ba with _ | ba
 ·have hl0:l=[]:=by
   rcases HC.out with h | ⟨_,_,h,_⟩
   ·exact h
   ·cases h
  have HL0:=Lib.hid hl0;clear hl0
  go_enter Try.func44,Try.ntmps44
  go_wp2
  go_ret
  exact ⟨_,rfl,Or.inl ⟨HL0.out,none,rfl,Or.inl rfl⟩,Below.refl _ _⟩
 ·go_enter Try.func44,Try.ntmps44
  go_wp2_with (at_builtin;refine wpList_append_emptyT rfl (.tmp 5) (.tmp 6) rfl tIT eI_ok rfl rfl (H.out.below (below_box _ _)) HL.out HM.out ?_;intro v' w' hb ho)
  have HO:=Lib.hid ho;clear ho
  go_wp2
  go_ret
  refine ⟨v',rfl,?_,below_from (hb.mono (by simp))⟩
  rcases HO.out with ⟨h1,h2⟩ | ⟨h1,h2⟩
  ·exact Or.inl ⟨h1,_,h2,Or.inr ⟨_,rfl⟩⟩
  ·exact Or.inr ⟨h1,ownsRow_base h2 (by simp)⟩
theorem tRT:ElemT Try.prog 29 68 4 32:=by
 refine ⟨Try.underlying29,?_,by decide⟩
 obtain ⟨i0,hi,hz0,hz1,hz2⟩:=info_parts (show (Try.prog.info? 68).map (fun i=>(i.zero,i.size,i.bytes))=some (some (.agg #[.int .i64 0,.int .i64 0,.int .i64 0,.int .i64 0]),4,32) by kernel_rfl)
 exact ⟨i0,_,hi,hz0,hz1,hz2,rfl⟩
set_option maxRecDepth 100000 in
set_option maxHeartbeats 400000 in
theorem clone_regs {v:Value} {l:List Z.R4} {w:World} (h:Arr w Z.R4.enc 4 v l) (hl:l.length * 32≤140737488355328) :
  Calls Try.prog 81 #[v] w (RetCl w 68 Z.R4.enc 4 l):=by
 have h0:=h
 obtain ⟨ba,cap,rfl,hlc,hcm,hc⟩:=h
 have H:=Lib.hid h0;clear h0
 have HC:=Lib.hid hc;clear hc
 have HL:=Lib.hid hl;clear hl
 have HM:=Lib.hid (Nat.le_trans hlc hcm);clear hlc hcm
 have hq:=fun wx=>Lib.run_eql_slice_nil (P:=Try.prog) wx 29 _ ba l.length cap 0 0 Try.underlying29
 rcases ba with _ | ba
 ·have hl0:l=[]:=by
   rcases HC.out with h | ⟨_,_,h,_⟩
   ·exact h
   ·cases h
  have HL0:=Lib.hid hl0;clear hl0
  go_enter Try.func81,Try.ntmps81
  go_wp2
  go_ret
  exact ⟨_,rfl,Or.inl ⟨HL0.out,none,rfl,Or.inl rfl⟩,Below.refl _ _⟩
 ·go_enter Try.func81,Try.ntmps81
  go_wp2_with (at_builtin;refine wpList_append_emptyT rfl (.tmp 5) (.tmp 6) rfl tRT Z.r4_ok rfl rfl (H.out.below (below_box _ _)) HL.out HM.out ?_;intro v' w' hb ho)
  have HO:=Lib.hid ho;clear ho
  go_wp2
  go_ret
  refine ⟨v',rfl,?_,below_from (hb.mono (by simp))⟩
  rcases HO.out with ⟨h1,h2⟩ | ⟨h1,h2⟩
  ·exact Or.inl ⟨h1,_,h2,Or.inr ⟨_,rfl⟩⟩
  ·exact Or.inr ⟨h1,ownsRow_base h2 (by simp)⟩
theorem tPT:ElemT Try.prog 86 88 2 16:=by
 refine ⟨Try.underlying86,?_,by decide⟩
 obtain ⟨i0,hi,hz0,hz1,hz2⟩:=info_parts (show (Try.prog.info? 88).map (fun i=>(i.zero,i.size,i.bytes))=some (some (.agg #[.int .i64 0,.int .i64 0]),2,16) by kernel_rfl)
 exact ⟨i0,_,hi,hz0,hz1,hz2,rfl⟩
set_option maxRecDepth 100000 in
set_option maxHeartbeats 400000 in
theorem clone_pend {v:Value} {l:List Z.Pd} {w:World} (h:Arr w Z.Pd.enc 2 v l) (hl:l.length * 16≤140737488355328) :
  Calls Try.prog 82 #[v] w (RetCl w 88 Z.Pd.enc 2 l):=by
 have h0:=h
 obtain ⟨ba,cap,rfl,hlc,hcm,hc⟩:=h
 have H:=Lib.hid h0;clear h0
 have HC:=Lib.hid hc;clear hc
 have HL:=Lib.hid hl;clear hl
 have HM:=Lib.hid (Nat.le_trans hlc hcm);clear hlc hcm
 have hq:=fun wx=>Lib.run_eql_slice_nil (P:=Try.prog) wx 86 _ ba l.length cap 0 0 Try.underlying86
 rcases ba with _ | ba
 ·have hl0:l=[]:=by
   rcases HC.out with h | ⟨_,_,h,_⟩
   ·exact h
   ·cases h
  have HL0:=Lib.hid hl0;clear hl0
  go_enter Try.func82,Try.ntmps82
  go_wp2
  go_ret
  exact ⟨_,rfl,Or.inl ⟨HL0.out,none,rfl,Or.inl rfl⟩,Below.refl _ _⟩
 ·go_enter Try.func82,Try.ntmps82
  go_wp2_with (at_builtin;refine wpList_append_emptyT rfl (.tmp 5) (.tmp 6) rfl tPT Z.pd_ok rfl rfl (H.out.below (below_box _ _)) HL.out HM.out ?_;intro v' w' hb ho)
  have HO:=Lib.hid ho;clear ho
  go_wp2
  go_ret
  refine ⟨v',rfl,?_,below_from (hb.mono (by simp))⟩
  rcases HO.out with ⟨h1,h2⟩ | ⟨h1,h2⟩
  ·exact Or.inl ⟨h1,_,h2,Or.inr ⟨_,rfl⟩⟩
  ·exact Or.inr ⟨h1,ownsRow_base h2 (by simp)⟩
open Z in
theorem Z.retN_of {α:Type} {w:World} {e:TypeId} {enc:α→List Value} {s:Nat} {l:List α} {d:α} (T:EncT enc s) {r:Ending} {w' : World} (h:RetCl w e enc s l r w'):Z.RetN w 1 (Z.lsT s l.length) (Z.lsO e s enc l d) r w':=by
 obtain ⟨v',rfl,ho,hb⟩:=h
 have hnil:∀ ba,(ba=none∨∃ b,ba=some ⟨b,0,none⟩)→l=[]→v' = .slice ba 0 0→Z.RetN w 1 (Z.lsT s l.length) (Z.lsO e s enc l d) (.returned v') w':=by
  rintro ba hba rfl rfl
  refine ⟨_,rfl,hb,fun b=>⟨⟨fun _=>(ba.map (·.block)).getD 0,fun _=>0,fun _=>ba.isNone,fun _=>.bool true⟩,fun _=>rfl,fun E2 hE2=>?_⟩⟩
  obtain ⟨h1,h2,h3,h4⟩:=hE2 (b,0,0) ⟨Nat.le_refl _,Nat.lt_succ_self _⟩
  have h1:E2.ρ (b,0,0)=(ba.map (·.block)).getD 0:=h1
  have h2:E2.κ (b,0,0)=0:=h2
  have h3:E2.ν (b,0,0)=ba.isNone:=h3
  refine ⟨?_,fun _=>Z.emp,fun x c hx=>?_,fun _ _ _ _ _ _ _ n=>Or.inl rfl,fun x c _ n o hn=>by cases hn⟩
  ·rcases hba with rfl | ⟨q,rfl⟩ <;> simp [Z.lsT,Z.SV.den,Z.SC.den,h1,h2,h3]
  ·rcases Z.atN_one hx with ⟨rfl,rfl⟩ | hx
   ·exact Or.inl ⟨trivial,h2,rfl,rfl⟩
   ·exact (Z.atN_nil hx).elim
 rcases ho with ⟨h0,ba,hv1,hv2⟩ | ⟨hl,ho⟩
 ·exact hnil ba hv2 h0 hv1
 have hA:=OwnE.arr T (Or.inr ho)
 obtain ⟨hlen,⟨rfl,h0⟩ | ⟨g,cap,cur,rfl,hBg,hg,hnc,hcm,hcs,htk⟩⟩:=ho
 ·exact hnil none (Or.inl rfl) (List.eq_nil_of_length_eq_zero h0) rfl
 refine ⟨_,rfl,hb,fun b=>⟨⟨fun _=>g,fun _=>cap,fun _=>false,fun _=>.bool true⟩,fun _=>rfl,fun E2 hE2=>?_⟩⟩
 obtain ⟨h1,h2,h3,h4⟩:=hE2 (b,0,0) ⟨Nat.le_refl _,Nat.lt_succ_self _⟩
 have h1:E2.ρ (b,0,0)=g:=h1
 have h2:E2.κ (b,0,0)=cap:=h2
 have h3:E2.ν (b,0,0)=false:=h3
 have hpos:0<cap:=by have:=List.length_pos_iff.2 hl;omega
 refine ⟨by simp [Z.lsT,Z.SV.den,Z.SC.den,h1,h2,h3],fun x=>Z.sing g (.cells cur e (0,0)),fun x c hx=>?_,fun x y c d hx hy hne n=>?_,fun x c hx n o hn=>?_⟩
 ·rcases Z.atN_one hx with ⟨rfl,rfl⟩ | hx
  ·refine Or.inr ⟨h3,by rw [h2];exact ⟨hnc,hpos⟩,by rw [h2];exact hcm,cur,by rw [h1],by rw [h2];exact hcs,fun k hk=>⟨by simp [Z.ats,T.len],fun j u hu=>?_⟩⟩
   simp only [Z.ats,List.getElem?_map,Option.map_eq_some_iff] at hu
   obtain ⟨u',hu',rfl⟩:=hu
   obtain ⟨ba,cp,e1,_,_,hc⟩:=hA
   rcases hc with hc | ⟨b0,off,e2,hc⟩
   ·exact absurd hc hl
   ·cases e1
    cases e2
    have:=hc k (l.getD k d) (by rw [List.getD_eq_getElem?_getD,List.getElem?_eq_getElem hk];rfl) j u' hu'
    rw [cell_of_row w' _ _ _ e (0,0) hg,Nat.zero_add] at this
    exact ⟨by rw [Z.den_v];exact this,by rw [Z.den_v];exact T.one _ _ (List.mem_of_getElem? hu')⟩
  ·exact (Z.atN_nil hx).elim
 ·rcases Z.atN_one hx with ⟨rfl,rfl⟩ | hx
  ·rcases Z.atN_one hy with ⟨rfl,rfl⟩ | hy
   ·exact absurd rfl hne
   ·exact (Z.atN_nil hy).elim
  ·exact (Z.atN_nil hx).elim
 ·simp only [Z.sing] at hn
  by_cases e:n=g
  ·subst e
   simp at hn
   subst hn
   exact ⟨hg,hBg⟩
  ·simp [e] at hn
end Go.Proofs.Ytmcpdafmkkjlcaa
namespace Go.Proofs.Ytmcpdafmkkjlcaa.Z
open Go Go.RowKit
def stC (b:Nat) (s:LS):List SC:=[.sl (b,0,0) 1 0 s.words.length none,.sl (b+1,0,0) 4 0 s.regs.length none,.sl (b+2,0,0) 1 0 s.places.length none,.sl (b+3,0,0) 1 0 s.bufs.length none]
def bfC (i:Nat) (s:LS) (k:Nat):List SC:=[.sl (i,k,0) 2 0 (s.bufs.getD k []).length none]
def bfO (s:LS) (k:Nat):Blk:=.ar (s.bufs.getD k []).length 2 (ats Pd.enc (s.bufs.getD k []) pd0) 88
def nilC (_:Nat):List SC:=[.v (.slice none 0 0)]
def stO' (b:Nat) (s:LS):Own:=[(b,.one (.ar s.words.length 1 (ats eI s.words 0) 3)),(b+1,.one (.ar s.regs.length 4 (ats R4.enc s.regs r40) 68)),(b+2,.one (.ar s.places.length 1 (ats eI s.places 0) 3)),(b+3,.one (.ar s.bufs.length 1 nilC 86))]
def stO (b:Nat) (s:LS):Own:=[(b,.one (.ar s.words.length 1 (ats eI s.words 0) 3)),(b+1,.one (.ar s.regs.length 4 (ats R4.enc s.regs r40) 68)),(b+2,.one (.ar s.places.length 1 (ats eI s.places 0) 3)),(b+3,.one (.ar s.bufs.length 1 (bfC (b+4) s) 86)),(b+4,.fam s.bufs.length (bfO s))]
theorem ar_same {E:Env} {x:Nm} {n s ty:Nat} {at1 at2:Nat→List SC} {h:PH} (h1:(Blk.ar n s at1 ty).den E x h) (he:∀ e,e<n→(at2 e).map (SC.den E)=(at1 e).map (SC.den E)):(Blk.ar n s at2 ty).den E x h:=by
 simp only [Blk.den] at h1 ⊢
 rcases h1 with h1 | ⟨g1,g2,g3,cells,g4,g5,g6⟩
 ·exact Or.inl h1
 ·refine Or.inr ⟨g1,g2,g3,cells,g4,g5,fun e hlt=>?_⟩
  obtain ⟨k1,k2⟩:=g6 e hlt
  have hl:(at2 e).length=(at1 e).length:=by have:=congrArg List.length (he e hlt);simpa using this
  refine ⟨hl.trans k1,fun j u hu=>?_⟩
  have hj:((at2 e).map (SC.den E))[j]? = some (u.den E):=by rw [List.getElem?_map,hu];rfl
  rw [he e hlt,List.getElem?_map] at hj
  cases hq:(at1 e)[j]? with
  | none=>rw [hq] at hj;cases hj
  | some q =>
   rw [hq] at hj
   simp only [Option.map_some,Option.some.injEq] at hj
   rw [← hj]
   exact k2 j q hq
theorem beg_fam {w:World} {T:Nat→SV} {s:LS} {e:Ending} {w' : World} (hs:∀ k,s.bufs.getD k []=[]) (h:RetN w 4 T (fun b=>stO' b s) e w'):RetN w 5 T (fun b=>stO b s) e w':=by
 obtain ⟨v,rfl,hb,hN⟩:=h
 refine ⟨v,rfl,hb,fun b=>?_⟩
 obtain ⟨N,h1,h2⟩:=hN b
 refine ⟨⟨N.ρ,fun x=>if x.1=b+4 then 0 else N.κ x,fun x=>if x.1=b+4 then true else N.ν x,N.χ⟩,h1,fun E2 hE2=>?_⟩
 obtain ⟨g1,H,g2,g3,g4⟩:=h2 E2 fun x hx=>by
  have hx:b≤x.1∧x.1<b+4:=hx
  have:=hE2 x ⟨hx.1,by omega⟩
  have hne:x.1≠b+4:=by omega
  simp only [Same,hne,if_false] at this
  exact this
 have hf:∀ k,E2.ν (b+4,k,0)=true∧E2.κ (b+4,k,0)=0:=fun k=>by
  have:=hE2 (b+4,k,0) ⟨by simp,by simp⟩
  simp only [Same,if_true] at this
  exact ⟨this.2.2.1,this.2.1⟩
 have hat:∀ x c,atN (stO b s) x=some c→(∃ k,k<s.bufs.length∧x=(b+4,k,0)∧c=bfO s k)∨(x.1≠b+4∧∃ c',atN (stO' b s) x=some c'∧(c=c'∨(x=(b+3,0,0)∧c = .ar s.bufs.length 1 (bfC (b+4) s) 86∧c' = .ar s.bufs.length 1 nilC 86))):=by
  intro x c hx
  simp only [stO] at hx
  rcases atN_one hx with ⟨rfl,rfl⟩ | hx
  ·exact Or.inr ⟨by simp,_,by simp [stO',atN,look,Fm.get],Or.inl rfl⟩
  rcases atN_one hx with ⟨rfl,rfl⟩ | hx
  ·exact Or.inr ⟨by simp,_,by simp [stO',atN,look,Fm.get],Or.inl rfl⟩
  rcases atN_one hx with ⟨rfl,rfl⟩ | hx
  ·exact Or.inr ⟨by simp,_,by simp [stO',atN,look,Fm.get],Or.inl rfl⟩
  rcases atN_one hx with ⟨rfl,rfl⟩ | hx
  ·exact Or.inr ⟨by simp,_,by simp [stO',atN,look,Fm.get],Or.inr ⟨rfl,rfl,rfl⟩⟩
  rcases atN_fam hx with ⟨k,hk,rfl,rfl⟩ | hx
  ·exact Or.inl ⟨k,hk,rfl,rfl⟩
  ·exact (atN_nil hx).elim
 refine ⟨g1,fun x=>if x.1=b+4 then emp else H x,fun x c hx=>?_,fun x y c d hx hy hne n=>?_,fun x c hx n o hn=>?_⟩
 ·rcases hat x c hx with ⟨k,hk,rfl,rfl⟩ | ⟨hne,c',hc',rfl | ⟨rfl,rfl,rfl⟩⟩
  ·simp only [if_true]
   simp only [bfO,hs,List.length_nil]
   exact Or.inl ⟨trivial,(hf k).2,rfl,rfl⟩
  ·simp only [hne,if_false];exact g2 x _ hc'
  ·simp only [hne,if_false]
   refine ar_same (g2 _ _ hc') fun k _=>?_
   simp only [bfC,nilC,hs,List.length_nil,List.map_cons,List.map_nil,SC.den,(hf k).1,(hf k).2]
   simp
 ·rcases hat x c hx with ⟨k,hk,rfl,rfl⟩ | ⟨hne1,c',hc',_⟩
  ·simp [emp]
  ·rcases hat y d hy with ⟨k,hk,rfl,rfl⟩ | ⟨hne2,d',hd',_⟩
   ·simp [emp]
   ·simp only [hne1,hne2,if_false]
    exact g3 x y c' d' hc' hd' hne n
 ·rcases hat x c hx with ⟨k,hk,rfl,rfl⟩ | ⟨hne1,c',hc',_⟩
  ·simp [emp] at hn
  ·simp only [hne1,if_false] at hn
   exact g4 x c' hc' n o hn
def bgT (L:Lt) (b:Nat):SV:=.tup [(true,stC b (beginS L)),(false,[.v (.int .i64 0)])]
theorem begin_ret {P:Program} {A:List Nat} {w:World} {rs:List RS} {L:Lt} {S:St} {aw ar ap ab:Nat→List SC} (i:Nat) (h0:look S.own i=some (.one (.ar L.words.length 1 aw 3))) (h1:look S.own (i+1)=some (.one (.ar L.thr.length 4 ar 68)))
  (h2:look S.own (i+2)=some (.one (.ar L.thr.length 1 ap 3))) (h3:look S.own (i+3)=some (.one (.ar L.thr.length 1 ab 86)))
  (e0:∀ e,e<L.words.length→aw e=ats eI L.words 0 e) (e1:∀ e,e<L.thr.length→ar e=[.v (.int .i64 0),.v (.int .i64 0),.v (.int .i64 0),.v (.int .i64 0)]) (e2:∀ e,e<L.thr.length→ap e=[.v (.int .i64 0)]) (e3:∀ e,e<L.thr.length→ab e=[.v (.slice none 0 0)]) :
  RetVC (mkC P A w rs (RetN w 4 (bgT L) (fun b=>stO' b (beginS L)))) (.tup [(true,[.sl (i,0,0) 1 0 L.words.length none,.sl (i+1,0,0) 4 0 L.thr.length none,.sl (i+2,0,0) 1 0 L.thr.length none,.sl (i+3,0,0) 1 0 L.thr.length none]),(false,[.v (.int .i64 0)])]) S:=by
 refine retN (fun j=>i+j) (fun b=>?_) (fun b=>?_) (fun b=>?_)
 ·simp [bgT,stC,beginS,SV.ren,SC.ren,SC.renL,ren1L,ren1,fromσ,SV.okN,SC.okN,SC.okL,ok1L,NewIds]
 ·simp only [stO',beginS,List.length_replicate]
  refine ⟨⟨⟨by omega,by omega⟩,?_⟩,⟨⟨by omega,by omega⟩,?_⟩,⟨⟨by omega,by omega⟩,?_⟩,⟨⟨by omega,by omega⟩,?_⟩,trivial⟩
  ·simp only [fromσ,atN,Nat.sub_self,Nat.add_zero,h0,Fm.get,and_self,if_true]
   exact arLe_of (Nat.le_refl _) e0
  ·simp only [fromσ,atN,Nat.add_sub_cancel_left,h1,Fm.get,and_self,if_true]
   exact arLe_of (Nat.le_refl _) fun e he=>by rw [e1 e he];simp [ats,List.getD_eq_getElem?_getD,he,r40,R4.enc]
  ·simp only [fromσ,atN,Nat.add_sub_cancel_left,h2,Fm.get,and_self,if_true]
   exact arLe_of (Nat.le_refl _) fun e he=>by rw [e2 e he];simp [ats,List.getD_eq_getElem?_getD,he,eI]
  ·simp only [fromσ,atN,Nat.add_sub_cancel_left,h3,Fm.get,and_self,if_true]
   exact ⟨Nat.le_refl _,rfl,rfl,fun e he=>by rw [e3 e he];simp [nilC,SC.renL,SC.ren,SC.okL,SC.okN]⟩
 ·exact injN_from fun x hx y hy e=>by
   simp [stO',keysL] at hx hy
   omega
def ir19:IR:=(.seq (.ops [⟨(some 1),(.box 25 (.t 0)),none⟩,⟨(some 2),(.new 32 [(.v (.slice none 0 0)),(.v (.slice none 0 0)),(.v (.slice none 0 0)),(.v (.slice none 0 0))]),none⟩,⟨(some 3),(.mv (.k (.c (.v (.int .i64 0))))),none⟩]) (.kill [0,3,4,5,6,7,8,9,10,11] (.seq (.seq (.ops [⟨(some 6),(.ld true 2 (.t 1)),none⟩,⟨(some 7),(.call 17 [(.t 6)]),none⟩,⟨(some 4),(.mv (.t 7)),none⟩]) (.kill [6,7] (.seq (.ops [⟨(some 8),(.mv (.t 4)),none⟩,⟨(some 9),(.bin .neq (.t 8) (.k (.c (.v (.int .i64 0))))),none⟩]) (.kill [8] (.cond (.t 9) (.seq (.ops [⟨(some 10),(.build [(.v (.slice none 0 0)),(.v (.slice none 0 0)),(.v (.slice none 0 0)),(.v (.slice none 0 0))] []),none⟩,⟨(some 11),(.mv (.t 4)),none⟩,⟨none,(.st 4 (.t 2) (.t 10)),none⟩,⟨(some 3),(.mv (.t 11)),none⟩]) (.kill [1,4,9,10,11] .ret)) .skip))))) (.kill [3,4,9] (.seq (.ops [⟨(some 12),(.fa 1 (.t 1)),none⟩,⟨(some 13),(.ld false 1 (.t 12)),none⟩,⟨(some 14),(.len (.t 13)),none⟩,⟨(some 5),(.mv (.t 14)),none⟩]) (.kill [12,13,14] (.seq (.draw [(⟨(some 15),(.fa 0 (.t 1)),none⟩,([],[18,19,20,21,22,23])),(⟨(some 16),(.ld false 1 (.t 15)),none⟩,([],[18,19,20,21,22,23])),(⟨(some 17),(.call 44 [(.t 16)]),none⟩,([],[18,19,20,21,22,23])),(⟨(some 18),(.mv (.t 5)),none⟩,([0,1,2],[15,16,17,20,21,22,23])),(⟨(some 19),(.mks 68 4 32 [(.v (.int .i64 0)),(.v (.int .i64 0)),(.v (.int .i64 0)),(.v (.int .i64 0))] (.t 18) (.t 18)),none⟩,([0,1,2],[15,16,17,20,21,22,23])),(⟨(some 20),(.mv (.t 5)),none⟩,([0,1,2,3,4],[15,16,17,18,19,22,23])),(⟨(some 21),(.mks 3 1 8 [(.v (.int .i64 0))] (.t 20) (.t 20)),none⟩,([0,1,2,3,4],[15,16,17,18,19,22,23])),(⟨(some 22),(.mv (.t 5)),none⟩,([0,1,2,3,4,5,6],[15,16,17,18,19,20,21])),(⟨(some 23),(.mks 86 1 24 [(.v (.slice none 0 0))] (.t 22) (.t 22)),none⟩,([0,1,2,3,4,5,6],[15,16,17,18,19,20,21])),(⟨(some 24),(.build [(.v (.slice none 0 0)),(.v (.slice none 0 0)),(.v (.slice none 0 0)),(.v (.slice none 0 0))] [(0,(1,(.t 17))),(1,(1,(.t 19))),(2,(1,(.t 21))),(3,(1,(.t 23)))]),none⟩,([],[])),(⟨none,(.st 4 (.t 2) (.t 24)),none⟩,([],[])),(⟨(some 3),(.mv (.k (.c (.v (.int .i64 0))))),none⟩,([],[]))]) (.kill [1,5,15,16,17,18,19,20,21,22,23,24] .ret))))))))
def rs19:List RS:=[(.cell 2 true 4),(.t 3)]
def nt19:Nat:=25
def ir39:IR:=(.seq (.ops [⟨(some 2),(.box 25 (.t 0)),none⟩,⟨(some 4),(.mv (.k (.c (.v (.int .i64 0))))),none⟩]) (.kill [0,3,4,5,6,7,8,9,10,11] (.seq (.seq (.ops [⟨(some 6),(.ld true 2 (.t 2)),none⟩,⟨(some 7),(.call 17 [(.t 6)]),none⟩,⟨(some 5),(.mv (.t 7)),none⟩]) (.kill [2,6,7] (.seq (.ops [⟨(some 8),(.mv (.t 5)),none⟩,⟨(some 9),(.bin .neq (.t 8) (.k (.c (.v (.int .i64 0))))),none⟩]) (.kill [8] (.cond (.t 9) (.seq (.ops [⟨(some 10),(.mv (.t 5)),none⟩,⟨(some 4),(.mv (.t 10)),none⟩]) (.kill [1,5,9,10] .ret)) .skip))))) (.kill [4,5,9] (.seq (.seq (.ops [⟨(some 11),(.mv (.t 1)),none⟩,⟨(some 12),(.bin .lss (.t 11) (.k (.c (.v (.int .i64 1))))),none⟩,⟨(some 13),(.mv (.t 12)),none⟩,⟨(some 14),(.mv (.t 1)),(some (13,false))⟩,⟨(some 15),(.bin .gtr (.t 14) (.k (.c (.v (.int .i64 3))))),(some (13,false))⟩,⟨(some 16),(.pick (.t 13) (.k (.c (.v (.bool true)))) (.t 15)),none⟩]) (.kill [1,11,12,13,14,15] (.cond (.t 16) (.seq (.ops [⟨(some 4),(.mv (.k (.c (.v (.int .i64 191))))),none⟩]) (.kill [16] .ret)) .skip))) (.kill [4,16] (.seq (.ops [⟨(some 4),(.mv (.k (.c (.v (.int .i64 0))))),none⟩]) .ret)))))))
def rs39:List RS:=[(.t 4)]
def nt39:Nat:=17
set_option maxRecDepth 100000 in
set_option maxHeartbeats 400000 in
theorem begin_calls (w:World) (v:Value) (L:Lt) (hL:checkB L=true) (hok:LtOk L) (h:LtR w v L):Calls Try.prog 19 #[v] w (RetN w 5 (bgT L) (fun b=>stO b (beginS L))):=by
 suffices hs:Calls Try.prog 19 #[v] w (RetN w 4 (bgT L) (fun b=>stO' b (beginS L))) from hs.mono fun e w' he=>beg_fam (fun k=>by simp [beginS,List.getD_eq_getElem?_getD,List.getElem?_replicate];split <;> rfl) he
 refine enterLt (A:=[]) (c:=ir19) (rs:=rs19) (nt:=nt19) h [.agg (ltS 0)] _ Try.func19 rfl (by kernel_rfl) (by kernel_rfl) rfl (fun E' h0=>by simp only [List.map_cons,List.map_nil,h0]) (of_decide_eq_true rfl) ?_
 obtain ⟨z1,z2,z3,z4⟩:=sz_at hL
 simp (maxSteps:=2000000) only [ir19,nt19,rs19,go_sem,↓reduceIte,Nat.reduceLT,Nat.reduceLeDiff,Nat.reduceAdd,Nat.reduceSub,Nat.reduceMul,Nat.reduceEqDiff,reduceCtorEq,Int.reduceToNat,Int.reduceEq,Int.reduceBEq,Int.reduceBNe,Int.reduceLT,Int.reduceLE,Int.reduceNeg,Int.reduceAdd,Int.reduceSub,Int.reduceMul,Int.reduceGE,Int.reduceGT,endO,ltA,ltS]
 refine callV (.c (.v (.int .i64 0))) _ (fun E=>rfl) (fun E a w' hs=>by
  have:=check_calls w' _ L hok (ltL_at hs rfl rfl rfl)
  rw [hL] at this
  exact this) ?_
 simp (maxSteps:=2000000) only [go_sem,↓reduceIte,Nat.reduceLT,Nat.reduceLeDiff,Nat.reduceAdd,Nat.reduceSub,Nat.reduceMul,Nat.reduceEqDiff,reduceCtorEq,Int.reduceToNat,Int.reduceEq,Int.reduceBEq,Int.reduceBNe,Int.reduceLT,Int.reduceLE,Int.reduceNeg,Int.reduceAdd,Int.reduceSub,Int.reduceMul,Int.reduceGE,Int.reduceGT,endO]
 refine draw_vc (by kernel_rfl) (mkTab_ok _ _) (of_decide_eq_true rfl) (of_decide_eq_true rfl) ?_
 repeat (first | simp (maxSteps:=2000000) only [go_sem,↓reduceIte,Nat.reduceLT,Nat.reduceLeDiff,Nat.reduceAdd,Nat.reduceSub,Nat.reduceMul,Nat.reduceEqDiff,reduceCtorEq,Int.reduceToNat,Int.reduceEq,Int.reduceBEq,Int.reduceBNe,Int.reduceLT,Int.reduceLE,Int.reduceNeg,Int.reduceAdd,Int.reduceSub,Int.reduceMul,Int.reduceGE,Int.reduceGT,endO] | rw [dr_cons])
 refine dcallN 1 (lsT 1 L.words.length) (lsO 3 1 eI L.words 0) (fun E a w' hs=>(clone_ints (arr_at (d:=0) hs 0 rfl) (by omega)).mono fun e w2 he=>retN_of (d:=0) eI_ok he) ?_ ?_
 ·simp [newOk,keysL,lsO]
 repeat (first | simp (maxSteps:=2000000) only [go_sem,↓reduceIte,Nat.reduceLT,Nat.reduceLeDiff,Nat.reduceAdd,Nat.reduceSub,Nat.reduceMul,Nat.reduceEqDiff,reduceCtorEq,Int.reduceToNat,Int.reduceEq,Int.reduceBEq,Int.reduceBNe,Int.reduceLT,Int.reduceLE,Int.reduceNeg,Int.reduceAdd,Int.reduceSub,Int.reduceMul,Int.reduceGE,Int.reduceGT,endO,lsT,lsO] | rw [dr_cons])
 have hn:(L.thr.length:Int)≤(L.thr.length:Nat)∧((L.thr.length:Nat):Int) * 32≤140737488355328∧((L.thr.length:Nat):Int) * 8≤140737488355328∧((L.thr.length:Nat):Int) * 24≤140737488355328∧((L.thr.length:Nat):Int)≤(maxLen:Nat):=by simp only [maxLen];omega
 refine And.intro ⟨hn.1,hn.2.1,hn.2.2.2.2⟩ (And.intro (by simp) (And.intro ⟨hn.1,hn.2.2.1,hn.2.2.2.2⟩ (And.intro (by simp) (And.intro ⟨hn.1,hn.2.2.2.1,hn.2.2.2.2⟩ (And.intro (by simp) (And.intro (by simp) ?_))))))
 exact begin_ret _ rfl rfl rfl rfl (fun _ _=>rfl) (fun _ _=>rfl) (fun _ _=>rfl) (fun _ _=>rfl)
set_option maxRecDepth 100000 in
set_option maxHeartbeats 400000 in
theorem look_calls (w:World) (v:Value) (L:Lt) (o:Int) (hok:LtOk L) (h:LtR w v L):Calls Try.prog 39 #[v,.int .i64 o] w (RetV w (.int .i64 (if checkB L=true then (if 1≤o∧o≤3 then 0 else 191) else 190))):=by
 refine enterLt (A:=[]) (c:=ir39) (rs:=rs39) (nt:=nt39) h [.agg (ltS 0),.c (.v (.int .i64 o))] _ Try.func39 rfl (by kernel_rfl) (by kernel_rfl) rfl (fun E' h0=>by simp only [List.map_cons,List.map_nil,h0];rfl) (of_decide_eq_true rfl) ?_
 simp (maxSteps:=2000000) only [ir39,nt39,rs39,go_sem,↓reduceIte,Nat.reduceLT,Nat.reduceLeDiff,Nat.reduceAdd,Nat.reduceSub,Nat.reduceMul,Nat.reduceEqDiff,reduceCtorEq,Int.reduceToNat,Int.reduceEq,Int.reduceBEq,Int.reduceBNe,Int.reduceLT,Int.reduceLE,Int.reduceNeg,Int.reduceAdd,Int.reduceSub,Int.reduceMul,Int.reduceGE,Int.reduceGT,endO,ltA,ltS]
 refine callV (.c (.v (.int .i64 (errC (checkB L))))) _ (fun E=>rfl) (fun E a w' hs=>check_calls w' _ L hok (ltL_at hs rfl rfl rfl)) ?_
 by_cases hL:checkB L=true
 ·rw [hL]
  simp only [errC,if_true]
  simp (maxSteps:=2000000) only [go_sem,↓reduceIte,Nat.reduceLT,Nat.reduceLeDiff,Nat.reduceAdd,Nat.reduceSub,Nat.reduceMul,Nat.reduceEqDiff,reduceCtorEq,Int.reduceToNat,Int.reduceEq,Int.reduceBEq,Int.reduceBNe,Int.reduceLT,Int.reduceLE,Int.reduceNeg,Int.reduceAdd,Int.reduceSub,Int.reduceMul,Int.reduceGE,Int.reduceGT,endO]
  refine both (fun hb=>?_) (fun hb=>?_)
  ·exact retV fun E=>by
    rw [if_neg (by intro h;simp at hb;omega)]
    simp [SV.den,SC.den]
  ·exact retV fun E=>by
    rw [if_pos (by simp at hb;omega)]
    simp [SV.den,SC.den]
 ·have hL:checkB L=false:=by simpa using hL
  rw [hL]
  simp only [errC,Bool.false_eq_true,if_false]
  simp (maxSteps:=2000000) only [go_sem,↓reduceIte,Nat.reduceLT,Nat.reduceLeDiff,Nat.reduceAdd,Nat.reduceSub,Nat.reduceMul,Nat.reduceEqDiff,reduceCtorEq,Int.reduceToNat,Int.reduceEq,Int.reduceBEq,Int.reduceBNe,Int.reduceLT,Int.reduceLE,Int.reduceNeg,Int.reduceAdd,Int.reduceSub,Int.reduceMul,Int.reduceGE,Int.reduceGT,endO]
  exact retV fun E=>by simp [SV.den,SC.den]
end Go.Proofs.Ytmcpdafmkkjlcaa.Z
namespace Go.Proofs.Ytmcpdafmkkjlcaa.Z
open Go Go.RowKit
def PlainB:Blk→Prop
 | .no=>True
 | .bk _ _=>True
 | .ar _ _ _ _=>True
 | _=>False
def takes (E:Env) (x:Nm):Blk→Nat→Prop
 | .bk _ _,n=>n=E.ρ x
 | .ar _ _ _ _,n=>0<E.κ x∧n=E.ρ x
 | _,_=>False
theorem takes_iff {E:Env} {x:Nm} {b:Blk} {h:PH} (hp:PlainB b) (hd:b.den E x h) {n:Nat}:h n≠none↔takes E x b n:=by
 cases b with
 | no=>simp only [Blk.den] at hd;subst hd;simp [takes,emp]
 | bk cs ty=>simp only [Blk.den] at hd;subst hd;simp only [takes,sing];by_cases e:n=E.ρ x <;> simp [e]
 | ar m s at_ ty =>
  simp only [Blk.den] at hd
  rcases hd with ⟨_,h1,_,h4⟩ | ⟨_,⟨_,h1⟩,_,cells,h4,_⟩
  ·subst h4;simp [takes,emp,h1]
  ·subst h4;simp only [takes,sing,h1,true_and];by_cases e:n=E.ρ x <;> simp [e]
 | mp _ _ _=>exact hp.elim
 | mpe _ _ _ _ _=>exact hp.elim
 | wm _ _ _=>exact hp.elim
 | pr _=>exact hp.elim
def takesO (E:Env) (own:Own) (n:Nat):Prop:=∃ x b,atN own x=some b∧takes E x b n
def PlainO (own:Own):Prop:=∀ x b,atN own x=some b→PlainB b
def mkO (P:Program) (w:World) (W:Nat→Prop) (rs:List RS) (R:Ending→World→Prop):Ctx:=⟨P,mkTab P [],w.heap.size,W,w,rs,R⟩
theorem mkO_rs (P:Program) (w:World) (W:Nat→Prop) (rs:List RS) (R:Ending→World→Prop):(mkO P w W rs R).rs=rs:=rfl
def Handed (w:World) (E:Env) (n0:Nat) (own:Own) (arrs:List (Nat×Fm ArrF)):Prop :=
 OneC E∧∀ E',AgreeD (· < n0) E E'→OneC E'→InOk (mkO default w (takesO E own) [] fun _ _=>True) E' own arrs [AgF n0 E] w
theorem enterO {P:Program} {f nt:Nat} {fn:Func} {x:Code} {c:IR} {w:World} {E:Env} {n0:Nat} {own:Own} {arrs:List (Nat×Fm ArrF)} {rs:List RS} {R:Ending→World→Prop} (h:Handed w E n0 own arrs) (sc:List SV)
  (hf:P.funcs[f]? = some fn) (hb:fn.body=some x) (hc:compC (mkTab P []) x=some c.strip) (hr:compR (mkTab P []).T fn.results.toList=some rs) (hn:fn.ntmps=nt)
  (hsc:okVs (· < n0) sc) (hnt:sc.length≤nt)
  (hex:exec (mkO P w (takesO E own) rs R) 1000 [.code c] ⟨nt,enumT 0 sc,own,arrs,[AgF n0 E],n0⟩):Calls P f (sc.map (SV.den E)).toArray w R:=by
 have hone:=h.1
 subst hn
 refine calls_of_exec (C:=mkO P w (takesO E own) rs R) (E:=E) 1000 (mkTab_ok _ _) hf hb hc hr ⟨hone,fun E' hE' ho'=>?_⟩ hex
 obtain ⟨H,h1,h2,h3,h4⟩:=h.2 E' hE' ho'
 have hvv:sc.map (SV.den E')=sc.map (SV.den E):=dens_same (p:=(· < n0)) (fun x hx=>hE' x hx) hsc
 refine ⟨by simp;omega,rfl,ho',fun t v ht=>?_,⟨rfl,rfl,rfl,Nat.le_refl _,fun _ _ _=>rfl⟩,H,⟨h1,h2,fun x b hb n o hn=>⟨(h3 x b hb n o hn).1,Or.inr (h3 x b hb n o hn).2⟩⟩,h4⟩
 obtain ⟨j,rfl,hj⟩:=look_enumT sc 0 t v ht
 have hjl:j<sc.length:=(List.getElem?_eq_some_iff.1 hj).1
 refine ⟨by simp only;omega,?_⟩
 simp only [← hvv,Nat.zero_add,Array.getD_eq_getD_getElem?]
 rw [Array.getElem?_append_left (by simpa using hjl)]
 simp [hj]
def EffR (w:World) (E:Env) (n0:Nat) (W:Nat→Prop) (u:SV) (nx:Nat) (eff:Nat→Own) (e:Ending) (w' : World):Prop :=
 ∃ v,e = .returned v∧Frame0 w.heap.size W w w'∧∀ b,n0≤b→∃ N:Env,OneC N∧∀ E2,AgreeD (· < n0) E E2→AgreeD (NewIds b nx) N E2→v=u.den E2 ∧
  ∃ H:Nm→PH,(∀ x c,atN (eff b) x=some c→c.den E2 x (H x))∧(∀ x y c d,atN (eff b) x=some c→atN (eff b) y=some d→x≠y→∀ n,H x n=none∨H y n=none) ∧
   ∀ x c,atN (eff b) x=some c→∀ n o,H x n=some o→w'.heap[n]? = some o∧(w.heap.size≤n∨W n)
def killO (ks:List Nat):Own:=ks.map fun i=>(i,.one .no)
theorem look_app {α:Type}:∀ (l r:List (Nat×α)) (t:Nat),look (l++r) t=match look l t with | some v=>some v | none=>look r t
 | [],r,t=>rfl
 | (k,v) :: l,r,t=>by
  simp only [List.cons_append,look_cons]
  split
  ·rfl
  ·exact look_app l r t
theorem look_kill:∀ (ks:List Nat) (t:Nat),look (killO ks) t=if t∈ks then some (.one .no) else none
 | [],t=>rfl
 | k :: ks,t=>by
  simp only [killO,List.map_cons,look_cons,List.mem_cons]
  by_cases e:k=t
  ·subst e;simp
  ·have:=look_kill ks t
   simp only [killO] at this
   rw [if_neg e,this]
   by_cases h:t∈ks
   ·simp [h]
   ·have e' : ¬ t=k:=fun q=>e q.symm
    simp [h,e']
theorem atN_kill {ks:List Nat} {own:Own} {x:Nm} {c:Blk} (h:atN (killO ks++own) x=some c):(x.1∈ks∧c = .no)∨(x.1 ∉ ks∧atN own x=some c):=by
 obtain ⟨a,k⟩:=x
 simp only [atN,look_app,look_kill] at h ⊢
 by_cases e:a∈ks
 ·left
  simp only [e,if_true] at h
  simp only [Fm.get] at h
  split at h
  ·cases h;exact ⟨e,rfl⟩
  ·cases h
 ·right
  simp only [e,if_false] at h
  exact ⟨e,h⟩
theorem retEff {P:Program} {w:World} {E:Env} {n0:Nat} {W:Nat→Prop} {rs:List RS} {u v:SV} {nx:Nat} {S2:St} (σ:Nat→Nm→Nm) (ks:List Nat) (eff1:Nat→Own)
  (hf:AgF n0 E∈S2.facts) (hu:∀ E E',v.den E=u.den E') (hσ0:∀ b,n0≤b→∀ x:Nm,x.1<n0→σ b x=x)
  (ho:∀ b,n0≤b→OwnLe (fun i=>i<n0∨NewIds b nx i) (σ b) S2.own (eff1 b)) (hi:∀ b,n0≤b→InjN (σ b) (eff1 b)):RetVC (mkO P w W rs (EffR w E n0 W u nx fun b=>killO ks++eff1 b)) v S2:=by
 intro E1 a w' hs
 have hs:=hs.sat
 obtain ⟨H,hH,hF⟩:=hs.mem
 have hag:AgreeD (· < n0) E E1:=(hF w' fun _ _ _=>rfl).2 (AgF n0 E) hf
 refine ⟨_,rfl,hs.frame,fun b hb=>⟨E1.via (σ b),fun x=>hs.one _,fun E2 hE2 hN2=>⟨hu _ _,?_⟩⟩⟩
 have hR:∀ x:Nm,(x.1<n0∨NewIds b nx x.1)→SameR (σ b) E1 E2 x:=fun x hx=>by
  rcases hx with hx | hx
  ·have h1:=hag x hx
   have h2:=hE2 x hx
   unfold SameR
   rw [hσ0 b hb x hx]
   exact ⟨h2.1.trans h1.1.symm,h2.2.1.trans h1.2.1.symm,h2.2.2.1.trans h1.2.2.1.symm,h2.2.2.2.trans h1.2.2.2.symm⟩
  ·exact hN2 x hx
 have hat:∀ x c,atN (eff1 b) x=some c→(x.1<n0∨NewIds b nx x.1)∧∃ d,atN S2.own (σ b x)=some d∧BlkLe (fun i=>i<n0∨NewIds b nx i) (σ b) d c:=fun x c hx=>ownLe_at (ho b hb) hx
 refine ⟨fun x=>if x.1∈ks then emp else H (σ b x),fun x c hx=>?_,fun x y c d hx hy hne n=>?_,fun x c hx n o hn=>?_⟩
 ·rcases atN_kill hx with ⟨h1,rfl⟩ | ⟨h1,hx⟩
  ·simp only [h1,if_true];rfl
  ·simp only [h1,if_false]
   obtain ⟨h1,d,h2,h3⟩:=hat x c hx
   exact blk_le hR h1 h3 (hH.den _ _ h2)
 ·rcases atN_kill hx with ⟨h1,rfl⟩ | ⟨h1,hx⟩
  ·simp [h1,emp]
  ·rcases atN_kill hy with ⟨h2,rfl⟩ | ⟨h2,hy⟩
   ·simp [h2,emp]
   ·simp only [h1,h2,if_false]
    obtain ⟨_,d1,g2,_⟩:=hat x c hx
    obtain ⟨_,d2,k2,_⟩:=hat y d hy
    exact hH.disj _ _ d1 d2 g2 k2 (fun e=>hne (hi b hb x y c d hx hy e)) n
 ·rcases atN_kill hx with ⟨h1,rfl⟩ | ⟨h1,hx⟩
  ·simp [h1,emp] at hn
  ·simp only [h1,if_false] at hn
   obtain ⟨_,d1,g2,_⟩:=hat x c hx
   exact hH.sub _ d1 g2 n o hn
theorem takes_same {E E2:Env} {x:Nm} (h:Same E E2 x) {b:Blk} {n:Nat}:takes E2 x b n↔takes E x b n:=by
 cases b <;> simp [takes,h.1,h.2.1]
theorem blkLe_plain {p:Nat→Prop} {σ:Nm→Nm} {b b' : Blk} (h:BlkLe p σ b b') (hp:PlainB b'):PlainB b∧∀ E x n,takes E x b n↔takes E x b' n:=by
 cases b' <;> cases b <;> simp [BlkLe,PlainB] at * <;> simp [takes]
theorem cr_own {C:Ctx} {S:St} {f:Nat} {vs:List SV} {u:SV} {nx:Nat} {eff:Nat→Own} (n0:Nat) (own0:Own) (arrs0:List (Nat×Fm ArrF)) (hn0:n0≤S.nid) (hp:PlainO own0)
  (hown:OwnLe (· < n0) (idσ id) S.own own0) (harr:ArrsLe (· < n0) (idσ id) S.arrs arrs0) (hk:∀ x b,atN own0 x=some b→(look (eff S.nid) x.1).isSome=true)
  (hc:∀ E w,Handed w E n0 own0 arrs0→Calls C.P f (vs.map (SV.den E)).toArray w (EffR w E n0 (takesO E own0) u nx eff)):CR C f vs S (List.range n0) u nx (eff S.nid) []:=by
 intro E a w hs
 obtain ⟨H,hH,hF⟩:=hs.mem
 have hat:∀ x c,atN own0 x=some c→x.1<n0∧∃ d,atN S.own x=some d∧BlkLe (· < n0) (idσ id) d c:=fun x c hx=>ownLe_at hown hx
 have hand:Handed w E n0 own0 arrs0:=by
  refine ⟨hs.one,fun E' hE' ho'=>⟨H,fun x c hx=>?_,fun x y c d hx hy hne n=>?_,fun x c hx n o hn=>?_,fun w' hw'=>⟨fun x A hA=>?_,fun φ hφ=>?_⟩⟩⟩
  ·obtain ⟨h1,d,h2,h3⟩:=hat x c hx
   exact blk_le (σ:=idσ id) (fun y hy=>hE' y hy) h1 h3 (hH.den _ _ h2)
  ·obtain ⟨_,d1,g1,_⟩:=hat x c hx
   obtain ⟨_,d2,g2,_⟩:=hat y d hy
   exact hH.disj x y d1 d2 g1 g2 hne n
  ·obtain ⟨_,d1,g1,g3⟩:=hat x c hx
   refine ⟨(hH.sub x d1 g1 n o hn).1,x,c,hx,?_⟩
   obtain ⟨k1,k2⟩:=blkLe_plain g3 (hp x c hx)
   exact (k2 E x n).1 ((takes_iff k1 (hH.den x d1 g1)).1 (by rw [hn];simp))
  ·obtain ⟨h1,A0,h2,h3,h4,h5,h6⟩:=arrsLe_at harr hA
   have hold:=hF w' fun n hn hfr=>hw' n hn fun x c hx=>by
    obtain ⟨_,d1,g1,_⟩:=hat x c hx
    exact hfr x d1 g1
   obtain ⟨ba,cap,g1,g2,g3,g4⟩:=hold.1 x A0 h2
   have hR:∀ y:Nm,y.1<n0→SameR (idσ id) E E' y:=fun y hy=>hE' y hy
   refine ⟨ba,cap,by rw [(hR x h1).2.2.2];exact g1.trans (by rw [h3]),by omega,g3,?_⟩
   rcases g4 with g4 | ⟨b,off,rfl,gl,g4⟩
   ·exact Or.inl (by omega)
   ·refine Or.inr ⟨b,off,rfl,Nat.le_trans h6 gl,fun k hk=>?_⟩
    obtain ⟨f1,f2⟩:=g4 k (by omega)
    obtain ⟨e1,e2⟩:=h5 k hk
    rw [e1] at f1 f2
    refine ⟨by rw [renL_eq,List.length_map] at f1;omega,fun j q hq=>?_⟩
    have:=f2 j _ (mem_renL hq)
    rw [den_ren hR q (okL_mem e2 hq),← h4]
    exact this
  ·simp only [List.mem_singleton] at hφ
   subst hφ
   exact hE'
 refine (hc E w hand).mono ?_
 rintro e w' ⟨v,rfl,hfr,hN⟩
 obtain ⟨N,hN1,hN2⟩:=hN S.nid hn0
 refine ⟨v,rfl,N,hN1,fun E2 hs2 hks hag=>?_⟩
 have hE2:AgreeD (· < n0) E E2:=fun x hx=>hks x (List.mem_range.2 hx)
 obtain ⟨h1,H',h2,h3,h4⟩:=hN2 E2 hE2 hag
 refine ⟨h1,Fits.G ⟨fun H2 hH2=>?_,fun _ _ x A hA=>by simp [atN,look] at hA⟩⟩
 have htk:∀ x c,atN own0 x=some c→∃ d,atN S.own x=some d∧∀ n,H2 x n≠none↔takes E x c n:=fun x c hx=>by
  obtain ⟨k0,d,g1,g3⟩:=hat x c hx
  obtain ⟨k1,k2⟩:=blkLe_plain g3 (hp x c hx)
  refine ⟨d,g1,fun n=>?_⟩
  rw [takes_iff k1 (hH2.den x d g1),k2 E2 x n,takes_same (hE2 x k0)]
 refine ⟨hfr.os,hfr.tape,hfr.output,hfr.size,fun n hn hfree=>hfr.keep n hn ?_,H',h2,h3,fun x c hx n o hn=>⟨(h4 x c hx n o hn).1,(h4 x c hx n o hn).2.imp id ?_⟩⟩
 ·rintro ⟨x,c,hx,ht⟩
  obtain ⟨d,g1,g2⟩:=htk x c hx
  exact (g2 n).2 ht (hfree x d (hk x c hx) g1)
 ·rintro ⟨y,c,hy,ht⟩
  obtain ⟨d,g1,g2⟩:=htk y c hy
  exact ⟨y,d,hk y c hy,g1,(g2 n).2 ht⟩
end Go.Proofs.Ytmcpdafmkkjlcaa.Z
namespace Go.Proofs.Ytmcpdafmkkjlcaa.Z
open Go Go.RowKit
def stP (s:LS):Own:=(5,.one (.bk (stC 6 s) 32)) :: stO 6 s
theorem stP_plain (s:LS):PlainO (stP s):=by
 intro x b hx
 simp only [stP,stO] at hx
 rcases atN_one hx with ⟨rfl,rfl⟩ | hx
 ·trivial
 rcases atN_one hx with ⟨rfl,rfl⟩ | hx
 ·trivial
 rcases atN_one hx with ⟨rfl,rfl⟩ | hx
 ·trivial
 rcases atN_one hx with ⟨rfl,rfl⟩ | hx
 ·trivial
 rcases atN_one hx with ⟨rfl,rfl⟩ | hx
 ·trivial
 rcases atN_fam hx with ⟨k,hk,rfl,rfl⟩ | hx
 ·trivial
 ·exact (atN_nil hx).elim
theorem arLe_same {α:Type} {p:Nat→Prop} {σ:Nm→Nm} {enc:α→List Value} {n s ty:Nat} {xs:List α} {d:α}:BlkLe p σ (.ar n s (ats enc xs d) ty) (.ar n s (ats enc xs d) ty):=arLe_of (Nat.le_refl _) fun _ _=>rfl
theorem stP_le {p:Nat→Prop} {τ:Nat→Nat} {own:Own} {s:LS} (hp:∀ i,i<11→p i) (hτ:∀ i,i<11→τ i=i) (h5:look own 5=some (.one (.bk (stC 6 s) 32))) (h6:look own 6=some (.one (.ar s.words.length 1 (ats eI s.words 0) 3))) (h7:look own 7=some (.one (.ar s.regs.length 4 (ats R4.enc s.regs r40) 68)))
  (h8:look own 8=some (.one (.ar s.places.length 1 (ats eI s.places 0) 3))) (h9:look own 9=some (.one (.ar s.bufs.length 1 (bfC 10 s) 86))) (h10:look own 10=some (.fam s.bufs.length (bfO s))):OwnLe p (idσ τ) own (stP s):=by
 have t5:=hτ 5 (by decide);have t6:=hτ 6 (by decide);have t7:=hτ 7 (by decide);have t8:=hτ 8 (by decide);have t9:=hτ 9 (by decide);have t10:=hτ 10 (by decide)
 have p5:=hp 5 (by decide);have p6:=hp 6 (by decide);have p7:=hp 7 (by decide);have p8:=hp 8 (by decide);have p9:=hp 9 (by decide);have p10:=hp 10 (by decide)
 refine ⟨⟨p5,?_⟩,⟨p6,?_⟩,⟨p7,?_⟩,⟨p8,?_⟩,⟨p9,?_⟩,⟨p10,fun k hk=>?_⟩,trivial⟩
 ·simp only [idσ,t5,atN,h5,Fm.get,and_self,if_true]
  exact ⟨by simp [stC,SC.renL,SC.ren,idσ,t6,t7,t8,t9],rfl,by simp [stC,SC.okL,SC.okN,p6,p7,p8,p9]⟩
 ·simp only [idσ,Nat.reduceAdd,t6,atN,h6,Fm.get,and_self,if_true];exact arLe_same
 ·simp only [idσ,Nat.reduceAdd,t7,atN,h7,Fm.get,and_self,if_true];exact arLe_same
 ·simp only [idσ,Nat.reduceAdd,t8,atN,h8,Fm.get,and_self,if_true];exact arLe_same
 ·simp only [idσ,Nat.reduceAdd,t9,atN,h9,Fm.get,and_self,if_true]
  exact ⟨Nat.le_refl _,rfl,rfl,fun e he=>⟨by simp [bfC,SC.renL,SC.ren,idσ,t10],by simp [bfC,SC.okL,SC.okN,p10]⟩⟩
 ·simp only [idσ,Nat.reduceAdd,t10,atN,h10,Fm.get,hk,and_self,if_true];exact arLe_same
theorem facts_id {n n0:Nat} {E0:Env} {fs:List (Env→World→Prop)} {τ:Nat→Nat} (h:AgF n0 E0∈fs) (hn:n0≤n) (hτ:∀ i,i<n0→τ i=i):FactsLe (idσ τ) n fs [AgF n0 E0]:=⟨factA h hn hτ,trivial⟩
end Go.Proofs.Ytmcpdafmkkjlcaa.Z
namespace Go.Proofs.Ytmcpdafmkkjlcaa.Z
open Go Go.RowKit
def stE (b:Nat) (s:LS):Own:=[(5,.one (.bk (stC 6 s) 32)),(6,.one (.ar s.words.length 1 (ats eI s.words 0) 3)),(7,.one (.ar s.regs.length 4 (ats R4.enc s.regs r40) 68)),(8,.one (.ar s.places.length 1 (ats eI s.places 0) 3)),(9,.one (.ar s.bufs.length 1 (bfC b s) 86)),(b,.fam s.bufs.length (bfO s))]
def tnσ (τ:Nat→Nm) (b:Nat) (x:Nm):Nm:=if x.1=b then τ x.2.1 else x
theorem retTurn {P:Program} {w:World} {E:Env} {W:Nat→Prop} {rs:List RS} {u v:SV} {s:LS} {S2:St} (τ:Nat→Nm) {aw ar ap ab:Nat→List SC} (hf:AgF 11 E∈S2.facts) (hu:∀ E E',v.den E=u.den E')
  (h5:look S2.own 5=some (.one (.bk (stC 6 s) 32))) (h6:look S2.own 6=some (.one (.ar s.words.length 1 aw 3))) (e6:∀ e,e<s.words.length→aw e=ats eI s.words 0 e)
  (h7:look S2.own 7=some (.one (.ar s.regs.length 4 ar 68))) (e7:∀ e,e<s.regs.length→ar e=ats R4.enc s.regs r40 e) (h8:look S2.own 8=some (.one (.ar s.places.length 1 ap 3))) (e8:∀ e,e<s.places.length→ap e=ats eI s.places 0 e)
  (h9:look S2.own 9=some (.one (.ar s.bufs.length 1 ab 86))) (e9:∀ e,e<s.bufs.length→ab e=[.sl (τ e) 2 0 (s.bufs.getD e []).length none])
  (h10:∀ e,e<s.bufs.length→∃ m at_,atN S2.own (τ e)=some (.ar m 2 at_ 88)∧(s.bufs.getD e []).length≤m∧∀ i,i<(s.bufs.getD e []).length→at_ i=ats Pd.enc (s.bufs.getD e []) pd0 i)
  (hτ:∀ e e',e<s.bufs.length→e' < s.bufs.length→τ e=τ e'→e=e') (hτ2:∀ e,e<s.bufs.length→10≤(τ e).1) :
  RetVC (mkO P w W rs (EffR w E 11 W u 1 fun b=>killO [10]++stE b s)) v S2:=by
 have n5:∀ b i,11≤b→i<10→tnσ τ b (i,0,0)=(i,0,0):=fun b i hb hi=>by
  unfold tnσ;rw [if_neg (by simp only;omega)]
 refine retEff (tnσ τ) [10] (fun b=>stE b s) hf hu (fun b hb x hx=>?_) (fun b hb=>?_) (fun b hb=>?_)
 ·unfold tnσ;rw [if_neg (by omega)]
 ·have q:∀ i,i<10→(i<11∨NewIds b 1 i):=fun i hi=>Or.inl (by omega)
  have qb:(b<11∨NewIds b 1 b):=Or.inr ⟨Nat.le_refl _,Nat.lt_succ_self _⟩
  refine ⟨⟨q 5 (by decide),?_⟩,⟨q 6 (by decide),?_⟩,⟨q 7 (by decide),?_⟩,⟨q 8 (by decide),?_⟩,⟨q 9 (by decide),?_⟩,⟨qb,fun k hk=>?_⟩,trivial⟩
  ·simp only [n5 b 5 hb (by decide),atN,h5,Fm.get,and_self,if_true]
   refine ⟨?_,rfl,?_⟩
   ·simp only [stC,SC.renL,SC.ren,Nat.reduceAdd,n5 b 6 hb (by decide),n5 b 7 hb (by decide),n5 b 8 hb (by decide),n5 b 9 hb (by decide)]
   ·simp only [stC,SC.okL,SC.okN,Nat.reduceAdd,and_true]
    exact ⟨q 6 (by decide),q 7 (by decide),q 8 (by decide),q 9 (by decide)⟩
  ·simp only [n5 b 6 hb (by decide),atN,h6,Fm.get,and_self,if_true];exact arLe_of (Nat.le_refl _) e6
  ·simp only [n5 b 7 hb (by decide),atN,h7,Fm.get,and_self,if_true];exact arLe_of (Nat.le_refl _) e7
  ·simp only [n5 b 8 hb (by decide),atN,h8,Fm.get,and_self,if_true];exact arLe_of (Nat.le_refl _) e8
  ·simp only [n5 b 9 hb (by decide),atN,h9,Fm.get,and_self,if_true]
   refine ⟨Nat.le_refl _,rfl,rfl,fun e he=>⟨?_,?_⟩⟩
   ·rw [e9 e he];simp [bfC,SC.renL,SC.ren,tnσ]
   ·simp only [bfC,SC.okL,SC.okN,and_true];exact qb
  ·have e1:tnσ τ b (b,k,0)=τ k:=by simp [tnσ]
   obtain ⟨m,at_,g1,g2,g3⟩:=h10 k hk
   rw [e1,g1]
   exact arLe_of g2 g3
 ·intro x y c d hx hy e
  have hx2:∀ z c,atN (stE b s) z=some c→(z.1<10∧z.1≠b)∨∃ k,k<s.bufs.length∧z=(b,k,0):=fun z c hz=>by
   simp only [stE] at hz
   rcases atN_one hz with ⟨rfl,rfl⟩ | hz
   ·left;simp only;omega
   rcases atN_one hz with ⟨rfl,rfl⟩ | hz
   ·left;simp only;omega
   rcases atN_one hz with ⟨rfl,rfl⟩ | hz
   ·left;simp only;omega
   rcases atN_one hz with ⟨rfl,rfl⟩ | hz
   ·left;simp only;omega
   rcases atN_one hz with ⟨rfl,rfl⟩ | hz
   ·left;simp only;omega
   rcases atN_fam hz with ⟨k,hk,rfl,rfl⟩ | hz
   ·exact Or.inr ⟨k,hk,rfl⟩
   ·exact (atN_nil hz).elim
  rcases hx2 x c hx with ⟨a1,a2⟩ | ⟨k,hk,rfl⟩
  ·rcases hx2 y d hy with ⟨b1,b2⟩ | ⟨k',hk',rfl⟩
   ·unfold tnσ at e;rw [if_neg a2,if_neg b2] at e;exact e
   ·unfold tnσ at e;rw [if_neg a2,if_pos rfl] at e
    have:=hτ2 k' hk'
    rw [← e] at this;omega
  ·rcases hx2 y d hy with ⟨b1,b2⟩ | ⟨k',hk',rfl⟩
   ·unfold tnσ at e;rw [if_neg b2,if_pos rfl] at e
    have:=hτ2 k hk
    rw [e] at this;omega
   ·unfold tnσ at e;rw [if_pos rfl,if_pos rfl] at e
    rw [hτ k k' hk hk' e]
theorem set_atsT {α:Type} {enc:α→List Value} {xs:List α} {d:α} {k:Nat} {c:α} (hk:k<xs.length):setAt k (ats enc xs d) ((enc c).map .v)=ats enc (xs.set k c) d:=by
 funext e
 simp only [setAt,ats]
 rw [List.getD_eq_getElem?_getD,List.getD_eq_getElem?_getD,List.getElem?_set]
 by_cases h:e=k
 ·subst h;rw [if_pos rfl,if_pos rfl,if_pos hk];rfl
 ·rw [if_neg h,if_neg (fun q=>h q.symm)]
theorem retTurnL {P:Program} {w:World} {E:Env} {W:Nat→Prop} {rs:List RS} {u v:SV} {s s0:LS} {S2:St} (τ:Nat→Nm) {aw ar ap ab:Nat→List SC} (hf:AgF 11 E∈S2.facts) (hu:∀ E E',v.den E=u.den E')
  (lw:s.words.length=s0.words.length) (lr:s.regs.length=s0.regs.length) (lp:s.places.length=s0.places.length) (lb:s.bufs.length=s0.bufs.length)
  (h5:look S2.own 5=some (.one (.bk (stC 6 s0) 32))) (h6:look S2.own 6=some (.one (.ar s0.words.length 1 aw 3))) (e6:∀ e,e<s0.words.length→aw e=ats eI s.words 0 e)
  (h7:look S2.own 7=some (.one (.ar s0.regs.length 4 ar 68))) (e7:∀ e,e<s0.regs.length→ar e=ats R4.enc s.regs r40 e) (h8:look S2.own 8=some (.one (.ar s0.places.length 1 ap 3))) (e8:∀ e,e<s0.places.length→ap e=ats eI s.places 0 e)
  (h9:look S2.own 9=some (.one (.ar s0.bufs.length 1 ab 86))) (e9:∀ e,e<s0.bufs.length→ab e=[.sl (τ e) 2 0 (s.bufs.getD e []).length none])
  (h10:∀ e,e<s0.bufs.length→∃ m at_,atN S2.own (τ e)=some (.ar m 2 at_ 88)∧(s.bufs.getD e []).length≤m∧∀ i,i<(s.bufs.getD e []).length→at_ i=ats Pd.enc (s.bufs.getD e []) pd0 i)
  (hτ:∀ e e',e<s0.bufs.length→e' < s0.bufs.length→τ e=τ e'→e=e') (hτ2:∀ e,e<s0.bufs.length→10≤(τ e).1) :
  RetVC (mkO P w W rs (EffR w E 11 W u 1 fun b=>killO [10]++stE b s)) v S2:=by
 rw [← lw] at h6 e6;rw [← lr] at h7 e7;rw [← lp] at h8 e8;rw [← lb] at h9 e9 h10 hτ hτ2
 refine retTurn τ hf hu ?_ h6 e6 h7 e7 h8 e8 h9 e9 h10 hτ hτ2
 rw [h5]
 simp only [stC,lw,lr,lp,lb]
def tau1 (k j:Nat) (e:Nat):Nm:=if e=k then (j,0,0) else (10,e,0)
theorem tau1_inj {k j:Nat} (hj:j≠10) {e e' : Nat} (h:tau1 k j e=tau1 k j e'):e=e':=by
 unfold tau1 at h
 split at h <;> split at h <;> simp at h <;> omega
theorem tau1_ge {k j:Nat} (hj:10≤j) (e:Nat):10≤(tau1 k j e).1:=by
 unfold tau1;split <;> simp <;> omega
theorem one_h10 {own:Own} {s:LS} {k j:Nat} {L' : List Pd} {F:Nat→Blk} (hk:k<s.bufs.length) (hfam:look own 10=some (.fam s.bufs.length F)) (hF:∀ e,e≠k→F e=bfO s e) {m:Nat} {at_:Nat→List SC} (hat:look own j=some (.one (.ar m 2 at_ 88))) (hl:L'.length≤m) (ha:∀ i,i<L'.length→at_ i=ats Pd.enc L' pd0 i) :
  ∀ e,e<s.bufs.length→∃ m at_,atN own (tau1 k j e)=some (.ar m 2 at_ 88)∧((s.bufs.set k L').getD e []).length≤m∧∀ i,i<((s.bufs.set k L').getD e []).length→at_ i=ats Pd.enc ((s.bufs.set k L').getD e []) pd0 i:=by
 intro e he
 rw [getD_setE]
 unfold tau1
 by_cases h:e=k
 ·subst h
  rw [if_pos rfl,if_pos ⟨rfl,he⟩]
  exact ⟨m,at_,by simp [atN,hat,Fm.get],hl,ha⟩
 ·rw [if_neg h,if_neg (fun q=>h q.1.symm)]
  exact ⟨_,_,by simp [atN,hfam,Fm.get,he,hF e h,bfO],Nat.le_refl _,fun _ _=>rfl⟩
theorem one_e9 {s:LS} {k j n:Nat} {L' : List Pd} (hk:k<s.bufs.length) (hn:n=L'.length):∀ e,e<s.bufs.length→setAt k (bfC 10 s) [.sl (j,0,0) 2 0 n none] e=[.sl (tau1 k j e) 2 0 ((s.bufs.set k L').getD e []).length none]:=by
 intro e he
 subst hn
 rw [getD_setE]
 unfold tau1 setAt
 by_cases h:e=k
 ·subst h
  rw [if_pos rfl,if_pos rfl,if_pos ⟨rfl,he⟩]
 ·rw [if_neg h,if_neg h,if_neg (fun q=>h q.1.symm)]
  rfl
theorem retTurnA {P:Program} {w:World} {E:Env} {W:Nat→Prop} {rs:List RS} {u v:SV} {s:LS} {S2:St} {k j:Nat} {x:Pd} {pl:List Int} {F:Nat→Blk} {g:Nat→List SC} {ap:Nat→List SC} (hk:k<s.bufs.length) (hj:10<j) (hf:AgF 11 E∈S2.facts) (hu:∀ E E',v.den E=u.den E') (hpl:pl.length=s.places.length)
  (h5:look S2.own 5=some (.one (.bk (stC 6 s) 32))) (h6:look S2.own 6=some (.one (.ar s.words.length 1 (ats eI s.words 0) 3))) (h7:look S2.own 7=some (.one (.ar s.regs.length 4 (ats R4.enc s.regs r40) 68)))
  (h8:look S2.own 8=some (.one (.ar s.places.length 1 ap 3))) (e8:ap=ats eI pl 0)
  (h9:look S2.own 9=some (.one (.ar s.bufs.length 1 (setAt k (bfC 10 s) [.sl (j,0,0) 2 0 ((s.bufs.getD k []).length+1) none]) 86))) (h10:look S2.own 10=some (.fam s.bufs.length F)) (hF:∀ e,e≠k→F e=bfO s e)
  (h11:look S2.own j=some (.one (.ar ((s.bufs.getD k []).length+1) 2 (appAt (s.bufs.getD k []).length (ats Pd.enc (s.bufs.getD k []) pd0) g) 88))) (hg:g 0=x.enc.map .v) :
  RetVC (mkO P w W rs (EffR w E 11 W u 1 fun b=>killO [10]++stE b ⟨s.words,s.regs,pl,s.bufs.set k (s.bufs.getD k []++[x])⟩)) v S2:=by
 refine retTurnL (s:=⟨s.words,s.regs,pl,s.bufs.set k (s.bufs.getD k []++[x])⟩) (s0:=s) (tau1 k j) hf hu rfl rfl hpl (by simp) h5 h6 (fun _ _=>rfl) h7 (fun _ _=>rfl) h8 (fun e _=>by rw [e8]) h9 (one_e9 hk (by simp)) (one_h10 hk h10 hF h11 (by simp) fun i hi=>?_) (fun _ _ _ _ h=>tau1_inj (by omega) h) (fun e _=>tau1_ge (by omega) e)
 exact ats_push (d:=pd0) rfl rfl (fun _ _=>rfl) hg i hi
theorem retTurn0 {P:Program} {w:World} {E:Env} {W:Nat→Prop} {rs:List RS} {u v:SV} {s:LS} {S2:St} (hf:AgF 11 E∈S2.facts) (hu:∀ E E',v.den E=u.den E') (h5:look S2.own 5=some (.one (.bk (stC 6 s) 32))) (h6:look S2.own 6=some (.one (.ar s.words.length 1 (ats eI s.words 0) 3))) (h7:look S2.own 7=some (.one (.ar s.regs.length 4 (ats R4.enc s.regs r40) 68)))
  (h8:look S2.own 8=some (.one (.ar s.places.length 1 (ats eI s.places 0) 3))) (h9:look S2.own 9=some (.one (.ar s.bufs.length 1 (bfC 10 s) 86))) (h10:look S2.own 10=some (.fam s.bufs.length (bfO s))):RetVC (mkO P w W rs (EffR w E 11 W u 1 fun b=>killO [10]++stE b s)) v S2 :=
 retTurn (fun e=>(10,e,0)) hf hu h5 h6 (fun _ _=>rfl) h7 (fun _ _=>rfl) h8 (fun _ _=>rfl) h9 (fun _ _=>rfl) (fun e he=>⟨_,_,by simp [atN,h10,Fm.get,he,bfO],Nat.le_refl _,fun _ _=>rfl⟩) (fun e e' _ _ h=>by simpa using h) (fun e _=>Nat.le_refl _)
theorem retTurnP {P:Program} {w:World} {E:Env} {W:Nat→Prop} {rs:List RS} {u v:SV} {s s0:LS} {S2:St} {aw ar ap:Nat→List SC} (hf:AgF 11 E∈S2.facts) (hu:∀ E E',v.den E=u.den E')
  (lw:s.words.length=s0.words.length) (lr:s.regs.length=s0.regs.length) (lp:s.places.length=s0.places.length) (lb:s.bufs=s0.bufs)
  (h5:look S2.own 5=some (.one (.bk (stC 6 s0) 32))) (h6:look S2.own 6=some (.one (.ar s0.words.length 1 aw 3))) (e6:aw=ats eI s.words 0)
  (h7:look S2.own 7=some (.one (.ar s0.regs.length 4 ar 68))) (e7:ar=ats R4.enc s.regs r40) (h8:look S2.own 8=some (.one (.ar s0.places.length 1 ap 3))) (e8:ap=ats eI s.places 0)
  (h9:look S2.own 9=some (.one (.ar s0.bufs.length 1 (bfC 10 s0) 86))) (h10:look S2.own 10=some (.fam s0.bufs.length (bfO s0))) :
  RetVC (mkO P w W rs (EffR w E 11 W u 1 fun b=>killO [10]++stE b s)) v S2 :=
 retTurnL (s0:=s0) (fun e=>(10,e,0)) hf hu lw lr lp (by rw [lb]) h5 h6 (fun e _=>by rw [e6]) h7 (fun e _=>by rw [e7]) h8 (fun e _=>by rw [e8]) h9 (fun e _=>by rw [lb];rfl) (fun e he=>⟨(s0.bufs.getD e []).length,ats Pd.enc (s0.bufs.getD e []) pd0,by simp [atN,h10,Fm.get,he,bfO],by rw [lb];exact Nat.le_refl _,fun _ _=>by rw [lb]⟩) (fun e e' _ _ h=>by simpa using h) (fun e _=>Nat.le_refl _)
theorem fI_some {o addr:Int} {l:List Pd} {i:Nat} (hi:i<l.length) (h:hitB o addr (l.getD i pd0)=true) (hn:∀ j,j<i→hitB o addr (l.getD j pd0)=false):l.findIdx? (hitB o addr)=some i:=by
 rw [List.findIdx?_eq_some_iff_getElem]
 refine ⟨hi,by rw [List.getD_eq_getElem?_getD,List.getElem?_eq_getElem hi] at h;exact h,fun j hj=>?_⟩
 have:=hn j hj
 rw [List.getD_eq_getElem?_getD,List.getElem?_eq_getElem (by omega)] at this
 simpa using this
theorem fI_none {o addr:Int} {l:List Pd} (hn:∀ j,j<l.length→hitB o addr (l.getD j pd0)=false):l.findIdx? (hitB o addr)=none:=by
 rw [List.findIdx?_eq_none_iff]
 intro x hx
 obtain ⟨j,hj,rfl⟩:=List.getElem_of_mem hx
 have:=hn j hj
 rw [List.getD_eq_getElem?_getD,List.getElem?_eq_getElem hj] at this
 exact this
end Go.Proofs.Ytmcpdafmkkjlcaa.Z
namespace Go.Proofs.Ytmcpdafmkkjlcaa.Z
open Go Go.RowKit
theorem ats_eI (xs:List Int) (d:Int) (e:Nat):ats eI xs d e=[.v (.int .i64 (xs.getD e d))]:=rfl
theorem nth_r4 {xs:List R4} {k:Nat} {r:Int} (hr:0≤r∧r<4):nth (ats R4.enc xs r40 k) r.toNat=some (.v (.int .i64 ((xs.getD k r40).get r))):=by
 have:r=0∨r=1∨r=2∨r=3:=by omega
 rcases this with rfl | rfl | rfl | rfl <;> rfl
theorem put_r4 {xs:List R4} {k:Nat} {r v:Int} (hk:k<xs.length) (hr:0≤r∧r<4):setAt k (ats R4.enc xs r40) (take' r.toNat (ats R4.enc xs r40 k)++[.v (.int .i64 v)]++drop' (r.toNat+1) (ats R4.enc xs r40 k))=ats R4.enc (xs.set k ((xs.getD k r40).put r v)) r40:=by
 rw [← set_atsT hk]
 congr 1
 have:r=0∨r=1∨r=2∨r=3:=by omega
 rcases this with rfl | rfl | rfl | rfl <;> rfl
theorem put_twice {xs:List R4} {k:Nat} {r u v:Int} (hk:k<xs.length) (hr:0≤r∧r<4):(xs.set k ((xs.getD k r40).put r u)).set k (((xs.set k ((xs.getD k r40).put r u)).getD k r40).put r v)=xs.set k ((xs.getD k r40).put r v):=by
 rw [getD_setE,if_pos ⟨rfl,hk⟩,List.set_set]
 congr 1
 have:r=0∨r=1∨r=2∨r=3:=by omega
 rcases this with rfl | rfl | rfl | rfl <;> rfl
theorem st2 (o:Int) (s:LS) (k:Nat) (reg ad val frm old cnt:Int):stepS o s k ⟨2,reg,ad,val,frm,old,cnt⟩=if o=1 then some ({ s with words:=s.words.set ad.toNat (if frm≥0 then (s.regs.getD k r40).get frm else val) },1) else some ({ s with bufs:=s.bufs.set k (s.bufs.getD k []++[⟨ad,if frm≥0 then (s.regs.getD k r40).get frm else val⟩]) },1):=by
 unfold stepS;rfl
theorem st3 (o:Int) (s:LS) (k:Nat) (reg ad val frm old cnt:Int):stepS o s k ⟨3,reg,ad,val,frm,old,cnt⟩=if (s.bufs.getD k []).length>0 then none else if s.words.getD ad.toNat 0=old then some ({ s with words:=s.words.set ad.toNat val,regs:=s.regs.set k ((s.regs.getD k r40).put reg 1) },1) else some ({ s with regs:=s.regs.set k ((s.regs.getD k r40).put reg 0) },1):=by
 unfold stepS;rfl
theorem st4 (o:Int) (s:LS) (k:Nat) (reg ad val frm old cnt:Int):stepS o s k ⟨4,reg,ad,val,frm,old,cnt⟩=if (s.bufs.getD k []).length>0 then none else some (s,1):=by
 unfold stepS;rfl
theorem st7 (o:Int) (s:LS) (k:Nat) (reg ad val frm old cnt:Int):stepS o s k ⟨7,reg,ad,val,frm,old,cnt⟩=if (s.regs.getD k r40).get reg=val then some (s,1+cnt) else some (s,1):=by
 unfold stepS;rfl
attribute [go_sem] mkO_rs ats_eI
theorem stE_key {s s' : LS} {b:Nat}:∀ x c,atN (stP s) x=some c→(look (killO [10]++stE b s') x.1).isSome=true:=by
 intro x c hx
 simp only [stP,stO] at hx
 rcases atN_one hx with ⟨rfl,rfl⟩ | hx
 ·rfl
 rcases atN_one hx with ⟨rfl,rfl⟩ | hx
 ·rfl
 rcases atN_one hx with ⟨rfl,rfl⟩ | hx
 ·rfl
 rcases atN_one hx with ⟨rfl,rfl⟩ | hx
 ·rfl
 rcases atN_one hx with ⟨rfl,rfl⟩ | hx
 ·rfl
 rcases atN_fam hx with ⟨k,hk,rfl,rfl⟩ | hx
 ·rfl
 ·exact (atN_nil hx).elim
theorem lt11 {n:Nat} (h:11≤n):∀ i∈List.range 11,i<n:=fun i hi=>Nat.lt_of_lt_of_le (List.mem_range.1 hi) h
theorem retTurnN {P:Program} {w:World} {E:Env} {W:Nat→Prop} {rs:List RS} {u v:SV} {s:LS} {S2:St} (n:Nat) (hn:10≤n) (hf:AgF 11 E∈S2.facts) (hu:∀ E E',v.den E=u.den E') (h5:look S2.own 5=some (.one (.bk (stC 6 s) 32))) (h6:look S2.own 6=some (.one (.ar s.words.length 1 (ats eI s.words 0) 3))) (h7:look S2.own 7=some (.one (.ar s.regs.length 4 (ats R4.enc s.regs r40) 68)))
  (h8:look S2.own 8=some (.one (.ar s.places.length 1 (ats eI s.places 0) 3))) (h9:look S2.own 9=some (.one (.ar s.bufs.length 1 (bfC n s) 86))) (h10:look S2.own n=some (.fam s.bufs.length (bfO s))):RetVC (mkO P w W rs (EffR w E 11 W u 1 fun b=>killO [10]++stE b s)) v S2 :=
 retTurn (fun e=>(n,e,0)) hf hu h5 h6 (fun _ _=>rfl) h7 (fun _ _=>rfl) h8 (fun _ _=>rfl) h9 (fun _ _=>rfl) (fun e he=>⟨_,_,by simp [atN,h10,Fm.get,he,bfO],Nat.le_refl _,fun _ _=>rfl⟩) (fun e e' _ _ h=>by simpa using h) (fun e _=>hn)
end Go.Proofs.Ytmcpdafmkkjlcaa.Z
