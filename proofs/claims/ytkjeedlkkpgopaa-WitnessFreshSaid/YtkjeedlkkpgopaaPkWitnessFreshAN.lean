/- WitnessFreshSaid: what its proof is made of. No condition. -/
import Derived.Test.YtkjeedlkkpgopaaPkWitnessFreshAM
set_option linter.unusedSimpArgs false
set_option linter.unusedVariables false
namespace Go.Proofs.Ytkjeedlkkpgopaa.Z
open Go Go.RowKit
def ir99:IR:=(.seq (.ops [⟨(some 4),(.mv (.k (.c (.v (.int .i64 0))))),none⟩]) (.kill [2,3,4,5,6,7,8,9,10,11] (.seq (.seq (.ops [⟨(some 6),(.mv (.t 0)),none⟩,⟨(some 7),(.len (.t 6)),none⟩,⟨(some 8),(.mv (.k (.c (.v (.int .i64 0))))),none⟩]) (.kill [6] (.blk 0 (.loop (.seq (.ops [⟨(some 9),(.bin .lss (.t 8) (.t 7)),none⟩]) (.kill [4,5,10,11,12,13,14,15,16,17,18] (.seq (.cond (.t 9) .skip (.exit 0)) (.kill [9] (.seq (.blk 1 (.seq (.ops [⟨(some 10),(.mv (.t 8)),none⟩,⟨(some 5),(.mv (.t 10)),none⟩]) (.kill [10] (.seq (.ops [⟨(some 11),(.mv (.t 1)),none⟩,⟨(some 12),(.mv (.t 0)),none⟩,⟨(some 13),(.mv (.t 5)),none⟩,⟨(some 14),(.ia 1 (.t 12) (.t 13)),none⟩,⟨(some 15),(.ld false 1 (.t 14)),none⟩,⟨(some 16),(.bin .eql (.t 11) (.t 15)),none⟩]) (.kill [11,12,13,14,15] (.cond (.t 16) (.seq (.ops [⟨(some 17),(.mv (.t 5)),none⟩,⟨(some 4),(.mv (.t 17)),none⟩]) (.kill [0,1,5,7,8,16,17] .ret)) .skip)))))) (.kill [4,5,10,11,12,13,14,15,16,17] (.ops [⟨(some 18),(.bin .add (.t 8) (.k (.c (.v (.int .i64 1))))),none⟩,⟨(some 8),(.mv (.t 18)),none⟩]))))))))))) (.kill [0,1,4,5,7,8,9,10,11,12,13,14,15,16,17,18] (.seq (.ops [⟨(some 4),(.mv (.k (.c (.v (.int .i64 (-1)))))),none⟩]) .ret)))))
def rs99:List RS:=[(.t 4)]
def nt99:Nat:=19
def ir85:IR:=(.seq (.ops [⟨(some 4),(.mv (.k (.c (.v (.bool false))))),none⟩]) (.kill [2,3,4,5,6,7,8,9,10,11] (.seq (.ops [⟨(some 5),(.mv (.t 0)),none⟩,⟨(some 6),(.mv (.t 1)),none⟩,⟨(some 7),(.call 99 [(.t 5),(.t 6)]),none⟩,⟨(some 8),(.bin .geq (.t 7) (.k (.c (.v (.int .i64 0))))),none⟩,⟨(some 4),(.mv (.t 8)),none⟩]) (.kill [0,1,5,6,7,8] .ret))))
def rs85:List RS:=[(.t 4)]
def nt85:Nat:=9
def ir69:IR:=(.seq (.ops [⟨(some 2),(.mv (.k (.c (.v (.slice none 0 0))))),none⟩]) (.kill [1,2,3,4,5,6,7,8,9,10,11] (.seq (.ops [⟨(some 3),(.mv (.t 0)),none⟩,⟨(some 4),(.mv (.t 0)),none⟩,⟨(some 5),(.len (.t 4)),none⟩,⟨(some 6),(.mv (.t 0)),none⟩,⟨(some 7),(.len (.t 6)),none⟩,⟨(some 8),(.slc 1 (.t 3) none (some (.t 5)) (some (.t 7))),none⟩,⟨(some 2),(.mv (.t 8)),none⟩]) (.kill [0,3,4,5,6,7,8] .ret))))
def rs69:List RS:=[(.t 2)]
def nt69:Nat:=9
def ir65:IR:=(.seq (.ops [⟨(some 4),(.mv (.k (.c (.v (.bool false))))),none⟩]) (.kill [2,3,4,5,6,7,8,9,10,11] (.seq (.seq (.ops [⟨(some 7),(.mv (.t 0)),none⟩,⟨(some 8),(.nilck (.t 7)),none⟩,⟨(some 9),(.fa 0 (.t 8)),none⟩,⟨(some 10),(.ld false 1 (.t 9)),none⟩,⟨(some 11),(.len (.t 10)),none⟩,⟨(some 12),(.mv (.k (.c (.v (.int .i64 0))))),none⟩]) (.kill [0,7,8,9] (.blk 0 (.loop (.seq (.ops [⟨(some 13),(.bin .lss (.t 12) (.t 11)),none⟩]) (.kill [4,5,6,14,15,16,17,18,19,20,21,22,23,24,25,26] (.seq (.cond (.t 13) .skip (.exit 0)) (.kill [13] (.seq (.blk 1 (.seq (.ops [⟨(some 14),(.mv (.t 12)),none⟩,⟨(some 15),(.ia 9 (.t 10) (.t 12)),none⟩,⟨(some 16),(.ld true 9 (.t 15)),none⟩,⟨(some 6),(.new 53 [(.v (.int .i64 0)),(.v (.int .i64 0)),(.v (.int .i64 0)),(.v (.int .i64 0)),(.v (.int .i64 0)),(.v (.int .i64 0)),(.v (.int .i64 0)),(.v (.int .i64 0)),(.v (.int .i64 0))]),none⟩,⟨(some 5),(.mv (.t 14)),none⟩,⟨none,(.st 9 (.t 6) (.t 16)),none⟩]) (.kill [14,15,16] (.seq (.ops [⟨(some 17),(.fa 5 (.t 6)),none⟩,⟨(some 18),(.ld false 1 (.t 17)),none⟩,⟨(some 19),(.bin .neq (.t 18) (.k (.c (.v (.int .i64 (-1)))))),none⟩,⟨(some 20),(.mv (.t 19)),none⟩,⟨(some 21),(.mv (.t 1)),(some (20,true))⟩,⟨(some 22),(.mv (.t 5)),(some (20,true))⟩,⟨(some 23),(.call 85 [(.t 21),(.t 22)]),(some (20,true))⟩,⟨(some 24),(.un .not (.t 23)),(some (20,true))⟩,⟨(some 25),(.pick (.t 20) (.t 24) (.k (.c (.v (.bool false))))),none⟩]) (.kill [5,6,17,18,19,20,21,22,23,24] (.cond (.t 25) (.seq (.ops [⟨(some 4),(.mv (.k (.c (.v (.bool false))))),none⟩]) (.kill [1,10,11,12,25] .ret)) .skip)))))) (.kill [4,5,6,14,15,16,17,18,19,20,21,22,23,24,25] (.ops [⟨(some 26),(.bin .add (.t 12) (.k (.c (.v (.int .i64 1))))),none⟩,⟨(some 12),(.mv (.t 26)),none⟩]))))))))))) (.kill [1,4,5,6,10,11,12,13,14,15,16,17,18,19,20,21,22,23,24,25,26] (.seq (.ops [⟨(some 4),(.mv (.k (.c (.v (.bool true))))),none⟩]) .ret)))))
def rs65:List RS:=[(.t 4)]
def nt65:Nat:=27
def ir67:IR:=(.seq (.ops [⟨(some 6),(.mv (.k (.c (.v (.bool false))))),none⟩]) (.kill [3,4,5,6,7,8,9,10,11] (.seq (.seq (.ops [⟨(some 9),(.mv (.t 1)),none⟩,⟨(some 10),(.mv (.t 2)),none⟩,⟨(some 11),(.call 85 [(.t 9),(.t 10)]),none⟩]) (.kill [9,10] (.cond (.t 11) (.seq (.ops [⟨(some 6),(.mv (.k (.c (.v (.bool false))))),none⟩]) (.kill [0,1,2,11] .ret)) .skip))) (.kill [6,11] (.seq (.seq (.ops [⟨(some 12),(.mv (.t 0)),none⟩,⟨(some 13),(.nilck (.t 12)),none⟩,⟨(some 14),(.fa 0 (.t 13)),none⟩,⟨(some 15),(.ld false 1 (.t 14)),none⟩,⟨(some 16),(.len (.t 15)),none⟩,⟨(some 17),(.mv (.k (.c (.v (.int .i64 0))))),none⟩]) (.kill [12,13,14] (.blk 0 (.loop (.seq (.ops [⟨(some 18),(.bin .lss (.t 17) (.t 16)),none⟩]) (.kill [6,7,8,19,20,21,22,23,24,25,26,27,28,29,30,31,32,33,34,35,36,37,38,39,40,41,42] (.seq (.cond (.t 18) .skip (.exit 0)) (.kill [18] (.seq (.blk 1 (.seq (.ops [⟨(some 19),(.mv (.t 17)),none⟩,⟨(some 20),(.ia 9 (.t 15) (.t 17)),none⟩,⟨(some 21),(.ld true 9 (.t 20)),none⟩,⟨(some 8),(.new 53 [(.v (.int .i64 0)),(.v (.int .i64 0)),(.v (.int .i64 0)),(.v (.int .i64 0)),(.v (.int .i64 0)),(.v (.int .i64 0)),(.v (.int .i64 0)),(.v (.int .i64 0)),(.v (.int .i64 0))]),none⟩,⟨(some 7),(.mv (.t 19)),none⟩,⟨none,(.st 9 (.t 8) (.t 21)),none⟩]) (.kill [19,20,21] (.seq (.draw [(⟨(some 22),(.mv (.t 7)),none⟩,([],[23])),(⟨(some 23),(.mv (.t 2)),none⟩,([0],[22])),(⟨(some 24),(.bin .neq (.t 22) (.t 23)),none⟩,([],[])),(⟨(some 25),(.mv (.t 24)),none⟩,([],[])),(⟨(some 26),(.ld true 9 (.t 8)),(some (25,true))⟩,([],[27,28,29,30,31,32,33])),(⟨(some 27),(.mv (.t 0)),(some (25,true))⟩,([4],[26,31])),(⟨(some 28),(.nilck (.t 27)),(some (25,true))⟩,([4],[26,31])),(⟨(some 29),(.fa 0 (.t 28)),(some (25,true))⟩,([4],[26,31])),(⟨(some 30),(.ld false 1 (.t 29)),(some (25,true))⟩,([4],[26,31])),(⟨(some 31),(.mv (.t 2)),(some (25,true))⟩,([4,5,6,7,8],[26,27,28,29,30])),(⟨(some 32),(.ia 9 (.t 30) (.t 31)),(some (25,true))⟩,([4],[26])),(⟨(some 33),(.ld true 9 (.t 32)),(some (25,true))⟩,([4],[26])),(⟨(some 34),(.call 58 [(.t 26),(.t 33)]),(some (25,true))⟩,([],[])),(⟨(some 35),(.pick (.t 25) (.t 34) (.k (.c (.v (.bool false))))),none⟩,([],[])),(⟨(some 36),(.mv (.t 35)),none⟩,([],[])),(⟨(some 37),(.mv (.t 1)),(some (36,true))⟩,([],[38])),(⟨(some 38),(.mv (.t 7)),(some (36,true))⟩,([15],[37])),(⟨(some 39),(.call 85 [(.t 37),(.t 38)]),(some (36,true))⟩,([],[])),(⟨(some 40),(.un .not (.t 39)),(some (36,true))⟩,([],[])),(⟨(some 41),(.pick (.t 36) (.t 40) (.k (.c (.v (.bool false))))),none⟩,([],[]))]) (.kill [7,8,22,23,24,25,26,27,28,29,30,31,32,33,34,35,36,37,38,39,40] (.cond (.t 41) (.seq (.ops [⟨(some 6),(.mv (.k (.c (.v (.bool false))))),none⟩]) (.kill [0,1,2,15,16,17,41] .ret)) .skip)))))) (.kill [6,7,8,19,20,21,22,23,24,25,26,27,28,29,30,31,32,33,34,35,36,37,38,39,40,41] (.ops [⟨(some 42),(.bin .add (.t 17) (.k (.c (.v (.int .i64 1))))),none⟩,⟨(some 17),(.mv (.t 42)),none⟩]))))))))))) (.kill [0,1,2,6,7,8,15,16,17,18,19,20,21,22,23,24,25,26,27,28,29,30,31,32,33,34,35,36,37,38,39,40,41,42] (.seq (.ops [⟨(some 6),(.mv (.k (.c (.v (.bool true))))),none⟩]) .ret)))))))
def rs67:List RS:=[(.t 6)]
def nt67:Nat:=43
def idxG:List Int→Int→Nat→Int
 | [],_,_=>-1
 | a :: r,x,i=>if a=x then (i:Int) else idxG r x (i+1)
theorem idxG_hit {x:Int}:∀ (l:List Int) (i j:Nat),j<l.length→l.getD j 0=x→(∀ k,k<j→l.getD k 0≠x)→idxG l x i=((i+j:Nat):Int)
 | [],i,j,h,_,_=>by simp at h
 | a :: r,i,0,h,he,_=>by
  simp only [List.getD_cons_zero] at he
  simp [idxG,he]
 | a :: r,i,j+1,h,he,hk=>by
  have h0:=hk 0 (by omega)
  simp only [List.getD_cons_zero] at h0
  simp only [idxG,if_neg h0]
  rw [idxG_hit r (i+1) j (by simpa using h) (by simpa using he) (fun k hk'=>by simpa using hk (k+1) (by omega))]
  congr 1;omega
theorem idxG_miss {x:Int}:∀ (l:List Int) (i:Nat),x ∉ l→idxG l x i = -1
 | [],i,_=>rfl
 | a :: r,i,h=>by
  simp only [List.mem_cons,not_or] at h
  simp only [idxG,if_neg (fun e=>h.1 (Eq.symm e))]
  exact idxG_miss r _ h.2
theorem idxG_pos {x:Int}:∀ (l:List Int) (i:Nat),x∈l→0≤idxG l x i
 | [],i,h=>by cases h
 | a :: r,i,h=>by
  simp only [idxG]
  by_cases e:a=x
  ·rw [if_pos e];omega
  ·rw [if_neg e]
   rcases List.mem_cons.1 h with h | h
   ·exact absurd h.symm e
   ·exact idxG_pos r _ h
def idxZ (l:List Int) (x:Int):Int:=idxG l x 0
set_option maxRecDepth 100000 in
set_option maxHeartbeats 400000 in
theorem index_calls (w:World) (v:Value) (l:List Int) (n:Int) (h:Arr w eI 1 v l):Calls Try.prog 99 #[v,.int .i64 n] w (RetV w (.int .i64 (idxZ l n))):=by
 have hlen:=Z.Arr.lenM h
 simp only [maxLen] at hlen
 refine enter1 (A:=[]) (c:=ir99) (rs:=rs99) (nt:=nt99) 0 eI_ok h [.c (.xv (0,0,0)),iA n] _ Try.func99 rfl (by kernel_rfl) (by kernel_rfl) rfl (fun E' h0=>by simp [SV.den,SC.den,iA,h0]) (of_decide_eq_true rfl) ?_
 simp (maxSteps:=2000000) only [ir99,nt99,rs99,go_sem,↓reduceIte,Nat.reduceLT,Nat.reduceLeDiff,Nat.reduceAdd,Nat.reduceSub,Nat.reduceMul,Nat.reduceEqDiff,reduceCtorEq,Int.reduceToNat,Int.reduceEq,Int.reduceBEq,Int.reduceBNe,Int.reduceLT,Int.reduceLE,Int.reduceNeg,Int.reduceAdd,Int.reduceSub,Int.reduceMul,Int.reduceGE,Int.reduceGT,Cl.enc,iv,endO,iA]
 refine loopI (ι:={ i:Nat // i≤l.length∧∀ k,k<i→l.getD k 0≠n }) (fun i=>⟨19,[(0,.c (.xv (0,0,0))),(1,.c (.v (.int .i64 n))),(7,.c (.v (.int .i64 l.length))),(8,.c (.v (.int .i64 (i.1:Nat))))],[],[(0,.one (arrOf eI 1 l 0))],[],1⟩)
  (fun i=>l.length - i.1) ⟨0,by omega,fun k hk=>by omega⟩ (le_tmps (by simp [TmpsSub,look])) ?_
 rintro ⟨i,hi,hg⟩
 simp (maxSteps:=2000000) only [go_sem,↓reduceIte,Nat.reduceLT,Nat.reduceLeDiff,Nat.reduceAdd,Nat.reduceSub,Nat.reduceMul,Nat.reduceEqDiff,reduceCtorEq,Int.reduceToNat,Int.reduceEq,Int.reduceBEq,Int.reduceBNe,Int.reduceLT,Int.reduceLE,Int.reduceNeg,Int.reduceAdd,Int.reduceSub,Int.reduceMul,Int.reduceGE,Int.reduceGT,Cl.enc,iv,endO,eI]
 refine both (fun hlt=>?_) (fun hge=>?_)
 ·rw [decide_eq_true_eq] at hlt
  have hlt:i<l.length:=by omega
  repeat (with_reducible refine And.intro (by first | (simp only [maxLen];omega) | omega | decide | (simp;done) | (simp [maxLen];omega)) ?_)
  refine both (fun he=>?_) (fun hne=>?_)
  ·refine retV fun E=>?_
   rw [beq_iff_eq] at he
   rw [den_c,den_v,idxZ,idxG_hit l 0 i hlt he.symm hg,Nat.zero_add]
  ·rw [wr_succ (by omega)]
   refine backI ⟨i+1,by omega,fun k hk=>?_⟩ (by simp only;omega) (le_tmps (by simp [TmpsSub,look]))
   by_cases e:k=i
   ·subst e
    rw [beq_eq_false_iff_ne] at hne
    exact fun e=>hne e.symm
   ·exact hg k (by omega)
 ·rw [decide_eq_false_iff_not] at hge
  refine retV fun E=>?_
  have hm:n ∉ l:=by
   intro hm
   obtain ⟨k,hk,rfl⟩:=List.getElem_of_mem hm
   refine hg k (by omega) ?_
   rw [List.getD_eq_getElem?_getD,List.getElem?_eq_getElem hk];rfl
  rw [den_c,den_v,idxZ,idxG_miss l 0 hm]
set_option maxRecDepth 100000 in
set_option maxHeartbeats 400000 in
theorem contains_calls (w:World) (v:Value) (l:List Int) (n:Int) (h:Arr w eI 1 v l):Calls Try.prog 85 #[v,.int .i64 n] w (RetV w (.bool (decide (n∈l)))):=by
 refine enter1 (A:=[]) (c:=ir85) (rs:=rs85) (nt:=nt85) 0 eI_ok h [.c (.xv (0,0,0)),iA n] _ Try.func85 rfl (by kernel_rfl) (by kernel_rfl) rfl (fun E' h0=>by simp [SV.den,SC.den,iA,h0]) (of_decide_eq_true rfl) ?_
 simp (maxSteps:=2000000) only [ir85,nt85,rs85,go_sem,↓reduceIte,Nat.reduceLT,Nat.reduceLeDiff,Nat.reduceAdd,Nat.reduceSub,Nat.reduceMul,Nat.reduceEqDiff,reduceCtorEq,Int.reduceToNat,Int.reduceEq,Int.reduceBEq,Int.reduceBNe,Int.reduceLT,Int.reduceLE,Int.reduceNeg,Int.reduceAdd,Int.reduceSub,Int.reduceMul,Int.reduceGE,Int.reduceGT,Cl.enc,iv,endO,iA]
 refine callV (.c (.v (.int .i64 (idxZ l n)))) _ (fun E=>rfl) (fun E a w' hs=>index_calls w' _ l n (arr_at (d:=0) hs 0 rfl)) ?_
 simp (maxSteps:=2000000) only [go_sem,↓reduceIte,Nat.reduceLT,Nat.reduceLeDiff,Nat.reduceAdd,Nat.reduceSub,Nat.reduceMul,Nat.reduceEqDiff,reduceCtorEq,Int.reduceToNat,Int.reduceEq,Int.reduceBEq,Int.reduceBNe,Int.reduceLT,Int.reduceLE,Int.reduceNeg,Int.reduceAdd,Int.reduceSub,Int.reduceMul,Int.reduceGE,Int.reduceGT,Cl.enc,iv,endO]
 refine retV fun E=>?_
 rw [den_c,den_b,Value.bool.injEq]
 by_cases e:n∈l
 ·have:=idxG_pos l 0 e
  simp only [idxZ,e,decide_true,decide_eq_true_eq,ge_iff_le]
  exact this
 ·simp only [idxZ,e,decide_false,idxG_miss l 0 e]
  decide
def clipV:Value→Value
 | .slice ba n _=>.slice ba n n
 | v=>v
theorem enter1F {P:Program} {A:List Nat} {f nt:Nat} {fn:Func} {x:Code} {c:IR} {w:World} {rs:List RS} {R:Ending→World→Prop} {α:Type} {enc:α→List Value} {s:Nat} {xs:List α} (d:α) {v:Value} (T:EncT enc s) (h:Arr w enc s v xs) (sc:List SV) (args:Array Value)
  (hf:P.funcs[f]? = some fn) (hb:fn.body=some x) (hc:compC (mkTab P A) x=some c.strip) (hr:compR (mkTab P A).T fn.results.toList=some rs) (hn:fn.ntmps=nt)
  (hargs:∀ E',E'.χ (0,0,0)=v→(sc.map (SV.den E')).toArray=args) (hnt:sc.length≤nt)
  (hex:exec (mkC P A w rs R) 1000 [.code c] ⟨nt,enumT 0 sc,[],[(0,.one (arrOf enc s xs d))],[fun E _=>E.χ (0,0,0)=v],1⟩):Calls P f args w R:=by
 refine calls_sym (c:=c) (C:=mkC P A w rs R) 1000 sc (E1 v) [] [(0,.one (arrOf enc s xs d))] [fun E _=>E.χ (0,0,0)=v] 1 nt args (mkTab_ok _ _) hf hb hc hr hn rfl rfl (E1_one (arr_one h)) (fun E' hE'=>hargs E' ?_) hnt (fun E' hE'=>inOk_arrsF (fun w' hw' x A hA=>?_) fun w' φ hφ=>?_) hex
 ·exact (hE' (0,0,0) Nat.zero_lt_one).2.2.2
 ·rcases atN_one hA with ⟨rfl,rfl⟩ | hA
  ·exact arr1 T (hE' (0,0,0) Nat.zero_lt_one).2.2.2 h hw'
  exact (atN_nil hA).elim
 ·rw [List.mem_singleton] at hφ
  subst hφ
  exact (hE' (0,0,0) Nat.zero_lt_one).2.2.2
set_option maxRecDepth 100000 in
set_option maxHeartbeats 400000 in
theorem clip_calls (w:World) (v:Value) (l:List Int) (h:Arr w eI 1 v l):Calls Try.prog 69 #[v] w (RetV w (clipV v)):=by
 refine enter1F (A:=[]) (c:=ir69) (rs:=rs69) (nt:=nt69) 0 eI_ok h [.c (.xv (0,0,0))] _ Try.func69 rfl (by kernel_rfl) (by kernel_rfl) rfl (fun E' h0=>by simp [SV.den,SC.den,h0]) (of_decide_eq_true rfl) ?_
 simp (maxSteps:=2000000) only [ir69,nt69,rs69,go_sem,↓reduceIte,Nat.reduceLT,Nat.reduceLeDiff,Nat.reduceAdd,Nat.reduceSub,Nat.reduceMul,Nat.reduceEqDiff,reduceCtorEq,Int.reduceToNat,Int.reduceEq,Int.reduceBEq,Int.reduceBNe,Int.reduceLT,Int.reduceLE,Int.reduceNeg,Int.reduceAdd,Int.reduceSub,Int.reduceMul,Int.reduceGE,Int.reduceGT,Cl.enc,iv,endO]
 repeat (with_reducible refine And.intro (by first | (simp only [maxLen];omega) | omega | decide | (simp;done) | (simp [maxLen];omega)) ?_)
 intro E a w' hs
 have hs:=hs.sat
 have hh:=holds_of (C:=mkC Try.prog [] w rs69 (RetV w (clipV v))) hs
 have hx:E.χ (0,0,0)=v:=hh.2 _ List.mem_cons_self
 obtain ⟨ba,cap,h1,_⟩:=h
 refine ⟨?_,below_of hs⟩
 subst h1
 cases ba <;> simp [den_c,SC.den,hx,clipV,Addr.add]
structure Sr (w:World) (v:Value) (ys:List Cl) (nms:List Int) (bm:Nat):Prop where
 ex:∃ b off vc vn,v = .pointer (some ⟨b,off,none⟩)∧w.cell? ⟨b,off,none⟩=some vc∧w.cell? ⟨b,off+1,none⟩=some vn∧w.cell? ⟨b,off+2,none⟩=some (.map (some bm))∧Arr w Cl.enc 9 vc ys∧Arr w eI 1 vn nms
def srA (i:Nat) (ys:List Cl) (nms:List Int) (m:SC):List (Nat×Fm ArrF):=[(i,.one ⟨1,3,fun _=>[.xv (i+1,0,0),.xv (i+2,0,0),m],0⟩),(i+1,.one (arrOf Cl.enc 9 ys cl0)),(i+2,.one (arrOf eI 1 nms 0))]
def ES (b off:Nat) (vc vn vo:Value):Env:=⟨fun _=>0,fun _=>0,fun _=>false,fun x=>if x.1=0 then .slice (some ⟨b,off,none⟩) 1 1 else if x.1=1 then vc else if x.1=2 then vn else vo⟩
theorem cell_keep {w w' : World} {a:Addr} {u:Value} (h:w.cell? a=some u) (hk:∀ n,n<w.heap.size→w'.heap[n]? = w.heap[n]?):w'.cell? a=some u:=by
 have hb:a.block<w.heap.size:=by
  unfold World.cell? at h
  cases he:w.heap[a.block]? with
  | none=>rw [he] at h;simp at h
  | some o=>exact (Array.getElem?_eq_some_iff.1 he).1
 unfold World.cell? at h ⊢
 rw [hk _ hb]
 exact h
theorem enterS {P:Program} {A:List Nat} {f nt:Nat} {fn:Func} {x:Code} {c:IR} {w:World} {rs:List RS} {R:Ending→World→Prop} {v vo:Value} {ys:List Cl} {nms o:List Int} {bm:Nat} (hS:Sr w v ys nms bm) (h:Arr w eI 1 vo o) (sc:List SV) (args:Array Value)
  (hf:P.funcs[f]? = some fn) (hb:fn.body=some x) (hc:compC (mkTab P A) x=some c.strip) (hr:compR (mkTab P A).T fn.results.toList=some rs) (hn:fn.ntmps=nt)
  (hargs:∀ E',(SV.c (.ep (0,0,0) 3 0 0)).den E' = v→E'.χ (3,0,0)=vo→(sc.map (SV.den E')).toArray=args) (hnt:sc.length≤nt)
  (hex:exec (mkC P A w rs R) 1000 [.code c] ⟨nt,enumT 0 sc,[],(3,.one (arrOf eI 1 o 0)) :: srA 0 ys nms (.v (.map (some bm))),[],4⟩):Calls P f args w R:=by
 obtain ⟨b,off,vc,vn,rfl,c0,c1,c2,a1,a2⟩:=hS.ex
 have hone:OneC (ES b off vc vn vo):=fun x=>by
  simp only [ES]
  split
  ·rfl
  split
  ·exact arr_one a1
  split
  ·exact arr_one a2
  ·exact arr_one h
 have g:∀ E' : Env,AgreeD (· < 4) (ES b off vc vn vo) E'→E'.χ (0,0,0) = .slice (some ⟨b,off,none⟩) 1 1∧E'.χ (1,0,0)=vc∧E'.χ (2,0,0)=vn∧E'.χ (3,0,0)=vo:=fun E' hE'=>by
  have h0:=(hE' (0,0,0) (by decide)).2.2.2
  have h1:=(hE' (1,0,0) (by decide)).2.2.2
  have h2:=(hE' (2,0,0) (by decide)).2.2.2
  have h3:=(hE' (3,0,0) (by decide)).2.2.2
  simp [ES] at h0 h1 h2 h3
  exact ⟨h0,h1,h2,h3⟩
 refine calls_sym (c:=c) (C:=mkC P A w rs R) 1000 sc (ES b off vc vn vo) [] _ [] 4 nt args (mkTab_ok _ _) hf hb hc hr hn rfl rfl hone (fun E' hE'=>hargs E' ?_ (g E' hE').2.2.2) hnt (fun E' hE'=>inOk_arrs fun w' hw' x A hA=>?_) hex
 ·simp [den_c,SC.den,(g E' hE').1]
 obtain ⟨g0,g1,g2,g3⟩:=g E' hE'
 rcases atN_one hA with ⟨rfl,rfl⟩ | hA
 ·exact arr1 eI_ok g3 h hw'
 simp only [srA] at hA
 rcases atN_one hA with ⟨rfl,rfl⟩ | hA
 ·refine ⟨some ⟨b,off,none⟩,1,g0,Nat.le_refl _,by simp [maxLen],Or.inr ⟨b,off,rfl,Nat.zero_le _,fun k hk=>⟨rfl,fun j u hu=>?_⟩⟩⟩
  have hk:k=0:=by simp only at hk;omega
  subst hk
  match j,hu with
  | 0,hu =>
   simp at hu;subst hu
   exact ⟨by simp only [SC.den,g1];exact cell_keep c0 hw',by simp only [SC.den,g1];exact arr_one a1⟩
  | 1,hu =>
   simp at hu;subst hu
   exact ⟨by simp only [SC.den,g2];exact cell_keep c1 hw',by simp only [SC.den,g2];exact arr_one a2⟩
  | 2,hu =>
   simp at hu;subst hu
   exact ⟨by simp only [SC.den];exact cell_keep c2 hw',rfl⟩
  | j+3,hu=>simp at hu
 rcases atN_one hA with ⟨rfl,rfl⟩ | hA
 ·exact arr1 cl_ok g1 a1 hw'
 rcases atN_one hA with ⟨rfl,rfl⟩ | hA
 ·exact arr1 eI_ok g2 a2 hw'
 exact (atN_nil hA).elim
theorem Sr.len {w:World} {v:Value} {ys:List Cl} {nms:List Int} {bm:Nat} (h:Sr w v ys nms bm):ys.length≤9223372036854775807∧nms.length≤9223372036854775807:=by
 obtain ⟨b,off,vc,vn,rfl,c0,c1,c2,a1,a2⟩:=h.ex
 have h1:=Z.Arr.lenM a1
 have h2:=Z.Arr.lenM a2
 simp only [maxLen] at h1 h2
 exact ⟨h1,h2⟩
theorem arrLe_sr4 {x:Value}:ArrLe (fun x=>x<4) (idσ id) ⟨1,3,fun _=>[.xv (1,0,0),.xv (2,0,0),.v x],0⟩ ⟨1,3,fun _=>[.xv (1,0,0),.xv (2,0,0),.v x],0⟩ :=
 ⟨rfl,rfl,fun e _=>⟨by simp [SC.renL,SC.ren,idσ],by simp [SC.okL,SC.okN]⟩,Nat.le_refl _⟩
def wholeB (ys:List Cl) (o:List Int):Bool:=(List.range ys.length).all fun i=>!((ys.getD i cl0).fin != -1) || decide ((i:Int)∈o)
set_option maxRecDepth 100000 in
set_option maxHeartbeats 400000 in
theorem whole_calls (w:World) (v vo:Value) (ys:List Cl) (nms o:List Int) (bm:Nat) (hS:Sr w v ys nms bm) (h:Arr w eI 1 vo o):Calls Try.prog 65 #[v,vo] w (RetV w (.bool (wholeB ys o))):=by
 have hlen:=hS.len.1
 refine enterS (A:=[]) (c:=ir65) (rs:=rs65) (nt:=nt65) hS h [.c (.ep (0,0,0) 3 0 0),.c (.xv (3,0,0))] _ Try.func65 rfl (by kernel_rfl) (by kernel_rfl) rfl (fun E' h0 h1=>by rw [List.map_cons,h0];simp [SV.den,SC.den,h1]) (of_decide_eq_true rfl) ?_
 simp (maxSteps:=2000000) only [ir65,nt65,rs65,go_sem,↓reduceIte,Nat.reduceLT,Nat.reduceLeDiff,Nat.reduceAdd,Nat.reduceSub,Nat.reduceMul,Nat.reduceEqDiff,reduceCtorEq,Int.reduceToNat,Int.reduceEq,Int.reduceBEq,Int.reduceBNe,Int.reduceLT,Int.reduceLE,Int.reduceNeg,Int.reduceAdd,Int.reduceSub,Int.reduceMul,Int.reduceGE,Int.reduceGT,Cl.enc,iv,endO,srA]
 refine loopI (ι:={ i:Nat // i≤ys.length∧∀ k,k<i→(!((ys.getD k cl0).fin != -1) || decide ((k:Int)∈o))=true }) (fun i=>⟨27,[(1,.c (.xv (3,0,0))),(10,.c (.xv (1,0,0))),(11,.c (.v (.int .i64 ys.length))),(12,.c (.v (.int .i64 (i.1:Nat))))],[],(3,.one (arrOf eI 1 o 0)) :: srA 0 ys nms (.v (.map (some bm))),[],4⟩)
  (fun i=>ys.length - i.1) ⟨0,by omega,fun k hk=>by omega⟩ (by simp only [srA];exact le_tmps (by simp [TmpsSub,look])) ?_
 rintro ⟨i,hi,hg⟩
 simp (maxSteps:=2000000) only [go_sem,↓reduceIte,Nat.reduceLT,Nat.reduceLeDiff,Nat.reduceAdd,Nat.reduceSub,Nat.reduceMul,Nat.reduceEqDiff,reduceCtorEq,Int.reduceToNat,Int.reduceEq,Int.reduceBEq,Int.reduceBNe,Int.reduceLT,Int.reduceLE,Int.reduceNeg,Int.reduceAdd,Int.reduceSub,Int.reduceMul,Int.reduceGE,Int.reduceGT,Cl.enc,iv,endO,srA]
 refine both (fun hlt=>?_) (fun hge=>?_)
 ·rw [decide_eq_true_eq] at hlt
  have hlt:i<ys.length:=by omega
  generalize hci:ys.getD i cl0=ci
  repeat (with_reducible refine And.intro (by first | (simp only [maxLen];omega) | omega | decide | (simp;done) | (simp [maxLen];omega)) ?_)
  refine guardW (.c (.bo (decide ((i:Int)∈o)))) _ (fun E=>rfl) (fun E a w' hs=>contains_calls w' _ o i (arr_at (d:=0) hs 3 rfl)) ?_
  simp (maxSteps:=2000000) only [go_sem,↓reduceIte,Nat.reduceLT,Nat.reduceLeDiff,Nat.reduceAdd,Nat.reduceSub,Nat.reduceMul,Nat.reduceEqDiff,reduceCtorEq,Int.reduceToNat,Int.reduceEq,Int.reduceBEq,Int.reduceBNe,Int.reduceLT,Int.reduceLE,Int.reduceNeg,Int.reduceAdd,Int.reduceSub,Int.reduceMul,Int.reduceGE,Int.reduceGT,Cl.enc,iv,endO]
  rw [wr_succ (by omega)]
  refine both (fun hb=>?_) (fun hb=>?_)
  ·refine retV fun E=>?_
   rw [den_c,den_v,Value.bool.injEq,eq_comm]
   have hb:ci.fin≠-1∧(i:Int) ∉ o:=by simpa using hb
   rw [← Bool.not_eq_true,wholeB,List.all_eq_true]
   intro h
   have:=h i (List.mem_range.2 hlt)
   rw [hci] at this
   simp [hb.1,hb.2] at this
  ·refine backI ⟨i+1,by omega,fun k hk=>?_⟩ (by simp only;omega) (by simp only [srA];exact le_ren id rfl rfl (by simp [TmpsLe,look,SV.ren,SC.ren,SC.renL,ren1L,ren1,idσ,SV.okN,SC.okN,SC.okL,ok1L]) (by simp [OwnLe,BlkLeO,BlkLe,atN,look,Fm.get,idσ,SC.renL,SC.ren,SC.okL,SC.okN,renL_v,okL_v]) (by simp [ArrsLe,ArrLeO,atN,look,Fm.get,idσ,arrLe_of,arrLe_0,arrLe_sr4]) rfl)
   by_cases e:k=i
   ·subst e
    rw [hci]
    by_cases h1:ci.fin = -1
    ·simp [h1]
    ·by_cases h2:(k:Int)∈o
     ·simp [h2]
     ·simp [h1,h2] at hb
   ·exact hg k (by omega)
 ·rw [decide_eq_false_iff_not] at hge
  have hin:i=ys.length:=by omega
  subst hin
  refine retV fun E=>?_
  rw [den_c,den_v,Value.bool.injEq,eq_comm,wholeB,List.all_eq_true]
  exact fun k hk=>hg k (List.mem_range.1 hk)
def mayNB (ys:List Cl) (o:List Int) (i:Nat):Bool:=!decide ((i:Int)∈o) && (List.range ys.length).all fun j=>!(j != i && aheadB (ys.getD j cl0) (ys.getD i cl0)) || decide ((j:Int)∈o)
set_option maxRecDepth 100000 in
set_option maxHeartbeats 400000 in
theorem may_next (w:World) (v vo:Value) (ys:List Cl) (nms o:List Int) (bm i:Nat) (hi:i<ys.length) (hS:Sr w v ys nms bm) (h:Arr w eI 1 vo o):Calls Try.prog 67 #[v,vo,.int .i64 i] w (RetV w (.bool (mayNB ys o i))):=by
 have hlen:=hS.len.1
 refine enterS (A:=[]) (c:=ir67) (rs:=rs67) (nt:=nt67) hS h [.c (.ep (0,0,0) 3 0 0),.c (.xv (3,0,0)),iA i] _ Try.func67 rfl (by kernel_rfl) (by kernel_rfl) rfl (fun E' h0 h1=>by rw [List.map_cons,h0];simp [SV.den,SC.den,h1,iA]) (of_decide_eq_true rfl) ?_
 simp (maxSteps:=2000000) only [ir67,nt67,rs67,go_sem,↓reduceIte,Nat.reduceLT,Nat.reduceLeDiff,Nat.reduceAdd,Nat.reduceSub,Nat.reduceMul,Nat.reduceEqDiff,reduceCtorEq,Int.reduceToNat,Int.reduceEq,Int.reduceBEq,Int.reduceBNe,Int.reduceLT,Int.reduceLE,Int.reduceNeg,Int.reduceAdd,Int.reduceSub,Int.reduceMul,Int.reduceGE,Int.reduceGT,Cl.enc,iv,endO,srA,iA]
 refine callV (.c (.bo (decide ((i:Int)∈o)))) _ (fun E=>rfl) (fun E a w' hs=>contains_calls w' _ o i (arr_at (d:=0) hs 3 rfl)) ?_
 simp (maxSteps:=2000000) only [go_sem,↓reduceIte,Nat.reduceLT,Nat.reduceLeDiff,Nat.reduceAdd,Nat.reduceSub,Nat.reduceMul,Nat.reduceEqDiff,reduceCtorEq,Int.reduceToNat,Int.reduceEq,Int.reduceBEq,Int.reduceBNe,Int.reduceLT,Int.reduceLE,Int.reduceNeg,Int.reduceAdd,Int.reduceSub,Int.reduceMul,Int.reduceGE,Int.reduceGT,Cl.enc,iv,endO]
 refine both (fun hb=>?_) (fun hb=>?_)
 ·refine retV fun E=>?_
  rw [den_c,den_v,Value.bool.injEq,mayNB,hb]
  rfl
 repeat (with_reducible refine And.intro (by first | (simp only [maxLen];omega) | omega | decide | (simp;done) | (simp [maxLen];omega)) ?_)
 refine loopI (ι:={ k:Nat // k≤ys.length∧∀ j,j<k→(!(j != i && aheadB (ys.getD j cl0) (ys.getD i cl0)) || decide ((j:Int)∈o))=true }) (fun k=>⟨43,[(0,.c (.ep (0,0,0) 3 0 0)),(1,.c (.xv (3,0,0))),(2,.c (.v (.int .i64 i))),(15,.c (.xv (1,0,0))),(16,.c (.v (.int .i64 ys.length))),(17,.c (.v (.int .i64 (k.1:Nat))))],[],(3,.one (arrOf eI 1 o 0)) :: srA 0 ys nms (.v (.map (some bm))),[],4⟩)
  (fun k=>ys.length - k.1) ⟨0,by omega,fun k hk=>by omega⟩ (by simp only [srA];exact le_tmps (by simp [TmpsSub,look])) ?_
 rintro ⟨k,hk,hg⟩
 simp (maxSteps:=2000000) only [go_sem,↓reduceIte,Nat.reduceLT,Nat.reduceLeDiff,Nat.reduceAdd,Nat.reduceSub,Nat.reduceMul,Nat.reduceEqDiff,reduceCtorEq,Int.reduceToNat,Int.reduceEq,Int.reduceBEq,Int.reduceBNe,Int.reduceLT,Int.reduceLE,Int.reduceNeg,Int.reduceAdd,Int.reduceSub,Int.reduceMul,Int.reduceGE,Int.reduceGT,Cl.enc,iv,endO,srA]
 refine both (fun hlt=>?_) (fun hge=>?_)
 ·rw [decide_eq_true_eq] at hlt
  have hlt:k<ys.length:=by omega
  generalize hck:ys.getD k cl0=ck
  repeat (with_reducible refine And.intro (by first | (simp only [maxLen];omega) | omega | decide | (simp;done) | (simp [maxLen];omega)) ?_)
  refine draw_vc (by kernel_rfl) (mkTab_ok _ _) (of_decide_eq_true rfl) (of_decide_eq_true rfl) ?_
  repeat (first | simp (maxSteps:=2000000) only [go_sem,↓reduceIte,Nat.reduceLT,Nat.reduceLeDiff,Nat.reduceAdd,Nat.reduceSub,Nat.reduceMul,Nat.reduceEqDiff,reduceCtorEq,Int.reduceToNat,Int.reduceEq,Int.reduceBEq,Int.reduceBNe,Int.reduceLT,Int.reduceLE,Int.reduceNeg,Int.reduceAdd,Int.reduceSub,Int.reduceMul,Int.reduceGE,Int.reduceGT,Cl.enc,iv,endO,srA] | rw [dr_cons])
  refine ⟨fun _=>hi,fun _=>hi,Or.inl ⟨.c (.bo (aheadB ck (ys.getD i cl0))),fun _=>crv_retV _ _ (fun E=>rfl) (fun E a w' _=>ahead_calls w' ck (ys.getD i cl0)),?_⟩⟩
  repeat (first | simp (maxSteps:=2000000) only [go_sem,↓reduceIte,Nat.reduceLT,Nat.reduceLeDiff,Nat.reduceAdd,Nat.reduceSub,Nat.reduceMul,Nat.reduceEqDiff,reduceCtorEq,Int.reduceToNat,Int.reduceEq,Int.reduceBEq,Int.reduceBNe,Int.reduceLT,Int.reduceLE,Int.reduceNeg,Int.reduceAdd,Int.reduceSub,Int.reduceMul,Int.reduceGE,Int.reduceGT,Cl.enc,iv,endO] | rw [dr_cons])
  refine Or.inl ⟨.c (.bo (decide ((k:Int)∈o))),fun _=>crv_retV _ _ (fun E=>rfl) (fun E a w' hs=>contains_calls w' _ o k (arr_at (d:=0) hs 3 rfl)),?_⟩
  repeat (first | simp (maxSteps:=2000000) only [go_sem,↓reduceIte,Nat.reduceLT,Nat.reduceLeDiff,Nat.reduceAdd,Nat.reduceSub,Nat.reduceMul,Nat.reduceEqDiff,reduceCtorEq,Int.reduceToNat,Int.reduceEq,Int.reduceBEq,Int.reduceBNe,Int.reduceLT,Int.reduceLE,Int.reduceNeg,Int.reduceAdd,Int.reduceSub,Int.reduceMul,Int.reduceGE,Int.reduceGT,Cl.enc,iv,endO] | rw [dr_cons])
  rw [wr_succ (by omega)]
  have hki:((k:Int) != (i:Int))=(k != i):=by
   rw [Bool.eq_iff_iff];simp only [bne_iff_ne,ne_eq];omega
  rw [hki]
  refine both (fun hb=>?_) (fun hb=>?_)
  ·refine retV fun E=>?_
   rw [den_c,den_v,Value.bool.injEq,eq_comm,← Bool.not_eq_true]
   intro h
   simp only [mayNB,Bool.and_eq_true,List.all_eq_true] at h
   have:=h.2 k (List.mem_range.2 hlt)
   rw [hck] at this
   clear h hki
   generalize (k != i)=b1 at hb this
   generalize aheadB ck (ys.getD i cl0)=b2 at hb this
   generalize decide ((k:Int)∈o)=b3 at hb this
   revert hb this
   cases b1 <;> cases b2 <;> cases b3 <;> simp
  ·refine backI ⟨k+1,by omega,fun j hj=>?_⟩ (by simp only;omega) (by simp only [srA];exact le_ren id rfl rfl (by simp [TmpsLe,look,SV.ren,SC.ren,SC.renL,ren1L,ren1,idσ,SV.okN,SC.okN,SC.okL,ok1L]) (by simp [OwnLe,BlkLeO,BlkLe,atN,look,Fm.get,idσ,SC.renL,SC.ren,SC.okL,SC.okN,renL_v,okL_v]) (by simp [ArrsLe,ArrLeO,atN,look,Fm.get,idσ,arrLe_of,arrLe_0,arrLe_sr4]) rfl)
   by_cases e:j=k
   ·subst e
    rw [hck]
    clear hki hg
    generalize (j != i)=b1 at hb ⊢
    generalize aheadB ck (ys.getD i cl0)=b2 at hb ⊢
    generalize decide ((j:Int)∈o)=b3 at hb ⊢
    revert hb
    cases b1 <;> cases b2 <;> cases b3 <;> simp
   ·exact hg j (by omega)
 ·rw [decide_eq_false_iff_not] at hge
  have hin:k=ys.length:=by omega
  subst hin
  refine retV fun E=>?_
  rw [den_c,den_v,Value.bool.injEq,eq_comm,mayNB,hb,Bool.not_false,Bool.true_and,List.all_eq_true]
  exact fun k hk=>hg k (List.mem_range.1 hk)
def ir66:IR:=(.seq (.ops [⟨(some 2),(.new 102 [(.v (.int .i8 0)),(.v (.int .i8 0)),(.v (.int .i8 0)),(.v (.int .i8 0)),(.v (.int .i8 0)),(.v (.int .i8 0)),(.v (.int .i8 0)),(.v (.int .i8 0))]),none⟩]) (.kill [1,3,4,5,6,7,8,9,10,11] (.seq (.ops [⟨(some 3),(.new 102 [(.v (.int .i8 0)),(.v (.int .i8 0)),(.v (.int .i8 0)),(.v (.int .i8 0)),(.v (.int .i8 0)),(.v (.int .i8 0)),(.v (.int .i8 0)),(.v (.int .i8 0))]),none⟩]) (.seq (.seq (.ops [⟨(some 6),(.mv (.t 0)),none⟩,⟨(some 7),(.len (.t 6)),none⟩,⟨(some 8),(.mv (.k (.c (.v (.int .i64 0))))),none⟩]) (.kill [0] (.blk 0 (.loop (.seq (.ops [⟨(some 9),(.bin .lss (.t 8) (.t 7)),none⟩]) (.kill [4,5,10,11,12,13,14,15,16,17,18] (.seq (.cond (.t 9) .skip (.exit 0)) (.kill [9] (.seq (.blk 1 (.seq (.ops [⟨(some 10),(.mv (.t 8)),none⟩,⟨(some 11),(.ia 1 (.t 6) (.t 8)),none⟩,⟨(some 12),(.ld false 1 (.t 11)),none⟩,⟨(some 4),(.mv (.t 10)),none⟩,⟨(some 5),(.mv (.t 12)),none⟩]) (.kill [10,11,12] (.ops [⟨(some 13),(.mv (.t 4)),none⟩,⟨(some 14),(.mv (.t 5)),none⟩,⟨(some 15),(.bin .add (.t 14) (.k (.c (.v (.int .i64 1))))),none⟩,⟨(some 16),(.conv .i8 (.t 15)),none⟩,⟨(some 17),(.iar 8 1 (.t 3) (.t 13)),none⟩,⟨none,(.st 1 (.t 17) (.t 16)),none⟩])))) (.kill [4,5,10,11,12,13,14,15,16,17] (.ops [⟨(some 18),(.bin .add (.t 8) (.k (.c (.v (.int .i64 1))))),none⟩,⟨(some 8),(.mv (.t 18)),none⟩]))))))))))) (.kill [4,5,6,7,8,9,10,11,12,13,14,15,16,17,18] (.seq (.ops [⟨(some 19),(.ld true 8 (.t 3)),none⟩,⟨none,(.st 8 (.t 2) (.t 19)),none⟩]) (.kill [3,19] .ret)))))))
def rs66:List RS:=[(.cell 2 true 8)]
def nt66:Nat:=20
def picI (o:List Int):List Int:=(List.range 8).map fun k=>if k<o.length then o.getD k 0+1 else 0
def picV (o:List Int):Value:=.agg ((picI o).map fun n=>Value.int .i8 n).toArray
theorem wr8 {n:Int} (h : -128≤n∧n≤127):IntKind.i8.wrap n=n:=by
 have:IntKind.i8.wrap n=if 128≤n % 256 then n % 256 - 256 else n % 256:=by simp [IntKind.wrap,IntKind.bits,IntKind.signed]
 rw [this]
 split <;> omega
theorem w8 (x:Int) (h:0≤x) (h' : x<8):IntKind.i8.wrap (IntKind.i64.wrap (x+1))=x+1:=by rw [wr64 (by omega) (by omega),wr8 ⟨by omega,by omega⟩]
set_option maxRecDepth 100000 in
set_option maxHeartbeats 400000 in
theorem picture_calls (w:World) (v:Value) (o:List Int) (ho:o.length≤8) (hr:∀ x∈o,0≤x∧x<8) (h:Arr w eI 1 v o):Calls Try.prog 66 #[v] w (RetV w (picV o)):=by
 refine enter1 (A:=[]) (c:=ir66) (rs:=rs66) (nt:=nt66) 0 eI_ok h [.c (.xv (0,0,0))] _ Try.func66 rfl (by kernel_rfl) (by kernel_rfl) rfl (fun E' h0=>by simp [SV.den,SC.den,h0]) (of_decide_eq_true rfl) ?_
 simp (maxSteps:=2000000) only [ir66,nt66,rs66,go_sem,↓reduceIte,Nat.reduceLT,Nat.reduceLeDiff,Nat.reduceAdd,Nat.reduceSub,Nat.reduceMul,Nat.reduceEqDiff,reduceCtorEq,Int.reduceToNat,Int.reduceEq,Int.reduceBEq,Int.reduceBNe,Int.reduceLT,Int.reduceLE,Int.reduceNeg,Int.reduceAdd,Int.reduceSub,Int.reduceMul,Int.reduceGE,Int.reduceGT,Cl.enc,iv,endO]
 refine loop_unr 9 ?_
 rcases o with _ | ⟨a0,_ | ⟨a1,_ | ⟨a2,_ | ⟨a3,_ | ⟨a4,_ | ⟨a5,_ | ⟨a6,_ | ⟨a7,_ | ⟨a8,o⟩⟩⟩⟩⟩⟩⟩⟩⟩
 rotate_right
 ·exfalso
  simp at ho
 all_goals simp only [List.forall_mem_cons,List.not_mem_nil,false_implies,implies_true,and_true] at hr
 iterate 9
  all_goals try
   intro ι I μ i hb
   simp (maxSteps:=2000000) only [go_sem,↓reduceIte,Nat.reduceLT,Nat.reduceLeDiff,Nat.reduceAdd,Nat.reduceSub,Nat.reduceMul,Nat.reduceEqDiff,reduceCtorEq,Int.reduceToNat,Int.reduceEq,Int.reduceBEq,Int.reduceBNe,Int.reduceLT,Int.reduceLE,Int.reduceNeg,Int.reduceAdd,Int.reduceSub,Int.reduceMul,Int.reduceGE,Int.reduceGT,Cl.enc,iv,endO,eI,List.getD_cons_zero,List.getD_cons_succ]
   try refine hb _ ?_
 all_goals clear ho h
 all_goals refine retV fun E=>?_
 all_goals simp (disch:=omega) [SV.den,SC.den,picV,picI,List.range,List.range.loop,w8]
 all_goals repeat' (first | rfl | apply And.intro)
end Go.Proofs.Ytkjeedlkkpgopaa.Z
namespace Go.Proofs.Ytkjeedlkkpgopaa.Z
open Go Go.RowKit
def hY (ys:List Cl):Hist MC:=⟨fun i=>(ys.getD i cl0).fin != -1,fun i j=>aheadB (ys.getD i cl0) (ys.getD j cl0),fun m i=>allowM m (ys.getD i cl0)⟩
def cY (ys:List Cl):List Nat:=List.range ys.length
def oI (o:List Nat):List Int:=o.map fun (n:Nat)=>(n:Int)
theorem mem_oI {o:List Nat} {i:Nat}:(i:Int)∈oI o↔i∈o:=by
 simp only [oI,List.mem_map]
 constructor
 ·rintro ⟨a,h1,h2⟩
  have:a=i:=by omega
  exact this ▸ h1
 ·intro h;exact ⟨i,h,rfl⟩
theorem dec_oI {o:List Nat} {i:Nat}:decide ((i:Int)∈oI o)=o.contains i:=by
 rw [Bool.eq_iff_iff];simp only [decide_eq_true_eq,List.contains_eq_mem];exact mem_oI
theorem whole_eq (ys:List Cl) (o:List Nat):wholeB ys (oI o)=(hY ys).whole (cY ys) o:=by
 unfold wholeB Hist.whole cY
 exact all_congr fun i _=>by rw [dec_oI];rfl
theorem mayN_eq (ys:List Cl) (o:List Nat) (i:Nat):mayNB ys (oI o) i=(hY ys).mayW (cY ys) o i:=by
 unfold mayNB Hist.mayW cY
 rw [dec_oI]
 congr 1
 exact all_congr fun j _=>by rw [dec_oI];rfl
theorem oI_len (o:List Nat):(oI o).length=o.length:=by simp [oI]
theorem oI_push (o:List Nat) (i:Nat):oI (o++[i])=oI o++[(i:Int)]:=by simp [oI]
def ESC (b off:Nat) (vc vn vo v0 v1 v2 v3 v4:Value):Env:=⟨fun _=>0,fun _=>0,fun _=>false,fun x=>if x.1=0 then .slice (some ⟨b,off,none⟩) 1 1 else if x.1=1 then vc else if x.1=2 then vn else if x.1=3 then vo else fiv v0 v1 v2 v3 v4 (x.1 - 4)⟩
theorem enterSC {P:Program} {A:List Nat} {f nt:Nat} {fn:Func} {x:Code} {c:IR} {w:World} {rs:List RS} {R:Ending→World→Prop} {v vo vm:Value} {ys:List Cl} {nms o:List Int} {m:MC} {bm:Nat} (hS:Sr w v ys nms bm) (h:Arr w eI 1 vo o) (hc5:Cont w vm m)
  (hf:P.funcs[f]? = some fn) (hb:fn.body=some x) (hc:compC (mkTab P A) x=some c.strip) (hr:compR (mkTab P A).T fn.results.toList=some rs) (hn:fn.ntmps=nt) (hnt:3≤nt)
  (hex:exec (mkC P A w rs R) 1000 [.code c] ⟨nt,enumT 0 [.c (.ep (0,0,0) 3 0 0),.c (.xv (3,0,0)),.agg (mcS 4)],[],(3,.one (arrOf eI 1 o 0)) :: (srA 0 ys nms (.v (.map (some bm)))++mcA 4 m),[],9⟩):Calls P f #[v,vo,vm] w R:=by
 obtain ⟨b,off,vc,vn,rfl,c0,c1,c2,a1,a2⟩:=hS.ex
 obtain ⟨v0,v1,v2,v3,v4,rfl,m0,m1,m2,m3,m4⟩:=hc5
 have hone:OneC (ESC b off vc vn vo v0 v1 v2 v3 v4):=fun x=>by
  simp only [ESC]
  split
  ·rfl
  split
  ·exact arr_one a1
  split
  ·exact arr_one a2
  split
  ·exact arr_one h
  ·simp only [fiv]
   split <;> first | exact arr_one m0 | exact arr_one m1 | exact arr_one m2 | exact arr_one m3 | exact arr_one m4
 have g:∀ E' : Env,AgreeD (· < 9) (ESC b off vc vn vo v0 v1 v2 v3 v4) E'→E'.χ (0,0,0) = .slice (some ⟨b,off,none⟩) 1 1∧E'.χ (1,0,0)=vc∧E'.χ (2,0,0)=vn∧E'.χ (3,0,0)=vo∧E'.χ (4,0,0)=v0∧E'.χ (5,0,0)=v1∧E'.χ (6,0,0)=v2∧E'.χ (7,0,0)=v3∧E'.χ (8,0,0)=v4:=fun E' hE'=>by
  have q:∀ i,i<9→E'.χ (i,0,0)=(ESC b off vc vn vo v0 v1 v2 v3 v4).χ (i,0,0):=fun i hi=>(hE' (i,0,0) hi).2.2.2
  exact ⟨q 0 (by decide),q 1 (by decide),q 2 (by decide),q 3 (by decide),q 4 (by decide),q 5 (by decide),q 6 (by decide),q 7 (by decide),q 8 (by decide)⟩
 refine calls_sym (c:=c) (C:=mkC P A w rs R) 1000 [.c (.ep (0,0,0) 3 0 0),.c (.xv (3,0,0)),.agg (mcS 4)] (ESC b off vc vn vo v0 v1 v2 v3 v4) [] _ [] 9 nt _ (mkTab_ok _ _) hf hb hc hr hn rfl rfl hone (fun E' hE'=>?_) hnt (fun E' hE'=>inOk_arrs fun w' hw' x A hA=>?_) hex
 ·obtain ⟨g0,g1,g2,g3,g4,g5,g6,g7,g8⟩:=g E' hE'
  simp [SV.den,SC.den,mcS,g0,g3,g4,g5,g6,g7,g8]
 obtain ⟨g0,g1,g2,g3,g4,g5,g6,g7,g8⟩:=g E' hE'
 rcases atN_one hA with ⟨rfl,rfl⟩ | hA
 ·exact arr1 eI_ok g3 h hw'
 simp only [srA,mcA,List.cons_append,List.nil_append] at hA
 rcases atN_one hA with ⟨rfl,rfl⟩ | hA
 ·refine ⟨some ⟨b,off,none⟩,1,g0,Nat.le_refl _,by simp [maxLen],Or.inr ⟨b,off,rfl,Nat.zero_le _,fun k hk=>⟨rfl,fun j u hu=>?_⟩⟩⟩
  have hk:k=0:=by simp only at hk;omega
  subst hk
  match j,hu with
  | 0,hu =>
   simp at hu;subst hu
   exact ⟨by simp only [SC.den,g1];exact cell_keep c0 hw',by simp only [SC.den,g1];exact arr_one a1⟩
  | 1,hu =>
   simp at hu;subst hu
   exact ⟨by simp only [SC.den,g2];exact cell_keep c1 hw',by simp only [SC.den,g2];exact arr_one a2⟩
  | 2,hu =>
   simp at hu;subst hu
   exact ⟨by simp only [SC.den];exact cell_keep c2 hw',rfl⟩
  | j+3,hu=>simp at hu
 rcases atN_one hA with ⟨rfl,rfl⟩ | hA
 ·exact arr1 cl_ok g1 a1 hw'
 rcases atN_one hA with ⟨rfl,rfl⟩ | hA
 ·exact arr1 eI_ok g2 a2 hw'
 rcases atN_one hA with ⟨rfl,rfl⟩ | hA
 ·exact arr1 eI_ok g4 m0 hw'
 rcases atN_one hA with ⟨rfl,rfl⟩ | hA
 ·exact arr1 eI_ok g5 m1 hw'
 rcases atN_one hA with ⟨rfl,rfl⟩ | hA
 ·exact arr1 eI_ok g6 m2 hw'
 rcases atN_one hA with ⟨rfl,rfl⟩ | hA
 ·exact arr1 eI_ok g7 m3 hw'
 rcases atN_one hA with ⟨rfl,rfl⟩ | hA
 ·exact arr1 eP_ok g8 m4 hw'
 exact (atN_nil hA).elim
theorem sr_at {C:Ctx} {S:St} {E:Env} {a:Act} {w:World} {ys:List Cl} {nms:List Int} {m:SC} {bm:Nat} (hs:Sat C.B C.W C.w0 E S a w) (h0:look S.arrs 0=some (.one ⟨1,3,fun _=>[.xv (1,0,0),.xv (2,0,0),m],0⟩)) (h1:look S.arrs 1=some (.one (arrOf Cl.enc 9 ys cl0))) (h2:look S.arrs 2=some (.one (arrOf eI 1 nms 0)))
  (hm:m.den E = .map (some bm)):Sr w ((SC.ep (0,0,0) 3 0 0).den E) ys nms bm:=by
 have hh:=holds_of hs
 obtain ⟨ba,cap,g1,_,_,g2⟩:=hh.1 (0,0,0) _ (by simp [atN,h0,Fm.get];rfl)
 rcases g2 with g2 | ⟨b,off,rfl,_,g2⟩
 ·simp at g2
 have q:=(g2 0 (by simp)).2
 have q0:=(q 0 (.xv (1,0,0)) rfl).1
 have q1:=(q 1 (.xv (2,0,0)) rfl).1
 have q2:=(q 2 m rfl).1
 rw [hm] at q2
 simp only [Nat.zero_mul,Nat.add_zero,SC.den] at q0 q1 q2
 refine ⟨⟨b,off,E.χ (1,0,0),E.χ (2,0,0),by simp [SC.den,g1],q0,q1,q2,arr_at (d:=cl0) (l:=0) hs 1 (by simp [atN,h1,Fm.get]),arr_at (d:=0) (l:=0) hs 2 (by simp [atN,h2,Fm.get])⟩⟩
theorem o_len {n:Nat} {o:List Nat} (hn:o.Nodup) (hs:∀ i∈o,i<n):o.length≤n:=by
 have:=len_sub (c:=List.range n) hn fun i hi=>List.mem_range.2 (hs i hi)
 simpa using this
theorem fit_app8 (n:Nat) (h:n≤17592186044416):(n+n / 4+192) * 8≤281474976710656:=by
 have h4:n / 4 * 4≤n:=Nat.div_mul_le_self _ _
 generalize n / 4=q at *
 omega
def bnd:Nat→Nat
 | 0=>0
 | k+1=>1+8 * bnd k
theorem flat_bnd {α β:Type} {g:α→List β} {b:Nat}:∀ (l:List α),(∀ x∈l,(g x).length≤b)→(l.flatMap g).length≤l.length * b
 | [],_=>by simp
 | x :: l,h=>by
  have h1:=h x (by simp)
  have h2:=flat_bnd l fun y hy=>h y (by simp [hy])
  simp only [List.flatMap_cons,List.length_append,List.length_cons]
  rw [Nat.succ_mul]
  omega
theorem srch_len {σ:Type} (h:Hist σ) {cand:List Nat} (nx:List Nat→Nat→Bool) (h8:cand.length≤8):∀ (k:Nat) (o:List Nat) (s:σ),(h.srch cand nx k o s).length≤bnd k
 | 0,o,s=>Nat.le_refl _
 | k+1,o,s=>by
  simp only [Hist.srch,List.length_append,bnd]
  have h1:=flat_bnd (b:=bnd k) (g:=fun i=>if (nx o i && (h.al s i).2)=true then h.srch cand nx k (o++[i]) (h.al s i).1 else []) cand fun i hi=>by
   split
   ·exact srch_len h nx h8 k _ _
   ·simp
  have h2:cand.length * bnd k≤8 * bnd k:=Nat.mul_le_mul_right _ h8
  have h3:(if h.whole cand o=true then [o] else []).length≤1:=by split <;> simp
  omega
theorem bnd_mono:∀ {a b:Nat},a≤b→bnd a≤bnd b
 | 0,b,_=>Nat.zero_le _
 | a+1,0,h=>by omega
 | a+1,b+1,h=>by
  have:=bnd_mono (a:=a) (b:=b) (by omega)
  simp only [bnd];omega
def segY (ys:List Cl) (k:Nat) (o:List Nat) (m:MC) (i:Nat):List (List Nat):=(List.range i).flatMap fun i=>if ((hY ys).mayW (cY ys) o i && ((hY ys).al m i).2)=true then (hY ys).srch (cY ys) ((hY ys).mayW (cY ys)) k (o++[i]) ((hY ys).al m i).1 else []
theorem segY_succ (ys:List Cl) (k:Nat) (o:List Nat) (m:MC) (i:Nat):segY ys k o m (i+1)=segY ys k o m i++if ((hY ys).mayW (cY ys) o i && ((hY ys).al m i).2)=true then (hY ys).srch (cY ys) ((hY ys).mayW (cY ys)) k (o++[i]) ((hY ys).al m i).1 else []:=by
 simp [segY,List.range_succ,List.flatMap_append]
theorem srchY_succ (ys:List Cl) (k:Nat) (o:List Nat) (m:MC):(hY ys).srch (cY ys) ((hY ys).mayW (cY ys)) (k+1) o m=(if (hY ys).whole (cY ys) o=true then [o] else [])++segY ys k o m ys.length:=rfl
theorem segY_len (ys:List Cl) (k:Nat) (o:List Nat) (m:MC) (i:Nat) (h8:ys.length≤8) (hi:i≤ys.length):(segY ys k o m i).length≤8 * bnd k:=by
 have h1:=flat_bnd (b:=bnd k) (g:=fun i=>if ((hY ys).mayW (cY ys) o i && ((hY ys).al m i).2)=true then (hY ys).srch (cY ys) ((hY ys).mayW (cY ys)) k (o++[i]) ((hY ys).al m i).1 else []) (List.range i) fun i hi=>by
  split
  ·exact srch_len (hY ys) _ (by simpa [cY] using h8) k _ _
  ·simp
 rw [List.length_range] at h1
 have h2:i * bnd k≤8 * bnd k:=Nat.mul_le_mul_right _ (by omega)
 exact Nat.le_trans h1 h2
theorem arrLe_srn {x:Value} (n:Nat) (hn:3≤n):ArrLe (fun x=>x<n) (idσ id) ⟨1,3,fun _=>[.xv (1,0,0),.xv (2,0,0),.v x],0⟩ ⟨1,3,fun _=>[.xv (1,0,0),.xv (2,0,0),.v x],0⟩ :=
 ⟨rfl,rfl,fun e _=>⟨by simp [SC.renL,SC.ren,idσ],by simp [SC.okL,SC.okN];omega⟩,Nat.le_refl _⟩
def ir53:IR:=(.seq (.ops [⟨(some 5),(.box 70 (.t 2)),none⟩,⟨(some 6),(.mv (.k (.c (.v (.int .i64 0))))),none⟩]) (.kill [2,3,4,6,7,8,9,10,11] (.seq (.ops [⟨(some 7),(.mv (.k (.c (.v (.int .i64 0))))),none⟩]) (.seq (.seq (.ops [⟨(some 13),(.mv (.t 0)),none⟩,⟨(some 14),(.mv (.t 1)),none⟩,⟨(some 15),(.call 65 [(.t 13),(.t 14)]),none⟩]) (.kill [13,14] (.cond (.t 15) (.ops [⟨(some 7),(.mv (.k (.c (.v (.int .i64 1))))),none⟩]) .skip))) (.kill [15] (.seq (.seq (.ops [⟨(some 16),(.mv (.t 0)),none⟩,⟨(some 17),(.nilck (.t 16)),none⟩,⟨(some 18),(.fa 0 (.t 17)),none⟩,⟨(some 19),(.ld false 1 (.t 18)),none⟩,⟨(some 20),(.len (.t 19)),none⟩,⟨(some 21),(.mv (.k (.c (.v (.int .i64 0))))),none⟩]) (.kill [16,17,18] (.blk 0 (.loop (.seq (.ops [⟨(some 22),(.bin .lss (.t 21) (.t 20)),none⟩]) (.kill [8,9,10,11,12,23,24,25,26,27,28,29,30,31,32,33,34,35,36,37,38,39,40,41,42,43,44,45,46,47,48,49] (.seq (.cond (.t 22) .skip (.exit 0)) (.kill [22] (.seq (.blk 1 (.seq (.ops [⟨(some 23),(.mv (.t 21)),none⟩,⟨(some 24),(.ia 9 (.t 19) (.t 21)),none⟩,⟨(some 25),(.ld true 9 (.t 24)),none⟩,⟨(some 9),(.new 53 [(.v (.int .i64 0)),(.v (.int .i64 0)),(.v (.int .i64 0)),(.v (.int .i64 0)),(.v (.int .i64 0)),(.v (.int .i64 0)),(.v (.int .i64 0)),(.v (.int .i64 0)),(.v (.int .i64 0))]),none⟩,⟨(some 8),(.mv (.t 23)),none⟩,⟨none,(.st 9 (.t 9) (.t 25)),none⟩]) (.kill [23,24,25] (.seq (.seq (.ops [⟨(some 26),(.mv (.t 0)),none⟩,⟨(some 27),(.mv (.t 1)),none⟩,⟨(some 28),(.mv (.t 8)),none⟩,⟨(some 29),(.call 67 [(.t 26),(.t 27),(.t 28)]),none⟩,⟨(some 30),(.un .not (.t 29)),none⟩]) (.kill [26,27,28,29] (.cond (.t 30) (.exit 1) .skip))) (.kill [30] (.seq (.ops [⟨(some 32),(.ld true 5 (.t 5)),none⟩,⟨(some 33),(.ld true 9 (.t 9)),none⟩,⟨(some 34),(.call 68 [(.t 32),(.t 33)]),none⟩,⟨(some 31),(.mv (.t 34)),none⟩,⟨(some 35),(.ext 0 (.t 31)),none⟩,⟨(some 36),(.ext 1 (.t 31)),none⟩,⟨(some 37),(.ext 2 (.t 31)),none⟩,⟨(some 10),(.new 70 [(.v (.slice none 0 0)),(.v (.slice none 0 0)),(.v (.slice none 0 0)),(.v (.slice none 0 0)),(.v (.slice none 0 0))]),none⟩,⟨none,(.st 5 (.t 10) (.t 35)),none⟩,⟨(some 11),(.mv (.t 36)),none⟩,⟨(some 12),(.mv (.t 37)),none⟩]) (.kill [9,12,31,32,33,34,35,36,37] (.seq (.ops [⟨(some 38),(.mv (.t 11)),none⟩]) (.kill [11] (.cond (.t 38) (.draw [(⟨(some 39),(.mv (.t 7)),none⟩,([],[40,41,42,43,44,45,46,47])),(⟨(some 40),(.mv (.t 0)),none⟩,([0],[39,41,42,43,44,45,46])),(⟨(some 41),(.mv (.t 1)),none⟩,([0,1],[39,40,43,44,46])),(⟨(some 42),(.call 69 [(.t 41)]),none⟩,([0,1],[39,40,43,44,46])),(⟨(some 43),(.mv (.t 8)),none⟩,([0,1,2,3],[39,40,41,42,46])),(⟨(some 44),(.mkSl 3 1 1 [(.v (.int .i64 0))] [(0,(1,(.t 43)))]),none⟩,([0,1,2,3],[39,40,41,42,46])),(⟨(some 45),(.app 3 1 8 [(.v (.int .i64 0))] (.t 42) (.t 44)),none⟩,([0,1],[39,40,46])),(⟨(some 46),(.ld true 5 (.t 10)),none⟩,([0,1,2,3,4,5,6],[39,40,41,42,43,44,45])),(⟨(some 47),(.call 53 [(.t 40),(.t 45),(.t 46)]),none⟩,([0],[39])),(⟨(some 48),(.bin .add (.t 39) (.t 47)),none⟩,([],[])),(⟨(some 7),(.mv (.t 48)),none⟩,([],[]))]) .skip)))))))))) (.kill [8,9,10,11,12,23,24,25,26,27,28,29,30,31,32,33,34,35,36,37,38,39,40,41,42,43,44,45,46,47,48] (.ops [⟨(some 49),(.bin .add (.t 21) (.k (.c (.v (.int .i64 1))))),none⟩,⟨(some 21),(.mv (.t 49)),none⟩]))))))))))) (.kill [0,1,5,8,9,10,11,12,19,20,21,22,23,24,25,26,27,28,29,30,31,32,33,34,35,36,37,38,39,40,41,42,43,44,45,46,47,48,49] (.seq (.ops [⟨(some 50),(.mv (.t 7)),none⟩,⟨(some 6),(.mv (.t 50)),none⟩]) (.kill [7,50] .ret)))))))))
def rs53:List RS:=[(.t 6)]
def nt53:Nat:=51
set_option maxRecDepth 100000 in
set_option maxHeartbeats 400000 in
theorem count_calls:∀ (k:Nat) (w:World) (v vo vm:Value) (ys:List Cl) (nms:List Int) (bm:Nat) (o:List Nat) (m:MC) (hk:k≤9) (h8:ys.length≤8) (hob:∀ i,i<ys.length→objOf (ys.getD i cl0).op≠0) (hS:Sr w v ys nms bm) (h:Arr w eI 1 vo (oI o)) (hc:Cont w vm m)
  (hm:mayB m=true) (hu:m.upto o.length) (hf:ys.length+1≤k+o.length) (hn:o.Nodup) (hs:∀ i∈o,i<ys.length),Calls Try.prog 53 #[v,vo,vm] w (RetV w (.int .i64 (((hY ys).srch (cY ys) ((hY ys).mayW (cY ys)) k o m).length:Nat))):=by
 intro k
 induction k with
 | zero =>
  intro w v vo vm ys nms bm o m hk h8 hob hS h hc hm hu hf hn hs
  have:=o_len hn hs
  omega
 | succ k ih =>
  intro w v vo vm ys nms bm o m hk h8 hob hS h hc hm hu hf hn hs
  have hol:=o_len hn hs
  have hok:MC.okR m:=hu.okR (by omega)
  have hlb:bnd k≤19173961:=Nat.le_trans (bnd_mono (show k≤8 by omega)) (by decide)
  refine enterSC (A:=[]) (c:=ir53) (rs:=rs53) (nt:=nt53) hS h hc Try.func53 rfl (by kernel_rfl) (by kernel_rfl) rfl (of_decide_eq_true rfl) ?_
  simp (maxSteps:=2000000) only [ir53,nt53,rs53,go_sem,↓reduceIte,Nat.reduceLT,Nat.reduceLeDiff,Nat.reduceAdd,Nat.reduceSub,Nat.reduceMul,Nat.reduceEqDiff,reduceCtorEq,Int.reduceToNat,Int.reduceEq,Int.reduceBEq,Int.reduceBNe,Int.reduceLT,Int.reduceLE,Int.reduceNeg,Int.reduceAdd,Int.reduceSub,Int.reduceMul,Int.reduceGE,Int.reduceGT,Cl.enc,iv,endO,srA,mcS,mcA,List.cons_append,List.nil_append]
  refine callV (.c (.bo ((hY ys).whole (cY ys) o))) _ (fun E=>rfl) (fun E a w' hs=>by
   have:=whole_calls w' _ _ ys nms (oI o) bm (sr_at hs rfl rfl rfl rfl) (arr_at (d:=0) hs 3 rfl)
   rw [whole_eq] at this
   exact this) ?_
  simp (maxSteps:=2000000) only [go_sem,↓reduceIte,Nat.reduceLT,Nat.reduceLeDiff,Nat.reduceAdd,Nat.reduceSub,Nat.reduceMul,Nat.reduceEqDiff,reduceCtorEq,Int.reduceToNat,Int.reduceEq,Int.reduceBEq,Int.reduceBNe,Int.reduceLT,Int.reduceLE,Int.reduceNeg,Int.reduceAdd,Int.reduceSub,Int.reduceMul,Int.reduceGE,Int.reduceGT,Cl.enc,iv,endO]
  rw [srchY_succ]
  refine both (fun hw=>?_) (fun hw=>?_)
  ·rw [hw]
   simp only [if_true,List.length_append,List.length_cons,List.length_nil,Nat.zero_add]
   obtain ⟨W,hW⟩:∃ W:Nat,W=1:=⟨1,rfl⟩
   rw [show 1+(segY ys k o m ys.length).length=W+(segY ys k o m ys.length).length by rw [hW]]
   refine loopI (ι:={ i:Nat // i≤ys.length }) (fun i=>⟨51,[(0,.c (.ep (0,0,0) 3 0 0)),(1,.c (.xv (3,0,0))),(5,.c (.ptr (9,0,0) 0)),(7,.c (.v (.int .i64 ((W+(segY ys k o m i.1).length:Nat):Int)))),(19,.c (.xv (1,0,0))),(20,.c (.v (.int .i64 ys.length))),(21,.c (.v (.int .i64 (i.1:Nat))))],
    [(9,.one (.bk (mcS 4) 70))],(3,.one (arrOf eI 1 (oI o) 0)) :: (srA 0 ys nms (.v (.map (some bm)))++mcA 4 m),[],10⟩)
    (fun i=>ys.length - i.1) ⟨0,by omega⟩ ?_ ?_
   ·simp only [srA,mcS,mcA,List.cons_append,List.nil_append]
    exact le_tmps (by simp [TmpsSub,look,segY,hW])
   rintro ⟨i,hi⟩
   simp (maxSteps:=2000000) only [go_sem,↓reduceIte,Nat.reduceLT,Nat.reduceLeDiff,Nat.reduceAdd,Nat.reduceSub,Nat.reduceMul,Nat.reduceEqDiff,reduceCtorEq,Int.reduceToNat,Int.reduceEq,Int.reduceBEq,Int.reduceBNe,Int.reduceLT,Int.reduceLE,Int.reduceNeg,Int.reduceAdd,Int.reduceSub,Int.reduceMul,Int.reduceGE,Int.reduceGT,Cl.enc,iv,endO,srA,mcS,mcA,List.cons_append,List.nil_append]
   refine both (fun hlt=>?_) (fun hge=>?_)
   ·rw [decide_eq_true_eq] at hlt
    have hlt:i<ys.length:=by omega
    have hsl:=segY_len ys k o m i h8 hi
    have hsc:=segY_succ ys k o m i
    generalize hci:ys.getD i cl0=ci
    have hal:(hY ys).al m i=allowM m ci:=by rw [← hci];rfl
    rw [hal] at hsc
    have hmn:=mayN_eq ys o i
    have hobi:=hob i hlt
    rw [hci] at hobi
    repeat (with_reducible refine And.intro (by first | (simp only [maxLen];omega) | omega | decide | (simp;done) | (simp [maxLen];omega)) ?_)
    refine callV (.c (.bo ((hY ys).mayW (cY ys) o i))) _ (fun E=>rfl) (fun E a w' hs=>by
     have:=may_next w' _ _ ys nms (oI o) bm i hlt (sr_at hs rfl rfl rfl rfl) (arr_at (d:=0) hs 3 rfl)
     rw [hmn] at this
     exact this) ?_
    simp (maxSteps:=2000000) only [go_sem,↓reduceIte,Nat.reduceLT,Nat.reduceLeDiff,Nat.reduceAdd,Nat.reduceSub,Nat.reduceMul,Nat.reduceEqDiff,reduceCtorEq,Int.reduceToNat,Int.reduceEq,Int.reduceBEq,Int.reduceBNe,Int.reduceLT,Int.reduceLE,Int.reduceNeg,Int.reduceAdd,Int.reduceSub,Int.reduceMul,Int.reduceGE,Int.reduceGT,Cl.enc,iv,endO]
    refine both (fun hb=>?_) (fun hb=>?_)
    ·have hb:(hY ys).mayW (cY ys) o i=false:=by simpa using hb
     rw [hb,Bool.false_and,if_neg (by simp),List.append_nil] at hsc
     rw [wr_succ (by omega)]
     exact backI ⟨i+1,by omega⟩ (by simp only;omega) (by simp only [srA,mcS,mcA,List.cons_append,List.nil_append];exact le_ren id rfl rfl (by simp [TmpsLe,look,SV.ren,SC.ren,SC.renL,ren1L,ren1,idσ,SV.okN,SC.okN,SC.okL,ok1L,hsc]) (by simp [OwnLe,BlkLeO,BlkLe,atN,look,Fm.get,idσ,SC.renL,SC.ren,SC.okL,SC.okN,renL_v,okL_v]) (by simp [ArrsLe,ArrLeO,atN,look,Fm.get,idσ,arrLe_of,arrLe_0,arrLe_srn]) rfl)
    ·have hb:(hY ys).mayW (cY ys) o i=true:=by simpa using hb
     rw [hb,Bool.true_and] at hsc
     refine callB 5 (alT (allowM m ci)) (mcR (allowM m ci).1) (fun E a w' hs=>al_Z ci (cont_at hs 4 rfl rfl rfl rfl rfl) hok hm hobi) ?_
     simp (maxSteps:=2000000) only [go_sem,↓reduceIte,Nat.reduceLT,Nat.reduceLeDiff,Nat.reduceAdd,Nat.reduceSub,Nat.reduceMul,Nat.reduceEqDiff,reduceCtorEq,Int.reduceToNat,Int.reduceEq,Int.reduceBEq,Int.reduceBNe,Int.reduceLT,Int.reduceLE,Int.reduceNeg,Int.reduceAdd,Int.reduceSub,Int.reduceMul,Int.reduceGE,Int.reduceGT,Cl.enc,iv,endO,alT,mcS,mcR,mcA]
     have hup:=allowM_upto (c:=ci) hu
     have hmy:=allowM_may (c:=ci) hm
     generalize allowM m ci=p at hsc hup hmy ⊢
     obtain ⟨m2,b⟩:=p
     simp only at hsc hup hmy
     refine both (fun hbb=>?_) (fun hbb=>?_)
     ·rw [if_pos hbb] at hsc
      subst hbb
      have hio:=(mayW_iff.1 hb).1
      refine draw_vc (by kernel_rfl) (mkTab_ok _ _) (of_decide_eq_true rfl) (of_decide_eq_true rfl) ?_
      repeat (first | simp (maxSteps:=2000000) only [go_sem,↓reduceIte,Nat.reduceLT,Nat.reduceLeDiff,Nat.reduceAdd,Nat.reduceSub,Nat.reduceMul,Nat.reduceEqDiff,reduceCtorEq,Int.reduceToNat,Int.reduceEq,Int.reduceBEq,Int.reduceBNe,Int.reduceLT,Int.reduceLE,Int.reduceNeg,Int.reduceAdd,Int.reduceSub,Int.reduceMul,Int.reduceGE,Int.reduceGT,Cl.enc,iv,endO,srA] | rw [dr_cons])
      refine dcall_intro (cr_valN (.c (.xs (3,0,0) 1 0 (oI o).length (some (oI o).length))) [3] (by simp [SV.okN,SC.okN]) (fun E a w' hs=>?_)) rfl trivial trivial (fun k hk=>by cases hk) ?_
      ·have hA:=arr_at (d:=0) (l:=0) (xs:=oI o) (enc:=eI) (s:=1) hs 3 rfl
       have hcl:=clip_calls w' _ (oI o) hA
       obtain ⟨ba,cap,hv,_⟩:=hA
       refine hcl.mono ?_
       rintro e w2 ⟨rfl,hb2⟩
       refine ⟨?_,hb2⟩
       rw [den_c]
       simp only [SC.den,hv,clipV]
       cases ba <;> simp [Addr.add]
      repeat (first | simp (maxSteps:=2000000) only [go_sem,↓reduceIte,Nat.reduceLT,Nat.reduceLeDiff,Nat.reduceAdd,Nat.reduceSub,Nat.reduceMul,Nat.reduceEqDiff,reduceCtorEq,Int.reduceToNat,Int.reduceEq,Int.reduceBEq,Int.reduceBNe,Int.reduceLT,Int.reduceLE,Int.reduceNeg,Int.reduceAdd,Int.reduceSub,Int.reduceMul,Int.reduceGE,Int.reduceGT,Cl.enc,iv,endO,srA] | rw [dr_cons])
      have hoil:=oI_len o
      have hf8:((oI o).length+1+((oI o).length+1) / 4+192) * 8≤281474976710656:=fit_app8 _ (by omega)
      have hml:(oI o).length+1≤maxLen:=by simp only [maxLen];omega
      refine And.intro (by decide) (And.intro (Or.inl trivial) (And.intro (And.intro (Nat.le_refl _) (And.intro hf8 hml)) (And.intro (Or.inl trivial) ?_)))
      clear hf8 hml
      have hnn:(o++[i]).Nodup:=by
       rw [List.nodup_append]
       exact ⟨hn,by simp,fun a ha b hb=>by rw [List.mem_singleton] at hb;exact fun e=>hio (by rw [← hb,← e];exact ha)⟩
      have hss:∀ j∈o++[i],j<ys.length:=fun j hj=>by
       rcases List.mem_append.1 hj with hj | hj
       ·exact hs j hj
       ·rw [List.mem_singleton] at hj;exact hj ▸ hlt
      have hll:(o++[i]).length=o.length+1:=by simp
      have hsb:=srch_len (hY ys) (cand:=cY ys) ((hY ys).mayW (cY ys)) (by simpa [cY] using h8) k (o++[i]) m2
      refine dcallV (.c (.v (.int .i64 (((hY ys).srch (cY ys) ((hY ys).mayW (cY ys)) k (o++[i]) m2).length:Nat)))) _ (fun E=>rfl) (fun E a w' hs2=>ih w' _ _ _ ys nms bm (o++[i]) m2 (by omega) h8 hob (sr_at hs2 rfl rfl rfl rfl)
       (arr_own (d:=0) hs2 18 ((oI o).length+1) _ _ rfl (by rw [oI_push];simp) (by rw [oI_push];simp) (fun e he=>ats_push (oI_push o i) rfl (fun e he=>rfl) rfl e he)) (cont_at hs2 11 rfl rfl rfl rfl rfl) hmy (by rw [hll];exact hup) (by rw [hll];omega) hnn hss) ?_
      repeat (first | simp (maxSteps:=2000000) only [go_sem,↓reduceIte,Nat.reduceLT,Nat.reduceLeDiff,Nat.reduceAdd,Nat.reduceSub,Nat.reduceMul,Nat.reduceEqDiff,reduceCtorEq,Int.reduceToNat,Int.reduceEq,Int.reduceBEq,Int.reduceBNe,Int.reduceLT,Int.reduceLE,Int.reduceNeg,Int.reduceAdd,Int.reduceSub,Int.reduceMul,Int.reduceGE,Int.reduceGT,Cl.enc,iv,endO,srA] | rw [dr_cons])
      have hcat:(segY ys k o m (i+1)).length=(segY ys k o m i).length+((hY ys).srch (cY ys) ((hY ys).mayW (cY ys)) k (o++[i]) m2).length:=by rw [hsc,List.length_append]
      have hwp:IntKind.i64.wrap (((W+(segY ys k o m i).length:Nat):Int)+(((hY ys).srch (cY ys) ((hY ys).mayW (cY ys)) k (o++[i]) m2).length:Nat))=((W+(segY ys k o m (i+1)).length:Nat):Int):=by
       rw [hcat,wr64 (by omega) (by omega)];omega
      rw [hwp,wr_succ (by omega)]
      exact backI ⟨i+1,by omega⟩ (by simp only;omega) (by simp only [srA,mcS,mcA,List.cons_append,List.nil_append];exact le_ren id rfl rfl (by simp [TmpsLe,look,SV.ren,SC.ren,SC.renL,ren1L,ren1,idσ,SV.okN,SC.okN,SC.okL,ok1L]) (by simp [OwnLe,BlkLeO,BlkLe,atN,look,Fm.get,idσ,SC.renL,SC.ren,SC.okL,SC.okN,renL_v,okL_v]) (by simp [ArrsLe,ArrLeO,atN,look,Fm.get,idσ,arrLe_of,arrLe_0,arrLe_srn]) rfl)
     ·have hbb:b=false:=by simpa using hbb
      rw [if_neg (by simp [hbb]),List.append_nil] at hsc
      rw [wr_succ (by omega)]
      exact backI ⟨i+1,by omega⟩ (by simp only;omega) (by simp only [srA,mcS,mcA,List.cons_append,List.nil_append];exact le_ren id rfl rfl (by simp [TmpsLe,look,SV.ren,SC.ren,SC.renL,ren1L,ren1,idσ,SV.okN,SC.okN,SC.okL,ok1L,hsc]) (by simp [OwnLe,BlkLeO,BlkLe,atN,look,Fm.get,idσ,SC.renL,SC.ren,SC.okL,SC.okN,renL_v,okL_v]) (by simp [ArrsLe,ArrLeO,atN,look,Fm.get,idσ,arrLe_of,arrLe_0,arrLe_srn]) rfl)
   ·rw [decide_eq_false_iff_not] at hge
    have hin:i=ys.length:=by omega
    subst hin
    exact retV fun E=>by rw [den_c,den_v]
  ·rw [hw]
   simp only [Bool.false_eq_true,if_false,List.nil_append]
   obtain ⟨W,hW⟩:∃ W:Nat,W=0:=⟨0,rfl⟩
   rw [show (segY ys k o m ys.length).length=W+(segY ys k o m ys.length).length by rw [hW,Nat.zero_add]]
   refine loopI (ι:={ i:Nat // i≤ys.length }) (fun i=>⟨51,[(0,.c (.ep (0,0,0) 3 0 0)),(1,.c (.xv (3,0,0))),(5,.c (.ptr (9,0,0) 0)),(7,.c (.v (.int .i64 ((W+(segY ys k o m i.1).length:Nat):Int)))),(19,.c (.xv (1,0,0))),(20,.c (.v (.int .i64 ys.length))),(21,.c (.v (.int .i64 (i.1:Nat))))],
    [(9,.one (.bk (mcS 4) 70))],(3,.one (arrOf eI 1 (oI o) 0)) :: (srA 0 ys nms (.v (.map (some bm)))++mcA 4 m),[],10⟩)
    (fun i=>ys.length - i.1) ⟨0,by omega⟩ ?_ ?_
   ·simp only [srA,mcS,mcA,List.cons_append,List.nil_append]
    exact le_tmps (by simp [TmpsSub,look,segY,hW])
   rintro ⟨i,hi⟩
   simp (maxSteps:=2000000) only [go_sem,↓reduceIte,Nat.reduceLT,Nat.reduceLeDiff,Nat.reduceAdd,Nat.reduceSub,Nat.reduceMul,Nat.reduceEqDiff,reduceCtorEq,Int.reduceToNat,Int.reduceEq,Int.reduceBEq,Int.reduceBNe,Int.reduceLT,Int.reduceLE,Int.reduceNeg,Int.reduceAdd,Int.reduceSub,Int.reduceMul,Int.reduceGE,Int.reduceGT,Cl.enc,iv,endO,srA,mcS,mcA,List.cons_append,List.nil_append]
   refine both (fun hlt=>?_) (fun hge=>?_)
   ·rw [decide_eq_true_eq] at hlt
    have hlt:i<ys.length:=by omega
    have hsl:=segY_len ys k o m i h8 hi
    have hsc:=segY_succ ys k o m i
    generalize hci:ys.getD i cl0=ci
    have hal:(hY ys).al m i=allowM m ci:=by rw [← hci];rfl
    rw [hal] at hsc
    have hmn:=mayN_eq ys o i
    have hobi:=hob i hlt
    rw [hci] at hobi
    repeat (with_reducible refine And.intro (by first | (simp only [maxLen];omega) | omega | decide | (simp;done) | (simp [maxLen];omega)) ?_)
    refine callV (.c (.bo ((hY ys).mayW (cY ys) o i))) _ (fun E=>rfl) (fun E a w' hs=>by
     have:=may_next w' _ _ ys nms (oI o) bm i hlt (sr_at hs rfl rfl rfl rfl) (arr_at (d:=0) hs 3 rfl)
     rw [hmn] at this
     exact this) ?_
    simp (maxSteps:=2000000) only [go_sem,↓reduceIte,Nat.reduceLT,Nat.reduceLeDiff,Nat.reduceAdd,Nat.reduceSub,Nat.reduceMul,Nat.reduceEqDiff,reduceCtorEq,Int.reduceToNat,Int.reduceEq,Int.reduceBEq,Int.reduceBNe,Int.reduceLT,Int.reduceLE,Int.reduceNeg,Int.reduceAdd,Int.reduceSub,Int.reduceMul,Int.reduceGE,Int.reduceGT,Cl.enc,iv,endO]
    refine both (fun hb=>?_) (fun hb=>?_)
    ·have hb:(hY ys).mayW (cY ys) o i=false:=by simpa using hb
     rw [hb,Bool.false_and,if_neg (by simp),List.append_nil] at hsc
     rw [wr_succ (by omega)]
     exact backI ⟨i+1,by omega⟩ (by simp only;omega) (by simp only [srA,mcS,mcA,List.cons_append,List.nil_append];exact le_ren id rfl rfl (by simp [TmpsLe,look,SV.ren,SC.ren,SC.renL,ren1L,ren1,idσ,SV.okN,SC.okN,SC.okL,ok1L,hsc]) (by simp [OwnLe,BlkLeO,BlkLe,atN,look,Fm.get,idσ,SC.renL,SC.ren,SC.okL,SC.okN,renL_v,okL_v]) (by simp [ArrsLe,ArrLeO,atN,look,Fm.get,idσ,arrLe_of,arrLe_0,arrLe_srn]) rfl)
    ·have hb:(hY ys).mayW (cY ys) o i=true:=by simpa using hb
     rw [hb,Bool.true_and] at hsc
     refine callB 5 (alT (allowM m ci)) (mcR (allowM m ci).1) (fun E a w' hs=>al_Z ci (cont_at hs 4 rfl rfl rfl rfl rfl) hok hm hobi) ?_
     simp (maxSteps:=2000000) only [go_sem,↓reduceIte,Nat.reduceLT,Nat.reduceLeDiff,Nat.reduceAdd,Nat.reduceSub,Nat.reduceMul,Nat.reduceEqDiff,reduceCtorEq,Int.reduceToNat,Int.reduceEq,Int.reduceBEq,Int.reduceBNe,Int.reduceLT,Int.reduceLE,Int.reduceNeg,Int.reduceAdd,Int.reduceSub,Int.reduceMul,Int.reduceGE,Int.reduceGT,Cl.enc,iv,endO,alT,mcS,mcR,mcA]
     have hup:=allowM_upto (c:=ci) hu
     have hmy:=allowM_may (c:=ci) hm
     generalize allowM m ci=p at hsc hup hmy ⊢
     obtain ⟨m2,b⟩:=p
     simp only at hsc hup hmy
     refine both (fun hbb=>?_) (fun hbb=>?_)
     ·rw [if_pos hbb] at hsc
      subst hbb
      have hio:=(mayW_iff.1 hb).1
      refine draw_vc (by kernel_rfl) (mkTab_ok _ _) (of_decide_eq_true rfl) (of_decide_eq_true rfl) ?_
      repeat (first | simp (maxSteps:=2000000) only [go_sem,↓reduceIte,Nat.reduceLT,Nat.reduceLeDiff,Nat.reduceAdd,Nat.reduceSub,Nat.reduceMul,Nat.reduceEqDiff,reduceCtorEq,Int.reduceToNat,Int.reduceEq,Int.reduceBEq,Int.reduceBNe,Int.reduceLT,Int.reduceLE,Int.reduceNeg,Int.reduceAdd,Int.reduceSub,Int.reduceMul,Int.reduceGE,Int.reduceGT,Cl.enc,iv,endO,srA] | rw [dr_cons])
      refine dcall_intro (cr_valN (.c (.xs (3,0,0) 1 0 (oI o).length (some (oI o).length))) [3] (by simp [SV.okN,SC.okN]) (fun E a w' hs=>?_)) rfl trivial trivial (fun k hk=>by cases hk) ?_
      ·have hA:=arr_at (d:=0) (l:=0) (xs:=oI o) (enc:=eI) (s:=1) hs 3 rfl
       have hcl:=clip_calls w' _ (oI o) hA
       obtain ⟨ba,cap,hv,_⟩:=hA
       refine hcl.mono ?_
       rintro e w2 ⟨rfl,hb2⟩
       refine ⟨?_,hb2⟩
       rw [den_c]
       simp only [SC.den,hv,clipV]
       cases ba <;> simp [Addr.add]
      repeat (first | simp (maxSteps:=2000000) only [go_sem,↓reduceIte,Nat.reduceLT,Nat.reduceLeDiff,Nat.reduceAdd,Nat.reduceSub,Nat.reduceMul,Nat.reduceEqDiff,reduceCtorEq,Int.reduceToNat,Int.reduceEq,Int.reduceBEq,Int.reduceBNe,Int.reduceLT,Int.reduceLE,Int.reduceNeg,Int.reduceAdd,Int.reduceSub,Int.reduceMul,Int.reduceGE,Int.reduceGT,Cl.enc,iv,endO,srA] | rw [dr_cons])
      have hoil:=oI_len o
      have hf8:((oI o).length+1+((oI o).length+1) / 4+192) * 8≤281474976710656:=fit_app8 _ (by omega)
      have hml:(oI o).length+1≤maxLen:=by simp only [maxLen];omega
      refine And.intro (by decide) (And.intro (Or.inl trivial) (And.intro (And.intro (Nat.le_refl _) (And.intro hf8 hml)) (And.intro (Or.inl trivial) ?_)))
      clear hf8 hml
      have hnn:(o++[i]).Nodup:=by
       rw [List.nodup_append]
       exact ⟨hn,by simp,fun a ha b hb=>by rw [List.mem_singleton] at hb;exact fun e=>hio (by rw [← hb,← e];exact ha)⟩
      have hss:∀ j∈o++[i],j<ys.length:=fun j hj=>by
       rcases List.mem_append.1 hj with hj | hj
       ·exact hs j hj
       ·rw [List.mem_singleton] at hj;exact hj ▸ hlt
      have hll:(o++[i]).length=o.length+1:=by simp
      have hsb:=srch_len (hY ys) (cand:=cY ys) ((hY ys).mayW (cY ys)) (by simpa [cY] using h8) k (o++[i]) m2
      refine dcallV (.c (.v (.int .i64 (((hY ys).srch (cY ys) ((hY ys).mayW (cY ys)) k (o++[i]) m2).length:Nat)))) _ (fun E=>rfl) (fun E a w' hs2=>ih w' _ _ _ ys nms bm (o++[i]) m2 (by omega) h8 hob (sr_at hs2 rfl rfl rfl rfl)
       (arr_own (d:=0) hs2 18 ((oI o).length+1) _ _ rfl (by rw [oI_push];simp) (by rw [oI_push];simp) (fun e he=>ats_push (oI_push o i) rfl (fun e he=>rfl) rfl e he)) (cont_at hs2 11 rfl rfl rfl rfl rfl) hmy (by rw [hll];exact hup) (by rw [hll];omega) hnn hss) ?_
      repeat (first | simp (maxSteps:=2000000) only [go_sem,↓reduceIte,Nat.reduceLT,Nat.reduceLeDiff,Nat.reduceAdd,Nat.reduceSub,Nat.reduceMul,Nat.reduceEqDiff,reduceCtorEq,Int.reduceToNat,Int.reduceEq,Int.reduceBEq,Int.reduceBNe,Int.reduceLT,Int.reduceLE,Int.reduceNeg,Int.reduceAdd,Int.reduceSub,Int.reduceMul,Int.reduceGE,Int.reduceGT,Cl.enc,iv,endO,srA] | rw [dr_cons])
      have hcat:(segY ys k o m (i+1)).length=(segY ys k o m i).length+((hY ys).srch (cY ys) ((hY ys).mayW (cY ys)) k (o++[i]) m2).length:=by rw [hsc,List.length_append]
      have hwp:IntKind.i64.wrap (((W+(segY ys k o m i).length:Nat):Int)+(((hY ys).srch (cY ys) ((hY ys).mayW (cY ys)) k (o++[i]) m2).length:Nat))=((W+(segY ys k o m (i+1)).length:Nat):Int):=by
       rw [hcat,wr64 (by omega) (by omega)];omega
      rw [hwp,wr_succ (by omega)]
      exact backI ⟨i+1,by omega⟩ (by simp only;omega) (by simp only [srA,mcS,mcA,List.cons_append,List.nil_append];exact le_ren id rfl rfl (by simp [TmpsLe,look,SV.ren,SC.ren,SC.renL,ren1L,ren1,idσ,SV.okN,SC.okN,SC.okL,ok1L]) (by simp [OwnLe,BlkLeO,BlkLe,atN,look,Fm.get,idσ,SC.renL,SC.ren,SC.okL,SC.okN,renL_v,okL_v]) (by simp [ArrsLe,ArrLeO,atN,look,Fm.get,idσ,arrLe_of,arrLe_0,arrLe_srn]) rfl)
     ·have hbb:b=false:=by simpa using hbb
      rw [if_neg (by simp [hbb]),List.append_nil] at hsc
      rw [wr_succ (by omega)]
      exact backI ⟨i+1,by omega⟩ (by simp only;omega) (by simp only [srA,mcS,mcA,List.cons_append,List.nil_append];exact le_ren id rfl rfl (by simp [TmpsLe,look,SV.ren,SC.ren,SC.renL,ren1L,ren1,idσ,SV.okN,SC.okN,SC.okL,ok1L,hsc]) (by simp [OwnLe,BlkLeO,BlkLe,atN,look,Fm.get,idσ,SC.renL,SC.ren,SC.okL,SC.okN,renL_v,okL_v]) (by simp [ArrsLe,ArrLeO,atN,look,Fm.get,idσ,arrLe_of,arrLe_0,arrLe_srn]) rfl)
   ·rw [decide_eq_false_iff_not] at hge
    have hin:i=ys.length:=by omega
    subst hin
    exact retV fun E=>by rw [den_c,den_v]
end Go.Proofs.Ytkjeedlkkpgopaa.Z
namespace Go.Proofs.Ytkjeedlkkpgopaa.Z
open Go Go.RowKit
def MapF (w:World) (bm:Nat) (f:Mem):Prop:=∃ es clock,w.heap[bm]? = some (.map es clock)∧MapOk (.arr 8 .i8) .i64 f es clock
structure But (bm:Nat) (w w' : World):Prop where
 os:w'.os=w.os
 tape:w'.tape=w.tape
 output:w'.output=w.output
 size:w.heap.size≤w'.heap.size
 block:∀ n,n<w.heap.size→n≠bm→w'.heap[n]? = w.heap[n]?
def LsP (w:World) (bm:Nat) (vo:Value) (wh:Bool) (r:Option (List Nat)) (f' : Mem) (e:Ending) (w' : World):Prop :=
 ∃ v,e = .returned (.tuple #[v,.bool r.isSome])∧But bm w w'∧MapF w' bm f'∧(wh=true→v=vo) ∧
  (wh=false→v.oneCell' = true∧∀ w'' : World,(∀ n,w.heap.size≤n→n<w'.heap.size→w''.heap[n]? = w'.heap[n]?)→Arr w'' eI 1 v (oI (r.getD [])))
def mkW (P:Program) (w:World) (bm:Nat) (rs:List RS) (R:Ending→World→Prop):Ctx:=⟨P,mkTab P [],w.heap.size,fun n=>n=bm,w,rs,R⟩
theorem mkW_rs (P:Program) (w:World) (bm:Nat) (rs:List RS) (R:Ending→World→Prop):(mkW P w bm rs R).rs=rs:=rfl
theorem mkW_B (P:Program) (w:World) (bm:Nat) (rs:List RS) (R:Ending→World→Prop):(mkW P w bm rs R).B=w.heap.size:=rfl
def FB (bm:Nat):Env→World→Prop:=fun E _=>E.ρ (9,0,0)=bm
def FO (vo:Value):Env→World→Prop:=fun E _=>E.χ (3,0,0)=vo
theorem map_cell {w w' : World} {bm:Nat} {a:Addr} {u:Value} {es:Array MapEntry} {clock:Nat} (hm:w.heap[bm]? = some (.map es clock)) (hk:∀ n,n<w.heap.size→n≠bm→w'.heap[n]? = w.heap[n]?) (h:w.cell? a=some u):w'.cell? a=some u:=by
 have hb:a.block≠bm:=fun e=>by
  unfold World.cell? at h
  rw [e,hm] at h
  simp at h
 have hlt:a.block<w.heap.size:=by
  unfold World.cell? at h
  cases he:w.heap[a.block]? with
  | none=>rw [he] at h;simp at h
  | some o=>exact (Array.getElem?_eq_some_iff.1 he).1
 unfold World.cell? at h ⊢
 rw [hk _ hlt hb]
 exact h
theorem arr_but {α:Type} {w w' : World} {enc:α→List Value} {s:Nat} {v:Value} {xs:List α} {bm:Nat} {es:Array MapEntry} {clock:Nat} (hm:w.heap[bm]? = some (.map es clock)) (hk:∀ n,n<w.heap.size→n≠bm→w'.heap[n]? = w.heap[n]?) (h:Arr w enc s v xs):Arr w' enc s v xs:=h.keep fun a u hu=>map_cell hm hk hu
theorem enterLS {P:Program} {f nt:Nat} {fn:Func} {x:Code} {c:IR} {w:World} {rs:List RS} {R:Ending→World→Prop} {v vo vm:Value} {ys:List Cl} {nms o:List Int} {m:MC} {bm:Nat} {g:Mem} (hS:Sr w v ys nms bm) (h:Arr w eI 1 vo o) (hc5:Cont w vm m) (hg:MapF w bm g)
  (hf:P.funcs[f]? = some fn) (hb:fn.body=some x) (hc:compC (mkTab P []) x=some c.strip) (hr:compR (mkTab P []).T fn.results.toList=some rs) (hn:fn.ntmps=nt) (hnt:3≤nt)
  (hex:exec (mkW P w bm rs R) 1000 [.code c] ⟨nt,enumT 0 [.c (.ep (0,0,0) 3 0 0),.c (.xv (3,0,0)),.agg (mcS 4)],[(9,.one (.mp (.arr 8 .i8) .i64 g))],(3,.one (arrOf eI 1 o 0)) :: (srA 0 ys nms (.mp (9,0,0))++mcA 4 m),[FB bm,FO vo],10⟩):Calls P f #[v,vo,vm] w R:=by
 obtain ⟨b,off,vc,vn,rfl,c0,c1,c2,a1,a2⟩:=hS.ex
 obtain ⟨v0,v1,v2,v3,v4,rfl,m0,m1,m2,m3,m4⟩:=hc5
 obtain ⟨es,clock,hm,hok⟩:=hg
 let E0:Env:=⟨fun _=>bm,fun _=>0,fun _=>false,(ESC b off vc vn vo v0 v1 v2 v3 v4).χ⟩
 have hone:OneC E0:=fun x=>by
  simp only [E0,ESC]
  split
  ·rfl
  split
  ·exact arr_one a1
  split
  ·exact arr_one a2
  split
  ·exact arr_one h
  ·simp only [fiv]
   split <;> first | exact arr_one m0 | exact arr_one m1 | exact arr_one m2 | exact arr_one m3 | exact arr_one m4
 have gg:∀ E' : Env,AgreeD (· < 10) E0 E'→E'.ρ (9,0,0)=bm∧E'.χ (0,0,0) = .slice (some ⟨b,off,none⟩) 1 1∧E'.χ (1,0,0)=vc∧E'.χ (2,0,0)=vn∧E'.χ (3,0,0)=vo∧E'.χ (4,0,0)=v0∧E'.χ (5,0,0)=v1∧E'.χ (6,0,0)=v2∧E'.χ (7,0,0)=v3∧E'.χ (8,0,0)=v4:=fun E' hE'=>by
  have q:∀ i,i<10→E'.χ (i,0,0)=E0.χ (i,0,0):=fun i hi=>(hE' (i,0,0) hi).2.2.2
  exact ⟨(hE' (9,0,0) (show 9<10 by decide)).1,q 0 (by decide),q 1 (by decide),q 2 (by decide),q 3 (by decide),q 4 (by decide),q 5 (by decide),q 6 (by decide),q 7 (by decide),q 8 (by decide)⟩
 refine calls_sym (c:=c) (C:=mkW P w bm rs R) 1000 [.c (.ep (0,0,0) 3 0 0),.c (.xv (3,0,0)),.agg (mcS 4)] E0 [(9,.one (.mp (.arr 8 .i8) .i64 g))] _ [FB bm,FO vo] 10 nt _ (mkTab_ok _ _) hf hb hc hr hn rfl rfl hone (fun E' hE'=>?_) hnt (fun E' hE'=>?_) hex
 ·obtain ⟨_,g0,g1,g2,g3,g4,g5,g6,g7,g8⟩:=gg E' hE'
  simp [SV.den,SC.den,mcS,g0,g3,g4,g5,g6,g7,g8]
 obtain ⟨g9,g0,g1,g2,g3,g4,g5,g6,g7,g8⟩:=gg E' hE'
 have hat:∀ x b,atN ([(9,.one (.mp (.arr 8 .i8) .i64 g))]:Own) x=some b→x=(9,0,0)∧b = .mp (.arr 8 .i8) .i64 g:=fun x b hx=>by
  rcases atN_one hx with hx | hx
  ·exact hx
  ·exact (atN_nil hx).elim
 refine ⟨fun _=>sing bm (.map es clock),fun x b hx=>?_,fun x y b c hx hy hne=>?_,fun x b hx n o hn=>?_,fun w' hw'=>?_⟩
 ·obtain ⟨rfl,rfl⟩:=hat x b hx
  exact ⟨es,clock,by rw [g9],hok⟩
 ·obtain ⟨rfl,_⟩:=hat x b hx
  obtain ⟨rfl,_⟩:=hat y c hy
  exact absurd rfl hne
 ·obtain ⟨rfl,rfl⟩:=sing_some hn
  exact ⟨hm,rfl⟩
 have hk:∀ n,n<w.heap.size→n≠bm→w'.heap[n]? = w.heap[n]?:=fun n hn hne=>hw' n hn fun x b hx=>by simp [sing,hne]
 refine ⟨fun x A hA=>?_,fun φ hφ=>?_⟩
 ·have key:∀ {α:Type} {enc:α→List Value} {s:Nat} {xs:List α} {d:α} (T:EncT enc s) {i:Nat} {u:Value},E'.χ (i,0,0)=u→Arr w enc s u xs→ArrAt E' w' (i,0,0) (arrOf enc s xs d):=fun {α enc s xs d} T {i u} hv hA=>arrAt_of T (by rw [hv];exact arr_but hm hk hA)
  rcases atN_one hA with ⟨rfl,rfl⟩ | hA
  ·exact key eI_ok g3 h
  simp only [srA,mcA,List.cons_append,List.nil_append] at hA
  rcases atN_one hA with ⟨rfl,rfl⟩ | hA
  ·refine ⟨some ⟨b,off,none⟩,1,g0,Nat.le_refl _,by simp [maxLen],Or.inr ⟨b,off,rfl,Nat.zero_le _,fun k hk1=>⟨rfl,fun j u hu=>?_⟩⟩⟩
   have hk1:k=0:=by simp only at hk1;omega
   subst hk1
   match j,hu with
   | 0,hu =>
    simp at hu;subst hu
    exact ⟨by simp only [SC.den,g1];exact map_cell hm hk c0,by simp only [SC.den,g1];exact arr_one a1⟩
   | 1,hu =>
    simp at hu;subst hu
    exact ⟨by simp only [SC.den,g2];exact map_cell hm hk c1,by simp only [SC.den,g2];exact arr_one a2⟩
   | 2,hu =>
    simp at hu;subst hu
    exact ⟨by simp only [SC.den,g9];exact map_cell hm hk c2,rfl⟩
   | j+3,hu=>simp at hu
  rcases atN_one hA with ⟨rfl,rfl⟩ | hA
  ·exact key cl_ok g1 a1
  rcases atN_one hA with ⟨rfl,rfl⟩ | hA
  ·exact key eI_ok g2 a2
  rcases atN_one hA with ⟨rfl,rfl⟩ | hA
  ·exact key eI_ok g4 m0
  rcases atN_one hA with ⟨rfl,rfl⟩ | hA
  ·exact key eI_ok g5 m1
  rcases atN_one hA with ⟨rfl,rfl⟩ | hA
  ·exact key eI_ok g6 m2
  rcases atN_one hA with ⟨rfl,rfl⟩ | hA
  ·exact key eI_ok g7 m3
  rcases atN_one hA with ⟨rfl,rfl⟩ | hA
  ·exact key eP_ok g8 m4
  exact (atN_nil hA).elim
 ·rcases List.mem_cons.1 hφ with rfl | hφ
  ·exact g9
  rw [List.mem_singleton] at hφ
  subst hφ
  exact g3
theorem mapOk_congr {kk:KK} {kd:IntKind} {f g:Mem} {es:Array MapEntry} {clock:Nat} (h:MapOk kk kd f es clock) (hg:∀ a,a.length=kk.len→f a=g a):MapOk kk kd g es clock:=by
 obtain ⟨L,g2,g3,g4,g5⟩:=h
 exact ⟨L,g2,g3,g4,fun a ha=>by rw [← hg a ha];exact g5.1 a ha,g5.2⟩
theorem map_at {C:Ctx} {S:St} {E:Env} {a:Act} {w:World} {g:Mem} (hs:Sat C.B C.W C.w0 E S a w) (h9:look S.own 9=some (.one (.mp (.arr 8 .i8) .i64 g))):MapF w (E.ρ (9,0,0)) g∧E.ρ (9,0,0)<w.heap.size:=by
 obtain ⟨H,hH,_⟩:=hs.mem
 have hat:atN S.own (9,0,0)=some (.mp (.arr 8 .i8) .i64 g):=by simp [atN,h9,Fm.get]
 obtain ⟨es,clock,h1,h2⟩:=hH.den _ _ hat
 have hn:H (9,0,0) (E.ρ (9,0,0))=some (.map es clock):=by rw [h1];simp [sing]
 exact ⟨⟨es,clock,(hH.sub _ _ hat _ _ hn).1,h2⟩,hH.lt hat hn⟩
theorem ret_ls {P:Program} {w:World} {rs:List RS} {bm:Nat} {vo:Value} {wh:Bool} {r:Option (List Nat)} {f' g:Mem} {S:St} {c:SC} {b:Bool} (hfb:FB bm∈S.facts) (h9:look S.own 9=some (.one (.mp (.arr 8 .i8) .i64 g))) (hg:∀ a,a.length=8→g a=f' a) (hb:b=r.isSome)
  (h1:wh=true→c = .xv (3,0,0)∧FO vo∈S.facts) (h2:wh=false→RdN (mkW P w bm rs (LsP w bm vo wh r f')) S c (arrOf eI 1 (oI (r.getD [])) 0)) :
  RetVC (mkW P w bm rs (LsP w bm vo wh r f')) (.tup [(false,[c]),(false,[.v (.bool b)])]) S:=by
 intro E a w' hsA
 have hs:=hsA.sat
 have hh:=holds_of (C:=mkW P w bm rs (LsP w bm vo wh r f')) hs
 have hbm:E.ρ (9,0,0)=bm:=hh.2 _ hfb
 obtain ⟨⟨es,clock,m1,m2⟩,_⟩:=map_at (C:=mkW P w bm rs (LsP w bm vo wh r f')) hs h9
 rw [hbm] at m1
 refine ⟨c.den E,by simp [SV.den,den1,SC.den,hb],⟨hs.frame.os,hs.frame.tape,hs.frame.output,hs.frame.size,fun n hn hne=>hs.frame.keep n hn hne⟩,⟨es,clock,m1,mapOk_congr m2 hg⟩,fun hw=>?_,fun hw=>?_⟩
 ·obtain ⟨rfl,hfo⟩:=h1 hw
  rw [den_xv]
  exact hh.2 _ hfo
 ·obtain ⟨k1,k2⟩:=h2 hw E a w' hsA
  refine ⟨k1,fun w'' hw''=>?_⟩
  have:=k2 w'' hw'' ⟨fun _=>0,fun _=>0,fun _=>false,fun _=>c.den E⟩ (0,0,0) rfl
  exact arr_of this
theorem fits_map {B:Nat} {W:Nat→Prop} {E:Env} {S:St} {w w1:World} {g g' : Mem} {arrs' : List (Nat×Fm ArrF)} (h9:look S.own 9=some (.one (.mp (.arr 8 .i8) .i64 g))) (hb:But (E.ρ (9,0,0)) w w1) (hm:MapF w1 (E.ρ (9,0,0)) g')
  (ha:∀ w'' : World,(∀ n,w.heap.size≤n→n<w1.heap.size→w''.heap[n]? = w1.heap[n]?)→∀ x A,atN arrs' x=some A→ArrAt E w'' x A):FitsG B W E S w w1 [(9,.one (.mp (.arr 8 .i8) .i64 g'))] arrs':=by
 obtain ⟨es',clock',m1,m2⟩:=hm
 have hat:atN S.own (9,0,0)=some (.mp (.arr 8 .i8) .i64 g):=by simp [atN,h9,Fm.get]
 have hone:∀ x c,atN [(9,Fm.one (Blk.mp (.arr 8 .i8) .i64 g'))] x=some c→x=(9,0,0)∧c = .mp (.arr 8 .i8) .i64 g':=fun x c hx=>by
  rcases atN_one hx with hx | hx
  ·exact hx
  ·exact (atN_nil hx).elim
 refine ⟨fun n=>w.heap.size≤n∧n<w1.heap.size,fun n h=>h,fun H hH=>?_,fun w'' _ hG x A hA=>ha w'' (fun n h1 h2=>hG n ⟨h1,h2⟩) x A hA⟩
 obtain ⟨es,clock,d1,d2⟩:=hH.den _ _ hat
 have hn0:H (9,0,0) (E.ρ (9,0,0))=some (.map es clock):=by rw [d1];simp [sing]
 have hlt:=hH.lt hat hn0
 refine ⟨hb.os,hb.tape,hb.output,hb.size,fun n hn hk=>hb.block n hn fun e=>?_,fun _=>sing (E.ρ (9,0,0)) (.map es' clock'),?_,?_,?_⟩
 ·have:=hk (9,0,0) _ (by simp [look]) hat
  rw [e,hn0] at this
  cases this
 ·intro x c hx
  obtain ⟨rfl,rfl⟩:=hone x c hx
  exact ⟨es',clock',rfl,m2⟩
 ·intro x y c d hx hy hne
  obtain ⟨rfl,_⟩:=hone x c hx
  obtain ⟨rfl,_⟩:=hone y d hy
  exact absurd rfl hne
 ·intro x c hx n o hn
  obtain ⟨rfl,rfl⟩:=hone x c hx
  obtain ⟨rfl,rfl⟩:=sing_some hn
  exact ⟨m1,Or.inr ⟨(9,0,0),_,by simp [look],hat,by rw [hn0];simp⟩⟩
theorem cr_lsT {C:Ctx} {S:St} {f:Nat} {vs:List SV} {c:SC} {r:Option (List Nat)} {g g' : Mem} (t:Nat) (ht:look S.tmps t=some (.c c)) (h9:look S.own 9=some (.one (.mp (.arr 8 .i8) .i64 g))) (hr:r.isSome=true)
  (hc:∀ E a w,Sat C.B C.W C.w0 E S a w→Calls C.P f (vs.map (SV.den E)).toArray w (LsP w (E.ρ (9,0,0)) (c.den E) true r g')):CR C f vs S [9] (.tup [(false,[c]),(false,[.v (.bool true)])]) 0 [(9,.one (.mp (.arr 8 .i8) .i64 g'))] []:=by
 intro E a w hs
 refine (hc E a w hs).mono ?_
 rintro e w' ⟨v,rfl,hb,hm,hv,_⟩
 refine ⟨_,rfl,E,hs.one,fun E2 hs2 hk _=>⟨?_,?_⟩⟩
 ·have e1:c.den E=c.den E2:=((hs.tmps t _ ht).2.symm.trans (hs2.tmps t _ ht).2)
  rw [hv rfl,hr,e1]
  simp only [SV.den,den1,List.map_cons,List.map_nil,SC.den]
 ·have e9:=(hk (9,0,0) (by simp)).1
  exact fits_map h9 (by rw [e9];exact hb) (by rw [e9];exact hm) fun w'' _ x A hA=>(atN_nil hA).elim
theorem cr_lsF {C:Ctx} {S:St} {f:Nat} {vs:List SV} {vo:Env→Value} {r:Option (List Nat)} {g g' : Mem} (h9:look S.own 9=some (.one (.mp (.arr 8 .i8) .i64 g)))
  (hc:∀ E a w,Sat C.B C.W C.w0 E S a w→Calls C.P f (vs.map (SV.den E)).toArray w (LsP w (E.ρ (9,0,0)) (vo E) false r g')):CR C f vs S [9] (.tup [(false,[.xv (S.nid,0,0)]),(false,[.v (.bool r.isSome)])]) 1 [(9,.one (.mp (.arr 8 .i8) .i64 g'))] [(S.nid,.one (arrOf eI 1 (oI (r.getD [])) 0 C.B))]:=by
 intro E a w hs
 refine (hc E a w hs).mono ?_
 rintro e w' ⟨v,rfl,hb,hm,_,hv⟩
 obtain ⟨hv1,hv2⟩:=hv rfl
 refine ⟨_,rfl,E1 v,E1_one hv1,fun E2 hs2 hk hn=>?_⟩
 have hχ:E2.χ (S.nid,0,0)=v:=(hn (S.nid,0,0) ⟨Nat.le_refl _,Nat.lt_succ_self _⟩).2.2.2
 have e9:=(hk (9,0,0) (by simp)).1
 refine ⟨by simp [SV.den,den1,SC.den,hχ],fits_map h9 (by rw [e9];exact hb) (by rw [e9];exact hm) fun w'' hw'' x A hA=>?_⟩
 rcases atN_one hA with ⟨rfl,rfl⟩ | hA
 ·exact arrAt_low (w:=w) (B:=w.heap.size) (w':=w') (A:=arrOf eI 1 (oI (r.getD [])) 0) hs.frame.size (by simp [arrOf]) (fun w3 hw3=>arrAt_of eI_ok (by rw [hχ];exact hv2 w3 hw3)) w'' hw''
 ·exact (atN_nil hA).elim
theorem rdN_slW {P:Program} {w:World} {rs:List RS} {bm:Nat} {R:Ending→World→Prop} {S:St} {ty k n:Nat} {xs:List Int} {at_:Nat→List SC} {g:Mem} (hfb:FB bm∈S.facts) (h9:look S.own 9=some (.one (.mp (.arr 8 .i8) .i64 g))) (i:Nat) (hi:look S.own i=some (.one (.ar k 1 at_ ty))) (hn:n=xs.length) (hk:n≤k)
  (ha:∀ e,e<xs.length→at_ e=ats eI xs 0 e):RdN (mkW P w bm rs R) S (.sl (i,0,0) 1 0 n none) (arrOf eI 1 xs 0):=by
 subst hn
 intro E a w' hsA
 have hs:=hsA.sat
 have hh:=holds_of (C:=mkW P w bm rs R) hs
 have hbm:E.ρ (9,0,0)=bm:=hh.2 _ hfb
 obtain ⟨⟨es,clock,m1,m2⟩,_⟩:=map_at (C:=mkW P w bm rs R) hs h9
 rw [hbm] at m1
 refine ⟨by simp [SC.den,Value.oneCell'],fun w'' hw'' E2 x hx=>?_⟩
 obtain ⟨H,hH,_⟩:=hs.mem
 have hat:atN S.own (i,0,0)=some (.ar k 1 at_ ty):=by simp [atN,hi,Fm.get]
 rcases ar_heap hH hat with ⟨h1,h2,h3,_⟩ | ⟨h1,h2,h3,cells,h4,h5,h6,h7⟩
 ·have h0:xs.length=0:=by omega
  exact ⟨if E.ν (i,0,0)=true then none else some ⟨E.ρ (i,0,0),0,none⟩,0,by rw [hx];simp [SC.den,h2,arrOf],by show xs.length≤0;omega,by simp [maxLen],Or.inl h0⟩
 ·refine ⟨some ⟨E.ρ (i,0,0),0,none⟩,E.κ (i,0,0),by rw [hx];simp [SC.den,h1,arrOf],by show xs.length≤_;omega,h3,Or.inr ⟨_,_,rfl,Nat.zero_le _,fun e he=>?_⟩⟩
  have he' : e<xs.length:=he
  obtain ⟨f1,f2⟩:=hH.sub _ _ hat (E.ρ (i,0,0)) (.cells cells ty (0,0)) (by rw [h4];simp [sing])
  have hge:w.heap.size≤E.ρ (i,0,0):=f2.resolve_right fun h=>by
   have h:E.ρ (i,0,0)=bm:=h
   rw [h,m1] at f1
   cases f1
  have hlt:E.ρ (i,0,0)<w'.heap.size:=(Array.getElem?_eq_some_iff.1 h5).1
  refine ⟨by simp [arrOf,eI],fun j u hu=>?_⟩
  rw [cell_of_row w'' _ _ _ ty (0,0) (by rw [hw'' _ hge hlt];exact h5)]
  have hu2:(at_ e)[j]? = some u:=by rw [ha e he'];exact hu
  have h8:=(h7 e (by omega)).2 j u hu2
  simp only [arrOf,List.getElem?_map,Option.map_eq_some_iff] at hu
  obtain ⟨u',hu',rfl⟩:=hu
  rw [den_v] at h8 ⊢
  rw [Nat.zero_add]
  exact h8
end Go.Proofs.Ytkjeedlkkpgopaa.Z
