/- TsoFinalsSaid: what its proof is made of. No condition. -/
import Derived.Test.YtmcpdafmkkjlcaaPkTTsoFinalsAO
set_option linter.unusedSimpArgs false
set_option linter.unusedVariables false
namespace Go.Proofs.Ytmcpdafmkkjlcaa.Z
open Go Go.RowKit
def lessL:List Int→List Int→Bool
 | [],[]=>false
 | [],_ :: _=>true
 | _ :: _,[]=>false
 | a :: l,b :: m=>if a≠b then decide (a<b) else lessL l m
def cmpL:List Int→List Int→Int
 | [],[]=>0
 | [],_ :: _=>-1
 | _ :: _,[]=>1
 | a :: l,b :: m=>if a<b then -1 else if b<a then 1 else cmpL l m
theorem drop_at {l:List Int} {i:Nat} (h:i<l.length):l.drop i=l.getD i 0 :: l.drop (i+1):=by
 rw [List.drop_eq_getElem_cons h,List.getD_eq_getElem?_getD,List.getElem?_eq_getElem h];rfl
def ir57:IR:=(.seq (.ops [⟨(some 4),(.mv (.k (.c (.v (.bool false))))),none⟩]) (.kill [2,3,4,5,6,7,8,9,10,11] (.seq (.seq (.ops [⟨(some 5),(.mv (.k (.c (.v (.int .i64 0))))),none⟩]) (.blk 0 (.loop (.seq (.seq (.ops [⟨(some 6),(.mv (.t 5)),none⟩,⟨(some 7),(.mv (.t 0)),none⟩,⟨(some 8),(.len (.t 7)),none⟩,⟨(some 9),(.bin .lss (.t 6) (.t 8)),none⟩,⟨(some 10),(.mv (.t 9)),none⟩,⟨(some 11),(.mv (.t 5)),(some (10,true))⟩,⟨(some 12),(.mv (.t 1)),(some (10,true))⟩,⟨(some 13),(.len (.t 12)),(some (10,true))⟩,⟨(some 14),(.bin .lss (.t 11) (.t 13)),(some (10,true))⟩,⟨(some 15),(.pick (.t 10) (.t 14) (.k (.c (.v (.bool false))))),none⟩]) (.kill [4,6,7,8,9,10,11,12,13,14,16,17,18,19,20,21,22,23,24,25,26,27,28,29,30,31,32,33,34,35] (.cond (.t 15) .skip (.exit 0)))) (.kill [15] (.seq (.blk 1 (.seq (.draw [(⟨(some 18),(.mv (.t 0)),none⟩,([],[19,22,23,24,25])),(⟨(some 19),(.mv (.t 5)),none⟩,([0],[18,22,23,24,25])),(⟨(some 20),(.ia 1 (.t 18) (.t 19)),none⟩,([],[22,23,24,25])),(⟨(some 21),(.ld false 1 (.t 20)),none⟩,([],[22,23,24,25])),(⟨(some 22),(.mv (.t 1)),none⟩,([0,1,2,3],[18,19,20,21,23])),(⟨(some 23),(.mv (.t 5)),none⟩,([0,1,2,3,4],[18,19,20,21,22])),(⟨(some 24),(.ia 1 (.t 22) (.t 23)),none⟩,([0,1,2,3],[18,19,20,21])),(⟨(some 25),(.ld false 1 (.t 24)),none⟩,([0,1,2,3],[18,19,20,21])),(⟨(some 26),(.bin .neq (.t 21) (.t 25)),none⟩,([],[]))]) (.kill [18,19,20,21,22,23,24,25] (.cond (.t 26) (.seq (.draw [(⟨(some 27),(.mv (.t 0)),none⟩,([],[28,31,32,33,34])),(⟨(some 28),(.mv (.t 5)),none⟩,([0],[27,31,32,33,34])),(⟨(some 29),(.ia 1 (.t 27) (.t 28)),none⟩,([],[31,32,33,34])),(⟨(some 30),(.ld false 1 (.t 29)),none⟩,([],[31,32,33,34])),(⟨(some 31),(.mv (.t 1)),none⟩,([0,1,2,3],[27,28,29,30,32])),(⟨(some 32),(.mv (.t 5)),none⟩,([0,1,2,3,4],[27,28,29,30,31])),(⟨(some 33),(.ia 1 (.t 31) (.t 32)),none⟩,([0,1,2,3],[27,28,29,30])),(⟨(some 34),(.ld false 1 (.t 33)),none⟩,([0,1,2,3],[27,28,29,30])),(⟨(some 35),(.bin .lss (.t 30) (.t 34)),none⟩,([],[])),(⟨(some 4),(.mv (.t 35)),none⟩,([],[]))]) (.kill [0,1,5,26,27,28,29,30,31,32,33,34,35] .ret)) .skip)))) (.kill [4,18,19,20,21,22,23,24,25,26,27,28,29,30,31,32,33,34,35] (.ops [⟨(some 16),(.mv (.t 5)),none⟩,⟨(some 17),(.bin .add (.t 16) (.k (.c (.v (.int .i64 1))))),none⟩,⟨(some 5),(.mv (.t 17)),none⟩])))))))) (.kill [4,5,6,7,8,9,10,11,12,13,14,15,16,17,18,19,20,21,22,23,24,25,26,27,28,29,30,31,32,33,34,35] (.seq (.ops [⟨(some 36),(.mv (.t 0)),none⟩,⟨(some 37),(.len (.t 36)),none⟩,⟨(some 38),(.mv (.t 1)),none⟩,⟨(some 39),(.len (.t 38)),none⟩,⟨(some 40),(.bin .lss (.t 37) (.t 39)),none⟩,⟨(some 4),(.mv (.t 40)),none⟩]) (.kill [0,1,36,37,38,39,40] .ret))))))
def rs57:List RS:=[(.t 4)]
def nt57:Nat:=41
set_option maxRecDepth 100000 in
set_option maxHeartbeats 400000 in
theorem less_calls (w:World) (v v' : Value) (xs ys:List Int) (h:Arr w eI 1 v xs) (h' : Arr w eI 1 v' ys):Calls Try.prog 57 #[v,v'] w (RetV w (.bool (lessL xs ys))):=by
 refine enter2 (A:=[]) (c:=ir57) (rs:=rs57) (nt:=nt57) 0 eI_ok h 0 eI_ok h' [.c (.xv (0,0,0)),.c (.xv (1,0,0))] _ Try.func57 rfl (by kernel_rfl) (by kernel_rfl) rfl (fun E' h0 h1=>by simp [SV.den,SC.den,h0,h1]) (of_decide_eq_true rfl) ?_
 have hml:=Z.Arr.lenM h
 simp only [maxLen] at hml
 simp (maxSteps:=2000000) only [ir57,nt57,rs57,go_sem,↓reduceIte,Nat.reduceLT,Nat.reduceLeDiff,Nat.reduceAdd,Nat.reduceSub,Nat.reduceMul,Nat.reduceEqDiff,reduceCtorEq,Int.reduceToNat,Int.reduceEq,Int.reduceBEq,Int.reduceBNe,Int.reduceLT,Int.reduceLE,Int.reduceNeg,Int.reduceAdd,Int.reduceSub,Int.reduceMul,Int.reduceGE,Int.reduceGT,endO]
 refine loopI (ι:={ i:Nat // i≤xs.length∧lessL xs ys=lessL (xs.drop i) (ys.drop i)∧i≤ys.length }) (fun i=>⟨41,[(0,.c (.xv (0,0,0))),(1,.c (.xv (1,0,0))),(5,.c (.v (.int .i64 (i.1:Nat))))],[],[(0,.one (arrOf eI 1 xs 0)),(1,.one (arrOf eI 1 ys 0))],[],2⟩)
  (fun i=>xs.length - i.1) ⟨0,by omega,rfl,by omega⟩ (le_ren id rfl rfl (by simp [TmpsLe,look,SV.ren,SC.ren,SC.renL,ren1L,ren1,idσ,SV.okN,SC.okN,SC.okL,ok1L]) trivial (by simp [ArrsLe,ArrLeO,atN,look,Fm.get,idσ,arrLe_of,arrLe_0]) rfl) ?_
 rintro ⟨i,hi,hl,hj⟩
 simp (maxSteps:=2000000) only [go_sem,↓reduceIte,Nat.reduceLT,Nat.reduceLeDiff,Nat.reduceAdd,Nat.reduceSub,Nat.reduceMul,Nat.reduceEqDiff,reduceCtorEq,Int.reduceToNat,Int.reduceEq,Int.reduceBEq,Int.reduceBNe,Int.reduceLT,Int.reduceLE,Int.reduceNeg,Int.reduceAdd,Int.reduceSub,Int.reduceMul,Int.reduceGE,Int.reduceGT,endO]
 refine both (fun hb=>?_) (fun hb=>?_)
 ·simp only [b_decR,b_decL,bt_ite,bf_ite,bt_dec,bf_dec,bt_int,bf_int,bt_nint,bf_nint,bt_bool,bf_bool,bt_nbool,bf_nbool,bt_not,bf_not,bt_and,bf_and,bt_or,bf_or,Bool.false_eq_true,Bool.true_eq_false,Bool.not_eq_true,Bool.not_eq_false,reduceCtorEq,false_iff,true_iff,iff_false,iff_true,and_true,true_and,and_false,false_and,or_true,true_or,or_false,false_or,not_true_eq_false,not_false_eq_true,ne_eq] at hb
  have h1:i<xs.length:=by omega
  have h2:i<ys.length:=by omega
  rw [drop_at h1,drop_at h2] at hl
  simp only [lessL] at hl
  refine draw_vc (by kernel_rfl) (mkTab_ok _ _) (of_decide_eq_true rfl) (of_decide_eq_true rfl) ?_
  repeat (first | simp (maxSteps:=2000000) only [go_sem,↓reduceIte,Nat.reduceLT,Nat.reduceLeDiff,Nat.reduceAdd,Nat.reduceSub,Nat.reduceMul,Nat.reduceEqDiff,reduceCtorEq,Int.reduceToNat,Int.reduceEq,Int.reduceBEq,Int.reduceBNe,Int.reduceLT,Int.reduceLE,Int.reduceNeg,Int.reduceAdd,Int.reduceSub,Int.reduceMul,Int.reduceGE,Int.reduceGT,endO,eI] | rw [dr_cons])
  refine And.intro h1 (And.intro h1 (And.intro h2 (And.intro h2 (both (fun hc=>?_) (fun hc=>?_)))))
  ·skip
   refine draw_vc (by kernel_rfl) (mkTab_ok _ _) (of_decide_eq_true rfl) (of_decide_eq_true rfl) ?_
   repeat (first | simp (maxSteps:=2000000) only [go_sem,↓reduceIte,Nat.reduceLT,Nat.reduceLeDiff,Nat.reduceAdd,Nat.reduceSub,Nat.reduceMul,Nat.reduceEqDiff,reduceCtorEq,Int.reduceToNat,Int.reduceEq,Int.reduceBEq,Int.reduceBNe,Int.reduceLT,Int.reduceLE,Int.reduceNeg,Int.reduceAdd,Int.reduceSub,Int.reduceMul,Int.reduceGE,Int.reduceGT,endO,eI] | rw [dr_cons])
   refine And.intro h1 (And.intro h1 (And.intro h2 (And.intro h2 ?_)))
   exact retV fun E=>by
    rw [hl,if_pos (by simpa using hc)]
    simp [SV.den,SC.den]
  ·rw [wr_succ (by omega)]
   exact backI ⟨i+1,by omega,by rw [hl,if_neg (by simpa using hc)],by omega⟩ (by simp only;omega) (le_ren id rfl rfl (by simp [TmpsLe,look,SV.ren,SC.ren,SC.renL,ren1L,ren1,idσ,SV.okN,SC.okN,SC.okL,ok1L]) trivial (by simp [ArrsLe,ArrLeO,atN,look,Fm.get,idσ,arrLe_of,arrLe_0]) rfl)
 ·simp only [b_decR,b_decL,bt_ite,bf_ite,bt_dec,bf_dec,bt_int,bf_int,bt_nint,bf_nint,bt_bool,bf_bool,bt_nbool,bf_nbool,bt_not,bf_not,bt_and,bf_and,bt_or,bf_or,Bool.false_eq_true,Bool.true_eq_false,Bool.not_eq_true,Bool.not_eq_false,reduceCtorEq,false_iff,true_iff,iff_false,iff_true,and_true,true_and,and_false,false_and,or_true,true_or,or_false,false_or,not_true_eq_false,not_false_eq_true,ne_eq] at hb
  exact retV fun E=>by
   rw [hl]
   simp only [SV.den,SC.den,Value.bool.injEq]
   by_cases h1:i=xs.length
   ·by_cases h2:i=ys.length
    ·rw [List.drop_eq_nil_of_le (by omega),List.drop_eq_nil_of_le (by omega)]
     simp only [lessL,decide_eq_false_iff_not];omega
    ·rw [List.drop_eq_nil_of_le (by omega),drop_at (show i<ys.length by omega)]
     simp only [lessL,decide_eq_true_eq];omega
   ·rw [show ys.drop i=[] from List.drop_eq_nil_of_le (by omega),drop_at (show i<xs.length by omega)]
    simp only [lessL,decide_eq_false_iff_not];omega
def cmp1 (x y:Int):Int:=if x<y then -1 else if y<x then 1 else 0
end Go.Proofs.Ytmcpdafmkkjlcaa.Z
namespace Go.Proofs.Ytmcpdafmkkjlcaa.Z
open Go Go.RowKit
theorem less_irr:∀ l,lessL l l=false
 | []=>rfl
 | a :: l=>by simp [lessL,less_irr l]
theorem less_eq:∀ {l m:List Int},lessL l m=false→lessL m l=false→l=m
 | [],[],_,_=>rfl
 | [],_ :: _,h,_=>by simp [lessL] at h
 | _ :: _,[],_,h=>by simp [lessL] at h
 | a :: l,b :: m,h1,h2=>by
  by_cases e:a=b
  ·subst e
   simp [lessL] at h1 h2
   rw [less_eq h1 h2]
  ·simp only [lessL] at h1 h2
   rw [if_pos e] at h1
   rw [if_pos (fun q=>e q.symm)] at h2
   simp only [decide_eq_false_iff_not] at h1 h2
   omega
structure Tr where
 keys:List (List Int)
 left:List Int
 right:List Int
def tsr (T:Tr) (k:List Int):Nat→Nat→Option (Nat ⊕ Nat×Bool)
 | 0,_=>none
 | f+1,i =>
  if lessL k (T.keys.getD i [])=true then (if T.left.getD i 0<0 then some (.inr (i,false)) else tsr T k f (T.left.getD i 0).toNat)
  else if lessL (T.keys.getD i []) k=true then (if T.right.getD i 0<0 then some (.inr (i,true)) else tsr T k f (T.right.getD i 0).toNat)
  else some (.inl i)
structure TrOk (T:Tr):Prop where
 l:T.left.length=T.keys.length
 r:T.right.length=T.keys.length
 lc:∀ i,i<T.keys.length→T.left.getD i 0 = -1∨((i:Int)<T.left.getD i 0∧T.left.getD i 0<T.keys.length)
 rc:∀ i,i<T.keys.length→T.right.getD i 0 = -1∨((i:Int)<T.right.getD i 0∧T.right.getD i 0<T.keys.length)
 at_:∀ j,j<T.keys.length→tsr T (T.keys.getD j []) T.keys.length 0=some (.inl j)
theorem tsr_mono {T:Tr} {k:List Int}:∀ {f i:Nat} {r:Nat ⊕ Nat×Bool},tsr T k f i=some r→tsr T k (f+1) i=some r
 | 0,i,r,h=>by cases h
 | f+1,i,r,h=>by
  rw [tsr] at h ⊢
  split
  ·next h1 =>
   rw [if_pos h1] at h
   split
   ·next h2=>rw [if_pos h2] at h;exact h
   ·next h2=>rw [if_neg h2] at h;exact tsr_mono h
  ·next h1 =>
   rw [if_neg h1] at h
   split
   ·next h3 =>
    rw [if_pos h3] at h
    split
    ·next h2=>rw [if_pos h2] at h;exact h
    ·next h2=>rw [if_neg h2] at h;exact tsr_mono h
   ·next h3=>rw [if_neg h3] at h;exact h
theorem tsr_some {T:Tr} (h:TrOk T) (k:List Int):∀ (f i:Nat),i<T.keys.length→T.keys.length - i≤f→∃ r,tsr T k f i=some r
 | 0,i,h1,h2=>by omega
 | f + 1,i,h1,h2=>by
  rw [tsr]
  split
  ·split
   ·exact ⟨_,rfl⟩
   ·next hl =>
    rcases h.lc i h1 with e | ⟨e1,e2⟩
    ·omega
    ·exact tsr_some h k f _ (by omega) (by omega)
  ·split
   ·split
    ·exact ⟨_,rfl⟩
    ·next hl =>
     rcases h.rc i h1 with e | ⟨e1,e2⟩
     ·omega
     ·exact tsr_some h k f _ (by omega) (by omega)
   ·exact ⟨_,rfl⟩
theorem tsr_found {T:Tr} (h:TrOk T) {k:List Int}:∀ {f i j:Nat},i<T.keys.length→tsr T k f i=some (.inl j)→j<T.keys.length∧T.keys.getD j []=k
 | 0,i,j,_,hr=>by cases hr
 | f + 1,i,j,hi,hr=>by
  rw [tsr] at hr
  split at hr
  ·split at hr
   ·cases hr
   ·rcases h.lc i hi with e | ⟨e1,e2⟩
    ·omega
    ·exact tsr_found h (by omega) hr
  ·next h1 =>
   split at hr
   ·split at hr
    ·cases hr
    ·rcases h.rc i hi with e | ⟨e1,e2⟩
     ·omega
     ·exact tsr_found h (by omega) hr
   ·next h2 =>
    cases hr
    exact ⟨hi,less_eq (by simpa using h2) (by simpa using h1)⟩
theorem tsr_room {T:Tr} (h:TrOk T) {k:List Int}:∀ {f i a:Nat} {b:Bool},i<T.keys.length→tsr T k f i=some (.inr (a,b))→a<T.keys.length∧(if b=true then T.right.getD a 0 = -1 else T.left.getD a 0 = -1)
 | 0,i,a,b,_,hr=>by cases hr
 | f + 1,i,a,b,hi,hr=>by
  rw [tsr] at hr
  split at hr
  ·split at hr
   ·next hl =>
    cases hr
    rcases h.lc i hi with e | ⟨e1,e2⟩
    ·exact ⟨hi,by simpa using e⟩
    ·omega
   ·rcases h.lc i hi with e | ⟨e1,e2⟩
    ·omega
    ·exact tsr_room h (by omega) hr
  ·split at hr
   ·split at hr
    ·next hl =>
     cases hr
     rcases h.rc i hi with e | ⟨e1,e2⟩
     ·exact ⟨hi,by simpa using e⟩
     ·omega
    ·rcases h.rc i hi with e | ⟨e1,e2⟩
     ·omega
     ·exact tsr_room h (by omega) hr
   ·cases hr
def trPut (T:Tr) (k:List Int) (a:Nat) (b:Bool):Tr:=⟨T.keys++[k],if b=true then T.left++[-1] else (T.left++[-1]).set a T.keys.length,if b=true then (T.right++[-1]).set a T.keys.length else T.right++[-1]⟩
theorem put_keys {T:Tr} {k:List Int} {a:Nat} {b:Bool} {i:Nat} (hi:i<T.keys.length):(trPut T k a b).keys.getD i []=T.keys.getD i []:=by
 simp only [trPut];rw [List.getD_eq_getElem?_getD,List.getElem?_append_left hi,List.getD_eq_getElem?_getD]
theorem put_left {T:Tr} (h:TrOk T) {k:List Int} {a:Nat} {b:Bool} {i:Nat} (hi:i<T.keys.length):(trPut T k a b).left.getD i 0=if b=false∧i=a then (T.keys.length:Int) else T.left.getD i 0:=by
 have hl:=h.l
 have e1:(T.left++[(-1:Int)]).getD i 0=T.left.getD i 0:=by rw [List.getD_eq_getElem?_getD,List.getElem?_append_left (by omega),List.getD_eq_getElem?_getD]
 simp only [trPut]
 cases b with
 | true=>simp only [reduceIte,Bool.true_eq_false,false_and];exact e1
 | false =>
  simp only [Bool.false_eq_true,reduceIte,true_and]
  rw [List.getD_eq_getElem?_getD,List.getElem?_set]
  by_cases e:a=i
  ·subst e;rw [if_pos rfl,if_pos rfl,if_pos (by simp;omega)];rfl
  ·rw [if_neg e,if_neg (fun q=>e q.symm),← List.getD_eq_getElem?_getD];exact e1
theorem put_right {T:Tr} (h:TrOk T) {k:List Int} {a:Nat} {b:Bool} {i:Nat} (hi:i<T.keys.length):(trPut T k a b).right.getD i 0=if b=true∧i=a then (T.keys.length:Int) else T.right.getD i 0:=by
 have hl:=h.r
 have e1:(T.right++[(-1:Int)]).getD i 0=T.right.getD i 0:=by rw [List.getD_eq_getElem?_getD,List.getElem?_append_left (by omega),List.getD_eq_getElem?_getD]
 simp only [trPut]
 cases b with
 | false=>simp only [Bool.false_eq_true,reduceIte,false_and];exact e1
 | true =>
  simp only [reduceIte,true_and]
  rw [List.getD_eq_getElem?_getD,List.getElem?_set]
  by_cases e:a=i
  ·subst e;rw [if_pos rfl,if_pos rfl,if_pos (by simp;omega)];rfl
  ·rw [if_neg e,if_neg (fun q=>e q.symm),← List.getD_eq_getElem?_getD];exact e1
theorem put_keep {T:Tr} (h:TrOk T) {k:List Int} {a:Nat} {b:Bool} (hroom:if b=true then T.right.getD a 0 = -1 else T.left.getD a 0 = -1) {q:List Int}:∀ {f i j:Nat},i<T.keys.length→tsr T q f i=some (.inl j)→tsr (trPut T k a b) q f i=some (.inl j)
 | 0,i,j,_,hr=>by cases hr
 | f + 1,i,j,hi,hr=>by
  rw [tsr] at hr ⊢
  rw [put_keys hi,put_left h hi,put_right h hi]
  split
  ·next h1 =>
   rw [if_pos h1] at hr
   split at hr
   ·cases hr
   ·next h2 =>
    have hne:¬ (b=false∧i=a):=by
     rintro ⟨rfl,rfl⟩
     simp only [Bool.false_eq_true,if_false] at hroom
     omega
    rw [if_neg hne,if_neg h2]
    rcases h.lc i hi with e | ⟨e1,e2⟩
    ·omega
    ·exact put_keep h hroom (by omega) hr
  ·next h1 =>
   rw [if_neg h1] at hr
   split
   ·next h3 =>
    rw [if_pos h3] at hr
    split at hr
    ·cases hr
    ·next h2 =>
     have hne:¬ (b=true∧i=a):=by
      rintro ⟨rfl,rfl⟩
      simp only [if_true] at hroom
      omega
     rw [if_neg hne,if_neg h2]
     rcases h.rc i hi with e | ⟨e1,e2⟩
     ·omega
     ·exact put_keep h hroom (by omega) hr
   ·next h3=>rw [if_neg h3] at hr;exact hr
theorem put_new {T:Tr} (h:TrOk T) {k:List Int} {a:Nat} {b:Bool}:∀ {f i:Nat},i<T.keys.length→tsr T k f i=some (.inr (a,b))→tsr (trPut T k a b) k (f+1) i=some (.inl T.keys.length)
 | 0,i,_,hr=>by cases hr
 | f + 1,i,hi,hr=>by
  have hend:∀ g,tsr (trPut T k a b) k (g+1) T.keys.length=some (.inl T.keys.length):=fun g=>by
   have e:(trPut T k a b).keys.getD T.keys.length []=k:=by simp [trPut,List.getD_eq_getElem?_getD]
   rw [tsr,e,if_neg (by simp [less_irr]),if_neg (by simp [less_irr])]
  rw [tsr] at hr ⊢
  rw [put_keys hi,put_left h hi,put_right h hi]
  split
  ·next h1 =>
   rw [if_pos h1] at hr
   split at hr
   ·next h2 =>
    cases hr
    rw [show (if false=false∧a=a then (T.keys.length:Int) else T.left.getD a 0)=T.keys.length from if_pos ⟨rfl,rfl⟩,if_neg (by omega),Int.toNat_natCast]
    exact hend f
   ·next h2 =>
    rcases h.lc i hi with e | ⟨e1,e2⟩
    ·omega
    ·have hroom:=tsr_room h (show (T.left.getD i 0).toNat<T.keys.length by omega) hr
     have hne:¬ (b=false∧i=a):=by
      rintro ⟨rfl,rfl⟩
      have:=hroom.2
      simp only [Bool.false_eq_true,if_false] at this
      omega
     rw [if_neg hne,if_neg h2]
     exact put_new h (by omega) hr
  ·next h1 =>
   rw [if_neg h1] at hr
   split
   ·next h3 =>
    rw [if_pos h3] at hr
    split at hr
    ·next h2 =>
     cases hr
     rw [show (if true=true∧a=a then (T.keys.length:Int) else T.right.getD a 0)=T.keys.length from if_pos ⟨rfl,rfl⟩,if_neg (by omega),Int.toNat_natCast]
     exact hend f
    ·next h2 =>
     rcases h.rc i hi with e | ⟨e1,e2⟩
     ·omega
     ·have hroom:=tsr_room h (show (T.right.getD i 0).toNat<T.keys.length by omega) hr
      have hne:¬ (b=true∧i=a):=by
       rintro ⟨rfl,rfl⟩
       have:=hroom.2
       simp only [if_true] at this
       omega
      rw [if_neg hne,if_neg h2]
      exact put_new h (by omega) hr
   ·next h3=>rw [if_neg h3] at hr;cases hr
theorem put_ok {T:Tr} (h:TrOk T) {k:List Int} {a:Nat} {b:Bool} (hn:0<T.keys.length) (hr:tsr T k T.keys.length 0=some (.inr (a,b))):TrOk (trPut T k a b):=by
 have hkl:(trPut T k a b).keys.length=T.keys.length+1:=by simp [trPut]
 have hroom:=tsr_room h hn hr
 have hl:=h.l
 have hrr:=h.r
 refine ⟨?_,?_,fun i hi=>?_,fun i hi=>?_,fun j hj=>?_⟩
 ·rw [hkl];simp only [trPut];split <;> simp [hl]
 ·rw [hkl];simp only [trPut];split <;> simp [hrr]
 ·rw [hkl] at hi ⊢
  by_cases e:i<T.keys.length
  ·rw [put_left h e]
   split
   ·right;omega
   ·rcases h.lc i e with e1 | ⟨e1,e2⟩
    ·exact Or.inl e1
    ·right;omega
  ·left
   have:i=T.left.length:=by omega
   subst this
   simp only [trPut]
   split
   ·simp [List.getD_eq_getElem?_getD]
   ·rw [List.getD_eq_getElem?_getD,List.getElem?_set_ne (by omega)];simp
 ·rw [hkl] at hi ⊢
  by_cases e:i<T.keys.length
  ·rw [put_right h e]
   split
   ·right;omega
   ·rcases h.rc i e with e1 | ⟨e1,e2⟩
    ·exact Or.inl e1
    ·right;omega
  ·left
   have:i=T.right.length:=by omega
   subst this
   simp only [trPut]
   split
   ·rw [List.getD_eq_getElem?_getD,List.getElem?_set_ne (by omega)];simp
   ·simp [List.getD_eq_getElem?_getD]
 ·rw [hkl] at hj ⊢
  by_cases e:j<T.keys.length
  ·rw [put_keys e]
   exact tsr_mono (put_keep h hroom.2 hn (h.at_ j e))
  ·have:j=T.keys.length:=by omega
   subst this
   have ek:(trPut T k a b).keys.getD T.keys.length []=k:=by simp [trPut,List.getD_eq_getElem?_getD]
   rw [ek]
   exact put_new h hn hr
theorem one_ok (k:List Int):TrOk ⟨[k],[-1],[-1]⟩:=by
 refine ⟨rfl,rfl,fun i hi=>?_,fun i hi=>?_,fun j hj=>?_⟩
 ·have:i=0:=by simp at hi;omega
  subst this;exact Or.inl rfl
 ·have:i=0:=by simp at hi;omega
  subst this;exact Or.inl rfl
 ·have:j=0:=by simp at hj;omega
  subst this
  simp [tsr,List.getD_eq_getElem?_getD,less_irr]
theorem tsr_iff {T:Tr} (h:TrOk T) (hn:0<T.keys.length) (k:List Int):(∃ j,tsr T k T.keys.length 0=some (.inl j))↔k∈T.keys:=by
 constructor
 ·rintro ⟨j,hj⟩
  obtain ⟨h1,h2⟩:=tsr_found h hn hj
  rw [← h2,List.getD_eq_getElem?_getD,List.getElem?_eq_getElem h1]
  exact List.getElem_mem h1
 ·intro hk
  obtain ⟨j,hj,rfl⟩:=List.getElem_of_mem hk
  have:=h.at_ j hj
  rw [List.getD_eq_getElem?_getD,List.getElem?_eq_getElem hj] at this
  exact ⟨j,this⟩
end Go.Proofs.Ytmcpdafmkkjlcaa.Z
namespace Go.Proofs.Ytmcpdafmkkjlcaa.Z
open Go Go.RowKit
def trC (i:Nat) (K:List (List Int)) (k:Nat):List SC:=[.sl (i,k,0) 1 0 (K.getD k []).length none]
def trK (K:List (List Int)) (k:Nat):Blk:=.ar (K.getD k []).length 1 (ats eI (K.getD k []) 0) 3
def trO (b:Nat) (T:Tr):Own:=[(b,.one (.ar T.keys.length 1 (trC (b+3) T.keys) 22)),(b+1,.one (.ar T.left.length 1 (ats eI T.left 0) 3)),(b+2,.one (.ar T.right.length 1 (ats eI T.right 0) 3)),(b+3,.fam T.keys.length (trK T.keys))]
def trS (b:Nat) (T:Tr):Blk:=.bk [.sl (b,0,0) 1 0 T.keys.length none,.sl (b+1,0,0) 1 0 T.left.length none,.sl (b+2,0,0) 1 0 T.right.length none] 143
def tr0 (T:Tr) (k:List Int):Own:=(0,.one (trS 1 T)) :: trO 1 T++[(5,.one (.ar k.length 1 (ats eI k 0) 3))]
def trσ (p q r:Nat) (τ:Nat→Nm) (b:Nat) (x:Nm):Nm:=if x.1=b then (p,0,0) else if x.1=b+1 then (q,0,0) else if x.1=b+2 then (r,0,0) else if x.1=b+3 then τ x.2.1 else x
def trE (T:Tr) (b:Nat):Own:=(0,.one (trS b T)) :: trO b T
theorem retPut {P:Program} {w:World} {E:Env} {W:Nat→Prop} {rs:List RS} {u v:SV} {T:Tr} {S2:St} (ks:List Nat) (p q r:Nat) (τ:Nat→Nm) {m1 m2 m3:Nat} {at1 at2 at3:Nat→List SC} (hf:AgF 6 E∈S2.facts) (hu:∀ E E',v.den E=u.den E')
  (h0:look S2.own 0=some (.one (.bk [.sl (p,0,0) 1 0 T.keys.length none,.sl (q,0,0) 1 0 T.left.length none,.sl (r,0,0) 1 0 T.right.length none] 143)))
  (hp:look S2.own p=some (.one (.ar m1 1 at1 22))) (mp:T.keys.length≤m1) (ep:∀ e,e<T.keys.length→at1 e=[.sl (τ e) 1 0 (T.keys.getD e []).length none])
  (hq:look S2.own q=some (.one (.ar m2 1 at2 3))) (mq:T.left.length≤m2) (eq:∀ e,e<T.left.length→at2 e=ats eI T.left 0 e)
  (hr:look S2.own r=some (.one (.ar m3 1 at3 3))) (mr:T.right.length≤m3) (er:∀ e,e<T.right.length→at3 e=ats eI T.right 0 e)
  (hτ:∀ e,e<T.keys.length→∃ m at_,atN S2.own (τ e)=some (.ar m 1 at_ 3)∧(T.keys.getD e []).length≤m∧∀ i,i<(T.keys.getD e []).length→at_ i=ats eI (T.keys.getD e []) 0 i)
  (hinj:∀ e e',e<T.keys.length→e' < T.keys.length→τ e=τ e'→e=e') (hne:∀ e,(τ e).1≠0∧(τ e).1≠p∧(τ e).1≠q∧(τ e).1≠r) (hd:p≠0∧q≠0∧r≠0∧p≠q∧p≠r∧q≠r) :
  RetVC (mkO P w W rs (EffR w E 6 W u 4 fun b=>killO ks++trE T b)) v S2:=by
 have s0:∀ b,6≤b→trσ p q r τ b (0,0,0)=(0,0,0):=fun b hb=>by unfold trσ;rw [if_neg (by simp;omega),if_neg (by simp),if_neg (by simp),if_neg (by simp)]
 have s1:∀ b k l,trσ p q r τ b (b,k,l)=(p,0,0):=fun b k l=>by unfold trσ;rw [if_pos rfl]
 have s2:∀ b k l,trσ p q r τ b (b+1,k,l)=(q,0,0):=fun b k l=>by unfold trσ;rw [if_neg (by simp),if_pos rfl]
 have s3:∀ b k l,trσ p q r τ b (b+2,k,l)=(r,0,0):=fun b k l=>by unfold trσ;rw [if_neg (by simp),if_neg (by simp),if_pos rfl]
 have s4:∀ b k l,trσ p q r τ b (b+3,k,l)=τ k:=fun b k l=>by unfold trσ;rw [if_neg (by simp),if_neg (by simp),if_neg (by simp),if_pos rfl]
 refine retEff (trσ p q r τ) ks (trE T) hf hu (fun b hb x hx=>?_) (fun b hb=>?_) (fun b hb=>?_)
 ·unfold trσ;rw [if_neg (by omega),if_neg (by omega),if_neg (by omega),if_neg (by omega)]
 ·refine ⟨⟨Or.inl (by omega),?_⟩,⟨Or.inr ⟨by omega,by omega⟩,?_⟩,⟨Or.inr ⟨by omega,by omega⟩,?_⟩,⟨Or.inr ⟨by omega,by omega⟩,?_⟩,⟨Or.inr ⟨by omega,by omega⟩,fun k hk=>?_⟩,trivial⟩
  ·rw [s0 b hb];simp only [atN,h0,Fm.get,and_self,if_true]
   exact ⟨by simp only [SC.renL,SC.ren,s1,s2,s3],rfl,by simp [SC.okL,SC.okN,NewIds]⟩
  ·rw [s1];simp only [atN,hp,Fm.get,and_self,if_true]
   exact ⟨mp,rfl,rfl,fun e he=>⟨by rw [ep e he];simp only [trC,SC.renL,SC.ren,s4],by simp [trC,SC.okL,SC.okN,NewIds]⟩⟩
  ·rw [s2];simp only [atN,hq,Fm.get,and_self,if_true];exact arLe_of mq eq
  ·rw [s3];simp only [atN,hr,Fm.get,and_self,if_true];exact arLe_of mr er
  ·obtain ⟨m,at_,g1,g2,g3⟩:=hτ k hk
   rw [s4,g1]
   exact arLe_of g2 g3
 ·have hx2:∀ x c,atN (trE T b) x=some c→x=(0,0,0)∨x=(b,0,0)∨x=(b+1,0,0)∨x=(b+2,0,0)∨∃ k,k<T.keys.length∧x=(b+3,k,0):=fun x c hx=>by
   simp only [trE,trO] at hx
   rcases atN_one hx with ⟨rfl,_⟩ | hx
   ·simp
   rcases atN_one hx with ⟨rfl,_⟩ | hx
   ·simp
   rcases atN_one hx with ⟨rfl,_⟩ | hx
   ·simp
   rcases atN_one hx with ⟨rfl,_⟩ | hx
   ·simp
   rcases atN_fam hx with ⟨k,hk,rfl,_⟩ | hx
   ·exact Or.inr (Or.inr (Or.inr (Or.inr ⟨k,hk,rfl⟩)))
   ·exact (atN_nil hx).elim
  obtain ⟨d1,d2,d3,d4,d5,d6⟩:=hd
  intro x y c d hx hy e
  rcases hx2 x c hx with rfl | rfl | rfl | rfl | ⟨k,hk,rfl⟩ <;> rcases hx2 y d hy with rfl | rfl | rfl | rfl | ⟨k',hk',rfl⟩ <;> simp only [s0 b hb,s1,s2,s3,s4] at e <;> first
   | rfl
   | (rw [hinj k k' hk hk' e])
   | (exfalso;have:=congrArg Prod.fst e;simp only at this;first | omega | (have g:=hne k;rw [e] at g;simp at g) | (have g:=hne k';rw [← e] at g;simp at g))
theorem push_int {xs:List Int} {y:Int} {g:Nat→List SC} (hg:g 0=[.v (.int .i64 y)]):∀ e,e<(xs++[y]).length→appAt xs.length (ats eI xs 0) g e=ats eI (xs++[y]) 0 e:=ats_push (d:=0) rfl rfl (fun _ _=>rfl) hg
theorem set_push {xs:List Int} {y z:Int} {i:Nat} {g:Nat→List SC} (hg:g 0=[.v (.int .i64 y)]) (hi:i<xs.length):∀ e,e<((xs++[y]).set i z).length→setAt i (appAt xs.length (ats eI xs 0) g) (.v (.int .i64 z) :: drop' 1 (appAt xs.length (ats eI xs 0) g i)) e=ats eI ((xs++[y]).set i z) 0 e:=fun e he=>by
 have hcs:drop' 1 (appAt xs.length (ats eI xs 0) g i)=[]:=by unfold appAt;rw [if_pos hi];rfl
 rw [hcs]
 rw [List.length_set] at he
 unfold setAt
 split
 ·next h =>
  subst h
  simp only [ats,eI,List.map_cons,List.map_nil]
  rw [List.getD_eq_getElem?_getD,List.getElem?_set,if_pos rfl,if_pos he];rfl
 ·next h =>
  rw [push_int hg e he]
  simp only [ats,eI,List.map_cons,List.map_nil]
  rw [List.getD_eq_getElem?_getD,List.getD_eq_getElem?_getD,List.getElem?_set_ne (fun q=>h q.symm)]
def prR (T:Tr) (k:List Int):Nat ⊕ Nat×Bool→Nat×Bool×Tr
 | .inl j=>(j,false,T)
 | .inr (a,b)=>(T.keys.length,true,trPut T k a b)
def tauP (n:Nat) (e:Nat):Nm:=if e=n then (5,0,0) else (4,e,0)
theorem tauP_inj {n e e' : Nat} (h:tauP n e=tauP n e'):e=e':=by
 unfold tauP at h
 split at h <;> split at h <;> simp at h <;> omega
theorem tauP_h {own:Own} {T:Tr} {k:List Int} {a:Nat} {b:Bool} (h4:look own 4=some (.fam T.keys.length (trK T.keys))) (h5:look own 5=some (.one (.ar k.length 1 (ats eI k 0) 3))) :
  ∀ e,e<(trPut T k a b).keys.length→∃ m at_,atN own (tauP T.keys.length e)=some (.ar m 1 at_ 3)∧((trPut T k a b).keys.getD e []).length≤m∧∀ i,i<((trPut T k a b).keys.getD e []).length→at_ i=ats eI ((trPut T k a b).keys.getD e []) 0 i:=by
 intro e he
 have hkl:(trPut T k a b).keys.length=T.keys.length+1:=by simp [trPut]
 unfold tauP
 by_cases h:e=T.keys.length
 ·subst h
  have ek:(trPut T k a b).keys.getD T.keys.length []=k:=by simp [trPut,List.getD_eq_getElem?_getD]
  rw [if_pos rfl,ek]
  exact ⟨_,_,by simp [atN,h5,Fm.get],Nat.le_refl _,fun _ _=>rfl⟩
 ·rw [if_neg h,put_keys (by omega)]
  exact ⟨_,_,by simp only [atN,h4,Fm.get];rw [if_pos (by constructor <;> first | omega | trivial)];rfl,Nat.le_refl _,fun _ _=>rfl⟩
theorem tauP_k {T:Tr} {k:List Int} {a:Nat} {b:Bool} {g:Nat→List SC} (hg:g 0=[.sl (5,0,0) 1 0 k.length none]):∀ e,e<(trPut T k a b).keys.length→appAt T.keys.length (trC 4 T.keys) g e=[.sl (tauP T.keys.length e) 1 0 ((trPut T k a b).keys.getD e []).length none]:=by
 intro e he
 have hkl:(trPut T k a b).keys.length=T.keys.length+1:=by simp [trPut]
 unfold tauP appAt
 by_cases h:e=T.keys.length
 ·subst h
  have ek:(trPut T k a b).keys.getD T.keys.length []=k:=by simp [trPut,List.getD_eq_getElem?_getD]
  rw [if_neg (Nat.lt_irrefl _),if_pos rfl,ek,Nat.sub_self,hg]
 ·rw [if_pos (by omega),if_neg h,put_keys (by omega)];rfl
def ir88:IR:=(.seq (.ops [⟨(some 4),(.mv (.k (.c (.v (.int .i64 0))))),none⟩,⟨(some 5),(.mv (.k (.c (.v (.bool false))))),none⟩]) (.kill [2,3,4,5,6,7,8,9,10,11] (.seq (.ops [⟨(some 6),(.mv (.k (.c (.v (.int .i64 (-1)))))),none⟩]) (.seq (.ops [⟨(some 7),(.mv (.k (.c (.v (.bool false))))),none⟩]) (.seq (.seq (.ops [⟨(some 8),(.mv (.k (.c (.v (.int .i64 0))))),none⟩]) (.blk 0 (.loop (.seq (.seq (.ops [⟨(some 10),(.mv (.t 8)),none⟩,⟨(some 11),(.mv (.t 0)),none⟩,⟨(some 12),(.nilck (.t 11)),none⟩,⟨(some 13),(.fa 0 (.t 12)),none⟩,⟨(some 14),(.ld false 1 (.t 13)),none⟩,⟨(some 15),(.len (.t 14)),none⟩,⟨(some 16),(.bin .lss (.t 10) (.t 15)),none⟩]) (.kill [4,5,10,11,12,13,14,15,17,18,19,20,21,22,23,24,25,26,27,28,29,30,31,32,33,34,35,36,37,38,39,40,41,42,43,44,45,46,47,48,49,50,51,52] (.cond (.t 16) .skip (.exit 0)))) (.kill [6,7,16] (.blk 1 (.seq (.ops [⟨(some 17),(.mv (.t 8)),none⟩,⟨(some 6),(.mv (.t 17)),none⟩]) (.kill [17] (.seq (.seq (.ops [⟨(some 18),(.mv (.t 1)),none⟩,⟨(some 19),(.mv (.t 0)),none⟩,⟨(some 20),(.nilck (.t 19)),none⟩,⟨(some 21),(.fa 0 (.t 20)),none⟩,⟨(some 22),(.ld false 1 (.t 21)),none⟩,⟨(some 23),(.mv (.t 8)),none⟩,⟨(some 24),(.ia 1 (.t 22) (.t 23)),none⟩,⟨(some 25),(.ld false 1 (.t 24)),none⟩,⟨(some 26),(.call 57 [(.t 18),(.t 25)]),none⟩]) (.kill [18,19,20,21,22,23,24,25] (.cond (.t 26) (.seq (.ops [⟨(some 7),(.mv (.k (.c (.v (.bool false))))),none⟩]) (.kill [26] (.ops [⟨(some 27),(.mv (.t 0)),none⟩,⟨(some 28),(.nilck (.t 27)),none⟩,⟨(some 29),(.fa 1 (.t 28)),none⟩,⟨(some 30),(.ld false 1 (.t 29)),none⟩,⟨(some 31),(.mv (.t 8)),none⟩,⟨(some 32),(.ia 1 (.t 30) (.t 31)),none⟩,⟨(some 33),(.ld false 1 (.t 32)),none⟩,⟨(some 8),(.mv (.t 33)),none⟩]))) (.seq (.ops [⟨(some 34),(.mv (.t 0)),none⟩,⟨(some 35),(.nilck (.t 34)),none⟩,⟨(some 36),(.fa 0 (.t 35)),none⟩,⟨(some 37),(.ld false 1 (.t 36)),none⟩,⟨(some 38),(.mv (.t 8)),none⟩,⟨(some 39),(.ia 1 (.t 37) (.t 38)),none⟩,⟨(some 40),(.ld false 1 (.t 39)),none⟩,⟨(some 41),(.mv (.t 1)),none⟩,⟨(some 42),(.call 57 [(.t 40),(.t 41)]),none⟩]) (.kill [26,34,35,36,37,38,39,40,41] (.cond (.t 42) (.seq (.ops [⟨(some 7),(.mv (.k (.c (.v (.bool true))))),none⟩]) (.kill [42] (.ops [⟨(some 43),(.mv (.t 0)),none⟩,⟨(some 44),(.nilck (.t 43)),none⟩,⟨(some 45),(.fa 2 (.t 44)),none⟩,⟨(some 46),(.ld false 1 (.t 45)),none⟩,⟨(some 47),(.mv (.t 8)),none⟩,⟨(some 48),(.ia 1 (.t 46) (.t 47)),none⟩,⟨(some 49),(.ld false 1 (.t 48)),none⟩,⟨(some 8),(.mv (.t 49)),none⟩]))) (.seq (.ops [⟨(some 50),(.mv (.t 8)),none⟩,⟨(some 4),(.mv (.t 50)),none⟩,⟨(some 5),(.mv (.k (.c (.v (.bool false))))),none⟩]) (.kill [0,1,6,8,42,50] .ret)))))))) (.kill [4,5,27,28,29,30,31,32,33,43,44,45,46,47,48,49] (.seq (.ops [⟨(some 51),(.mv (.t 8)),none⟩,⟨(some 52),(.bin .lss (.t 51) (.k (.c (.v (.int .i64 0))))),none⟩]) (.kill [51] (.cond (.t 52) (.exit 0) .skip))))))))))))) (.kill [4,5,8,10,11,12,13,14,15,16,17,18,19,20,21,22,23,24,25,26,27,28,29,30,31,32,33,34,35,36,37,38,39,40,41,42,43,44,45,46,47,48,49,50,51,52] (.seq (.ops [⟨(some 53),(.mv (.t 0)),none⟩,⟨(some 54),(.nilck (.t 53)),none⟩,⟨(some 55),(.fa 0 (.t 54)),none⟩,⟨(some 56),(.ld false 1 (.t 55)),none⟩,⟨(some 57),(.len (.t 56)),none⟩,⟨(some 9),(.mv (.t 57)),none⟩]) (.kill [53,54,55,56,57] (.seq (.ops [⟨(some 58),(.mv (.t 0)),none⟩,⟨(some 59),(.mv (.t 0)),none⟩,⟨(some 60),(.nilck (.t 59)),none⟩,⟨(some 61),(.fa 0 (.t 60)),none⟩,⟨(some 62),(.ld false 1 (.t 61)),none⟩,⟨(some 63),(.mv (.t 1)),none⟩,⟨(some 64),(.mkSl 22 1 1 [(.v (.slice none 0 0))] [(0,(1,(.t 63)))]),none⟩,⟨(some 65),(.app 22 1 24 [(.v (.slice none 0 0))] (.t 62) (.t 64)),none⟩,⟨(some 66),(.nilck (.t 58)),none⟩,⟨(some 67),(.fa 0 (.t 66)),none⟩,⟨none,(.st 1 (.t 67) (.t 65)),none⟩]) (.kill [1,58,59,60,61,62,63,64,65,66,67] (.seq (.ops [⟨(some 68),(.mv (.t 0)),none⟩,⟨(some 69),(.mv (.t 0)),none⟩,⟨(some 70),(.nilck (.t 69)),none⟩,⟨(some 71),(.fa 1 (.t 70)),none⟩,⟨(some 72),(.ld false 1 (.t 71)),none⟩,⟨(some 73),(.mkSl 3 1 1 [(.v (.int .i64 0))] [(0,(1,(.k (.c (.v (.int .i64 (-1)))))))]),none⟩,⟨(some 74),(.app 3 1 8 [(.v (.int .i64 0))] (.t 72) (.t 73)),none⟩,⟨(some 75),(.nilck (.t 68)),none⟩,⟨(some 76),(.fa 1 (.t 75)),none⟩,⟨none,(.st 1 (.t 76) (.t 74)),none⟩]) (.kill [68,69,70,71,72,73,74,75,76] (.seq (.ops [⟨(some 77),(.mv (.t 0)),none⟩,⟨(some 78),(.mv (.t 0)),none⟩,⟨(some 79),(.nilck (.t 78)),none⟩,⟨(some 80),(.fa 2 (.t 79)),none⟩,⟨(some 81),(.ld false 1 (.t 80)),none⟩,⟨(some 82),(.mkSl 3 1 1 [(.v (.int .i64 0))] [(0,(1,(.k (.c (.v (.int .i64 (-1)))))))]),none⟩,⟨(some 83),(.app 3 1 8 [(.v (.int .i64 0))] (.t 81) (.t 82)),none⟩,⟨(some 84),(.nilck (.t 77)),none⟩,⟨(some 85),(.fa 2 (.t 84)),none⟩,⟨none,(.st 1 (.t 85) (.t 83)),none⟩]) (.kill [77,78,79,80,81,82,83,84,85] (.seq (.seq (.ops [⟨(some 86),(.mv (.t 6)),none⟩,⟨(some 87),(.bin .geq (.t 86) (.k (.c (.v (.int .i64 0))))),none⟩,⟨(some 88),(.mv (.t 87)),none⟩,⟨(some 89),(.mv (.t 7)),(some (88,true))⟩,⟨(some 90),(.pick (.t 88) (.t 89) (.k (.c (.v (.bool false))))),none⟩]) (.kill [7,86,87,88,89] (.cond (.t 90) (.ops [⟨(some 91),(.mv (.t 0)),none⟩,⟨(some 92),(.nilck (.t 91)),none⟩,⟨(some 93),(.fa 2 (.t 92)),none⟩,⟨(some 94),(.ld false 1 (.t 93)),none⟩,⟨(some 95),(.mv (.t 6)),none⟩,⟨(some 96),(.mv (.t 9)),none⟩,⟨(some 97),(.ia 1 (.t 94) (.t 95)),none⟩,⟨none,(.st 1 (.t 97) (.t 96)),none⟩]) (.seq (.ops [⟨(some 98),(.mv (.t 6)),none⟩,⟨(some 99),(.bin .geq (.t 98) (.k (.c (.v (.int .i64 0))))),none⟩]) (.kill [90,98] (.cond (.t 99) (.ops [⟨(some 100),(.mv (.t 0)),none⟩,⟨(some 101),(.nilck (.t 100)),none⟩,⟨(some 102),(.fa 1 (.t 101)),none⟩,⟨(some 103),(.ld false 1 (.t 102)),none⟩,⟨(some 104),(.mv (.t 6)),none⟩,⟨(some 105),(.mv (.t 9)),none⟩,⟨(some 106),(.ia 1 (.t 103) (.t 104)),none⟩,⟨none,(.st 1 (.t 106) (.t 105)),none⟩]) .skip)))))) (.kill [0,6,90,91,92,93,94,95,96,97,99,100,101,102,103,104,105,106] (.seq (.ops [⟨(some 107),(.mv (.t 9)),none⟩,⟨(some 4),(.mv (.t 107)),none⟩,⟨(some 5),(.mv (.k (.c (.v (.bool true))))),none⟩]) (.kill [9,107] .ret))))))))))))))))))
def rs88:List RS:=[(.t 4),(.t 5)]
def nt88:Nat:=108
set_option maxRecDepth 100000 in
set_option maxHeartbeats 1000000 in
theorem put_own (w:World) (E:Env) (T:Tr) (k:List Int) (hT:TrOk T) (hn:0<T.keys.length) (hn2:T.keys.length≤30000) (res:Nat ⊕ Nat×Bool) (hres:tsr T k T.keys.length 0=some res) (h:Handed w E 6 (tr0 T k) []) :
  Calls Try.prog 88 (([.c (.ptr (0,0,0) 0),.c (.sl (5,0,0) 1 0 k.length none)]:List SV).map (SV.den E)).toArray w (EffR w E 6 (takesO E (tr0 T k)) (.tup [(false,[.v (.int .i64 (prR T k res).1)]),(false,[.bo (prR T k res).2.1])]) 4 fun b=>killO [1,2,3,4,5]++trE (prR T k res).2.2 b):=by
 refine enterO (c:=ir88) (rs:=rs88) (nt:=nt88) h _ Try.func88 rfl (by kernel_rfl) (by kernel_rfl) rfl (by simp [okVs,SV.okN,SC.okN]) (of_decide_eq_true rfl) ?_
 generalize hR:EffR w E 6 (takesO E (tr0 T k)) (.tup [(false,[.v (.int .i64 (prR T k res).1)]),(false,[.bo (prR T k res).2.1])]) 4 (fun b=>killO [1,2,3,4,5]++trE (prR T k res).2.2 b)=R
 generalize hW:takesO E (tr0 T k)=W
 simp (maxSteps:=2000000) only [ir88,nt88,rs88,go_sem,↓reduceIte,Nat.reduceLT,Nat.reduceLeDiff,Nat.reduceAdd,Nat.reduceSub,Nat.reduceMul,Nat.reduceEqDiff,reduceCtorEq,Int.reduceToNat,Int.reduceEq,Int.reduceBEq,Int.reduceBNe,Int.reduceLT,Int.reduceLE,Int.reduceNeg,Int.reduceAdd,Int.reduceSub,Int.reduceMul,Int.reduceGE,Int.reduceGT,endO,mkO_rs]
 have hlb:∀ {C:Ctx} {E:Env} {S:St} {a:Act} {w' : World} {i:Nat},Sat C.B C.W C.w0 E S a w'→i<T.keys.length→look S.own 4=some (.fam T.keys.length (trK T.keys))→Arr w' eI 1 ((SC.sl (4,i,0) 1 0 (T.keys.getD i []).length none).den E) (T.keys.getD i []):=fun hs hi h4=>arr_ownX (d:=0) hs (4,_,0) _ _ _ (by simp only [atN,h4,Fm.get,hi,and_self,if_true];rfl) rfl (Nat.le_refl _) fun _ _=>rfl
 have hll:=hT.l
 have hrl:=hT.r
 refine loopI (ι:={ p:Int×Bool×Nat // p.2.2<T.keys.length∧∃ f,tsr T k f p.2.2=some res }) (fun p=>⟨108,[(0,.c (.ptr (0,0,0) 0)),(1,.c (.sl (5,0,0) 1 0 k.length none)),(8,.c (.v (.int .i64 (p.1.2.2:Nat))))],tr0 T k,[],[AgF 6 E],6⟩)
  (fun p=>T.keys.length - p.1.2.2) ⟨(-1,false,0),hn,_,hres⟩ ?_ ?_
 ·exact le_renF id rfl ⟨factA List.mem_cons_self (Nat.le_refl _) (fun _ _=>rfl),trivial⟩ (by simp [TmpsLe,look,SV.ren,SC.ren,idσ,SV.okN,SC.okN]) (by simp +contextual [tr0,trO,trS,trC,trK,OwnLe,BlkLeO,BlkLe,atN,look,Fm.get,idσ,SC.renL,SC.ren,SC.okL,SC.okN,renL_v,okL_v,ren_ats,ok_ats]) trivial rfl
 rintro ⟨⟨_,_,i⟩,hi,f,hf⟩
 simp only at hi hf
 simp (maxSteps:=2000000) only [go_sem,↓reduceIte,Nat.reduceLT,Nat.reduceLeDiff,Nat.reduceAdd,Nat.reduceSub,Nat.reduceMul,Nat.reduceEqDiff,reduceCtorEq,Int.reduceToNat,Int.reduceEq,Int.reduceBEq,Int.reduceBNe,Int.reduceLT,Int.reduceLE,Int.reduceNeg,Int.reduceAdd,Int.reduceSub,Int.reduceMul,Int.reduceGE,Int.reduceGT,endO,tr0,trO,trS,trC,mkO_rs]
 refine both (fun hlt=>?_) (fun hge=>?_)
 ·rw [decide_eq_true_eq] at hlt
  cases f with
  | zero=>cases hf
  | succ f =>
  rw [tsr] at hf
  refine And.intro ⟨hi,Nat.le_refl _⟩ (And.intro hi ?_)
  refine callV (.c (.bo (lessL k (T.keys.getD i [])))) _ (fun E=>rfl) (fun E a w' hs=>less_calls w' _ _ k (T.keys.getD i []) (own_at (d:=0) hs 5 _ rfl rfl) (hlb hs hi rfl)) ?_
  simp (maxSteps:=2000000) only [go_sem,↓reduceIte,Nat.reduceLT,Nat.reduceLeDiff,Nat.reduceAdd,Nat.reduceSub,Nat.reduceMul,Nat.reduceEqDiff,reduceCtorEq,Int.reduceToNat,Int.reduceEq,Int.reduceBEq,Int.reduceBNe,Int.reduceLT,Int.reduceLE,Int.reduceNeg,Int.reduceAdd,Int.reduceSub,Int.reduceMul,Int.reduceGE,Int.reduceGT,endO,eI,ats]
  refine both (fun h1=>And.intro ⟨by omega,Nat.le_refl _⟩ (And.intro (by omega) ?_)) (fun h1=>?_)
  ·rw [if_pos h1] at hf
   refine both (fun h2=>?_) (fun h2=>?_)
   ·have h2:T.left.getD i 0<0:=by simpa using h2
    rw [if_pos h2] at hf
    simp only [Option.some.injEq] at hf
    subst hf
    repeat (with_reducible refine And.intro (by first | decide | exact ⟨Nat.le_refl _,by omega,by simp only [maxLen];omega⟩ | exact ⟨by omega,Nat.le_refl _⟩ | omega) ?_)
    rw [← hR,← hW]
    exact retPut (T:=trPut T k i false) [1,2,3,4,5] 7 9 11 (tauP T.keys.length) List.mem_cons_self (fun E E'=>by simp [SV.den,SC.den,den1,prR]) (by simp [trPut,look]) rfl (by simp [trPut]) (tauP_k rfl) rfl (by simp [trPut]) (set_push (y:=-1) rfl (by omega)) rfl (by simp [trPut]) (push_int rfl) (tauP_h rfl rfl) (fun _ _ _ _ h=>tauP_inj h) (fun e=>by unfold tauP;split <;> simp) (by decide)
   ·have h2:¬ T.left.getD i 0<0:=by simpa using h2
    rw [if_neg h2] at hf
    rcases hT.lc i hi with e | ⟨e1,e2⟩
    ·omega
    obtain ⟨i',hi'⟩:∃ i' : Nat,T.left.getD i 0=i':=⟨(T.left.getD i 0).toNat,by omega⟩
    rw [hi'] at hf e1 e2 ⊢
    rw [Int.toNat_natCast] at hf
    exact backI ⟨(0,false,i'),by show i' < _;omega,f,hf⟩ (by simp only;omega) (le_renF id rfl ⟨factA List.mem_cons_self (Nat.le_refl _) (fun _ _=>rfl),trivial⟩ (by simp [TmpsLe,look,SV.ren,SC.ren,idσ,SV.okN,SC.okN]) (by simp +contextual [tr0,trO,trS,trC,trK,OwnLe,BlkLeO,BlkLe,atN,look,Fm.get,idσ,SC.renL,SC.ren,SC.okL,SC.okN,renL_v,okL_v,ren_ats,ok_ats]) trivial rfl)
  ·rw [if_neg (by rw [h1];exact Bool.false_ne_true)] at hf
   refine And.intro ⟨hi,Nat.le_refl _⟩ (And.intro hi ?_)
   refine callV (.c (.bo (lessL (T.keys.getD i []) k))) _ (fun E=>rfl) (fun E a w' hs=>less_calls w' _ _ (T.keys.getD i []) k (hlb hs hi rfl) (own_at (d:=0) hs 5 _ rfl rfl)) ?_
   simp (maxSteps:=2000000) only [go_sem,↓reduceIte,Nat.reduceLT,Nat.reduceLeDiff,Nat.reduceAdd,Nat.reduceSub,Nat.reduceMul,Nat.reduceEqDiff,reduceCtorEq,Int.reduceToNat,Int.reduceEq,Int.reduceBEq,Int.reduceBNe,Int.reduceLT,Int.reduceLE,Int.reduceNeg,Int.reduceAdd,Int.reduceSub,Int.reduceMul,Int.reduceGE,Int.reduceGT,endO,eI,ats]
   refine both (fun h3=>And.intro ⟨by omega,Nat.le_refl _⟩ (And.intro (by omega) ?_)) (fun h3=>?_)
   ·rw [if_pos h3] at hf
    refine both (fun h2=>?_) (fun h2=>?_)
    ·have h2:T.right.getD i 0<0:=by simpa using h2
     rw [if_pos h2] at hf
     simp only [Option.some.injEq] at hf
     subst hf
     repeat (with_reducible refine And.intro (by first | decide | exact ⟨Nat.le_refl _,by omega,by simp only [maxLen];omega⟩ | exact ⟨by omega,Nat.le_refl _⟩ | omega) ?_)
     rw [← hR,← hW]
     exact retPut (T:=trPut T k i true) [1,2,3,4,5] 7 9 11 (tauP T.keys.length) List.mem_cons_self (fun E E'=>by simp [SV.den,SC.den,den1,prR]) (by simp [trPut,look]) rfl (by simp [trPut]) (tauP_k rfl) rfl (by simp [trPut]) (push_int rfl) rfl (by simp [trPut]) (set_push (y:=-1) rfl (by omega)) (tauP_h rfl rfl) (fun _ _ _ _ h=>tauP_inj h) (fun e=>by unfold tauP;split <;> simp) (by decide)
    ·have h2:¬ T.right.getD i 0<0:=by simpa using h2
     rw [if_neg h2] at hf
     rcases hT.rc i hi with e | ⟨e1,e2⟩
     ·omega
     obtain ⟨i',hi'⟩:∃ i' : Nat,T.right.getD i 0=i':=⟨(T.right.getD i 0).toNat,by omega⟩
     rw [hi'] at hf e1 e2 ⊢
     rw [Int.toNat_natCast] at hf
     exact backI ⟨(0,false,i'),by show i' < _;omega,f,hf⟩ (by simp only;omega) (le_renF id rfl ⟨factA List.mem_cons_self (Nat.le_refl _) (fun _ _=>rfl),trivial⟩ (by simp [TmpsLe,look,SV.ren,SC.ren,idσ,SV.okN,SC.okN]) (by simp +contextual [tr0,trO,trS,trC,trK,OwnLe,BlkLeO,BlkLe,atN,look,Fm.get,idσ,SC.renL,SC.ren,SC.okL,SC.okN,renL_v,okL_v,ren_ats,ok_ats]) trivial rfl)
   ·rw [if_neg (by rw [h3];exact Bool.false_ne_true)] at hf
    simp only [Option.some.injEq] at hf
    subst hf
    rw [← hR,← hW]
    exact retPut (T:=T) [1,2,3,4,5] 1 2 3 (fun e=>(4,e,0)) List.mem_cons_self (fun E E'=>by simp [SV.den,SC.den,den1,prR]) rfl rfl (Nat.le_refl _) (fun _ _=>rfl) rfl (Nat.le_refl _) (fun _ _=>rfl) rfl (Nat.le_refl _) (fun _ _=>rfl) (fun e he=>⟨_,_,by simp only [atN,look,Nat.reduceEqDiff,reduceIte,Fm.get];rw [if_pos (by constructor <;> first | exact he | trivial)];rfl,Nat.le_refl _,fun _ _=>rfl⟩) (fun _ _ _ _ h=>by simpa using h) (fun e=>by simp) (by decide)
 ·rw [decide_eq_false_iff_not] at hge;omega
def trN (k:List Int):Own:=[(0,.one (.bk [.v (.slice none 0 0),.v (.slice none 0 0),.v (.slice none 0 0)] 143)),(5,.one (.ar k.length 1 (ats eI k 0) 3))]
set_option maxRecDepth 100000 in
set_option maxHeartbeats 1000000 in
theorem put_first (w:World) (E:Env) (k:List Int) (h:Handed w E 6 (trN k) []) :
  Calls Try.prog 88 (([.c (.ptr (0,0,0) 0),.c (.sl (5,0,0) 1 0 k.length none)]:List SV).map (SV.den E)).toArray w (EffR w E 6 (takesO E (trN k)) (.tup [(false,[.v (.int .i64 0)]),(false,[.bo true])]) 4 fun b=>killO [5]++trE ⟨[k],[-1],[-1]⟩ b):=by
 refine enterO (c:=ir88) (rs:=rs88) (nt:=nt88) h _ Try.func88 rfl (by kernel_rfl) (by kernel_rfl) rfl (by simp [okVs,SV.okN,SC.okN]) (of_decide_eq_true rfl) ?_
 generalize hR:EffR w E 6 (takesO E (trN k)) (.tup [(false,[.v (.int .i64 0)]),(false,[.bo true])]) 4 (fun b=>killO [5]++trE ⟨[k],[-1],[-1]⟩ b)=R
 generalize hW:takesO E (trN k)=W
 simp (maxSteps:=2000000) only [ir88,nt88,rs88,go_sem,↓reduceIte,Nat.reduceLT,Nat.reduceLeDiff,Nat.reduceAdd,Nat.reduceSub,Nat.reduceMul,Nat.reduceEqDiff,reduceCtorEq,Int.reduceToNat,Int.reduceEq,Int.reduceBEq,Int.reduceBNe,Int.reduceLT,Int.reduceLE,Int.reduceNeg,Int.reduceAdd,Int.reduceSub,Int.reduceMul,Int.reduceGE,Int.reduceGT,endO,mkO_rs,trN]
 refine loop_unr 1 ?_
 intro ι I μ i hb
 simp (maxSteps:=2000000) only [go_sem,↓reduceIte,Nat.reduceLT,Nat.reduceLeDiff,Nat.reduceAdd,Nat.reduceSub,Nat.reduceMul,Nat.reduceEqDiff,reduceCtorEq,Int.reduceToNat,Int.reduceEq,Int.reduceBEq,Int.reduceBNe,Int.reduceLT,Int.reduceLE,Int.reduceNeg,Int.reduceAdd,Int.reduceSub,Int.reduceMul,Int.reduceGE,Int.reduceGT,endO,mkO_rs]
 repeat (with_reducible refine And.intro (by decide) ?_)
 rw [← hR,← hW]
 have h0:∀ e:Nat,e<1→e=0:=fun e he=>by omega
 exact retPut (T:=⟨[k],[-1],[-1]⟩) [5] 7 9 11 (fun _=>(5,0,0)) List.mem_cons_self (fun E E'=>by simp [SV.den,SC.den,den1]) rfl rfl (Nat.le_refl _) (fun e he=>by rw [h0 e he];rfl) rfl (Nat.le_refl _) (fun e he=>by rw [h0 e he];rfl) rfl (Nat.le_refl _) (fun e he=>by rw [h0 e he];rfl)
  (fun e he=>by rw [h0 e he];exact ⟨_,_,rfl,Nat.le_refl _,fun _ _=>rfl⟩) (fun e e' h h' _=>by rw [h0 e h,h0 e' h']) (fun e=>by simp) (by decide)
end Go.Proofs.Ytmcpdafmkkjlcaa.Z
namespace Go.Proofs.Ytmcpdafmkkjlcaa.Z
open Go Go.RowKit
def toN (tl:List Nat) (i:Nat):Nat:=match nth tl i with | some j=>j | none=>i
def backN:List Nat→Nat→Nat→Nat
 | [],_,i=>i
 | j :: tl,k,i=>if Nat.beq i j then k else backN tl (k+1) i
def noDup:List Nat→Bool
 | []=>true
 | j :: tl=>!(memB tl j) && noDup tl
theorem nth_lt:∀ (tl:List Nat) (i:Nat),i<tl.length→∃ j,nth tl i=some j∧j∈tl
 | [],i,h=>by simp at h
 | j :: tl,0,h=>⟨j,rfl,List.mem_cons_self⟩
 | j :: tl,i+1,h=>by
  obtain ⟨q,h1,h2⟩:=nth_lt tl i (by simpa using h)
  exact ⟨q,h1,List.mem_cons_of_mem _ h2⟩
theorem toN_mem {tl:List Nat} {i:Nat} (h:i<tl.length):toN tl i∈tl:=by
 obtain ⟨j,h1,h2⟩:=nth_lt tl i h
 unfold toN;rw [h1];exact h2
theorem back_mem:∀ {tl:List Nat} {k i:Nat},i∈tl→k≤backN tl k i∧backN tl k i<k+tl.length∧nth tl (backN tl k i - k)=some i
 | [],k,i,h=>by cases h
 | j :: tl,k,i,h=>by
  unfold backN
  by_cases e:Nat.beq i j=true
  ·rw [if_pos e]
   have:=Nat.eq_of_beq_eq_true e
   subst this
   exact ⟨Nat.le_refl _,by simp,by simp [nth]⟩
  ·rw [if_neg e]
   have hne:i≠j:=fun q=>e (by rw [q];exact Nat.beq_refl _)
   rcases List.mem_cons.1 h with h | h
   ·exact absurd h hne
   obtain ⟨h1,h2,h3⟩:=back_mem (k:=k+1) h
   refine ⟨by omega,by simp only [List.length_cons];omega,?_⟩
   rw [show backN tl (k+1) i - k=(backN tl (k+1) i - (k+1))+1 by omega]
   exact h3
theorem back_out:∀ {tl:List Nat} {k i:Nat},i ∉ tl→backN tl k i=i
 | [],k,i,h=>rfl
 | j :: tl,k,i,h=>by
  unfold backN
  rw [if_neg (fun e=>h (by rw [Nat.eq_of_beq_eq_true e];exact List.mem_cons_self))]
  exact back_out fun q=>h (List.mem_cons_of_mem _ q)
theorem to_back {tl:List Nat} {i:Nat} (h:i∈tl):backN tl 0 i<tl.length∧toN tl (backN tl 0 i)=i:=by
 obtain ⟨h1,h2,h3⟩:=back_mem (k:=0) h
 refine ⟨by omega,?_⟩
 unfold toN
 rw [Nat.sub_zero] at h3
 rw [h3]
theorem noDup_inj:∀ {tl:List Nat},noDup tl=true→∀ {a b:Nat},a<tl.length→b<tl.length→toN tl a=toN tl b→a=b
 | [],_,a,b,h,_,_=>by simp at h
 | j :: tl,hd,a,b,ha,hb,e=>by
  simp only [noDup,Bool.and_eq_true,Bool.not_eq_true'] at hd
  have hj:j ∉ tl:=fun q=>by rw [(memB_iff).2 q] at hd;exact absurd hd.1 (by simp)
  have ts:∀ a,a<tl.length→toN (j :: tl) (a+1)=toN tl a:=fun a ha=>by
   obtain ⟨q,h1,_⟩:=nth_lt tl a ha
   simp [toN,nth,h1]
  cases a with
  | zero =>
   cases b with
   | zero=>rfl
   | succ b =>
    rw [ts b (by simpa using hb)] at e
    have:=toN_mem (tl:=tl) (i:=b) (by simpa using hb)
    rw [← e] at this
    exact absurd this hj
  | succ a =>
   cases b with
   | zero =>
    rw [ts a (by simpa using ha)] at e
    have:=toN_mem (tl:=tl) (i:=a) (by simpa using ha)
    rw [e] at this
    exact absurd this hj
   | succ b =>
    rw [ts a (by simpa using ha),ts b (by simpa using hb)] at e
    rw [noDup_inj hd.2 (by simpa using ha) (by simpa using hb) e]
theorem takes_via {E:Env} {σ:Nm→Nm} {x:Nm} {b:Blk} {n:Nat}:takes (E.via σ) x b n↔takes E (σ x) b n:=by
 cases b <;> simp [takes,Env.via]
def PlainL:Own→Prop
 | []=>True
 | (_,.one b) :: r=>PlainB b∧PlainL r
 | (_,.fam _ f) :: r=>(∀ k,PlainB (f k))∧PlainL r
 | (_,.fam2 _ _ f) :: r=>(∀ k e,PlainB (f k e))∧PlainL r
theorem plain_of:∀ {own:Own},PlainL own→PlainO own
 | [],_,x,b,hx=>(atN_nil hx).elim
 | (i,F) :: r,h,(a,k,e),b,hx=>by
  simp only [atN,look_cons] at hx
  by_cases q:i=a
  ·rw [if_pos q] at hx
   cases F with
   | one c =>
    simp only [Fm.get] at hx
    split at hx
    ·cases hx;exact h.1
    ·cases hx
   | fam n f =>
    simp only [Fm.get] at hx
    split at hx
    ·cases hx;exact h.1 _
    ·cases hx
   | fam2 n m f =>
    simp only [Fm.get] at hx
    split at hx
    ·cases hx;exact h.1 _ _
    ·cases hx
  ·rw [if_neg q] at hx
   have hr:PlainL r:=by cases F <;> exact h.2
   exact plain_of hr (a,k,e) b hx
theorem cr_ownT {C:Ctx} {S:St} {f:Nat} {vs vs0:List SV} {u u' : SV} {nx:Nat} {eff:Nat→Own} {eff' : Own} (tl:List Nat) (own0:Own) (arrs0:List (Nat×Fm ArrF)) (hnd:noDup tl=true) (hid:ltAll tl S.nid=true) (hn0:tl.length≤S.nid) (hp:PlainO own0)
  (hvs:vs=vs0.map (SV.ren (idσ (toN tl)))∧okVs (· < tl.length) vs0)
  (hown:OwnLe (· < tl.length) (idσ (toN tl)) S.own own0) (harr:ArrsLe (· < tl.length) (idσ (toN tl)) S.arrs arrs0) (hk:∀ i∈keysL own0,(look eff' (toN tl i)).isSome=true)
  (hu:u=u'.ren (idσ (backN tl 0))∧u'.okN fun i=>i∈tl∨NewIds S.nid nx i)
  (heff:OwnLe (fun i=>i∈tl∨NewIds S.nid nx i) (idσ (backN tl 0)) (eff S.nid) eff')
  (hc:∀ E w,Handed w E tl.length own0 arrs0→Calls C.P f (vs0.map (SV.den E)).toArray w (EffR w E tl.length (takesO E own0) u nx eff)):CR C f vs S tl u' nx eff' []:=by
 have hlt:∀ i∈tl,i<S.nid:=fun i hi=>ltAll_mem hid i hi
 intro E a w hs
 obtain ⟨H,hH,hF⟩:=hs.mem
 have hat:∀ x c,atN own0 x=some c→x.1<tl.length∧∃ d,atN S.own (idσ (toN tl) x)=some d∧BlkLe (· < tl.length) (idσ (toN tl)) d c:=fun x c hx=>ownLe_at hown hx
 have hinj:InjN (idσ (toN tl)) own0:=by
  intro x y b c hx hy e
  have h1:=(hat x b hx).1
  have h2:=(hat y c hy).1
  unfold idσ at e
  simp only [Prod.mk.injEq] at e
  exact Prod.ext (noDup_inj hnd h1 h2 e.1) e.2
 have hand:Handed w (E.via (idσ (toN tl))) tl.length own0 arrs0:=by
  refine ⟨fun x=>hs.one _,fun E' hE' ho'=>⟨fun x=>H (idσ (toN tl) x),fun x c hx=>?_,fun x y c d hx hy hne n=>?_,fun x c hx n o hn=>?_,fun w' hw'=>⟨fun x A hA=>?_,fun φ hφ=>?_⟩⟩⟩
  ·obtain ⟨h1,d,h2,h3⟩:=hat x c hx
   exact blk_le (σ:=idσ (toN tl)) (fun y hy=>hE' y hy) h1 h3 (hH.den _ _ h2)
  ·obtain ⟨_,d1,g1,_⟩:=hat x c hx
   obtain ⟨_,d2,g2,_⟩:=hat y d hy
   exact hH.disj _ _ d1 d2 g1 g2 (fun e=>hne (hinj x y c d hx hy e)) n
  ·obtain ⟨_,d1,g1,g3⟩:=hat x c hx
   refine ⟨(hH.sub _ d1 g1 n o hn).1,x,c,hx,takes_via.2 ?_⟩
   obtain ⟨k1,k2⟩:=blkLe_plain g3 (hp x c hx)
   exact (k2 E _ n).1 ((takes_iff k1 (hH.den _ d1 g1)).1 (by show H _ n≠none;rw [show H (idσ (toN tl) x) n=some o from hn];simp))
  ·obtain ⟨h1,A0,h2,h3,h4,h5,h6⟩:=arrsLe_at harr hA
   have hold:=hF w' fun n hn hfr=>hw' n hn fun x c hx=>by
    obtain ⟨_,d1,g1,_⟩:=hat x c hx
    exact hfr _ d1 g1
   obtain ⟨ba,cap,g1,g2,g3,g4⟩:=hold.1 _ A0 h2
   have hR:∀ y:Nm,y.1<tl.length→SameR (idσ (toN tl)) E E' y:=fun y hy=>hE' y hy
   refine ⟨ba,cap,by rw [(hR x h1).2.2.2];exact g1.trans (by rw [h3]),by omega,g3,?_⟩
   rcases g4 with g4 | ⟨b,off,rfl,gl,g4⟩
   ·exact Or.inl (by omega)
   ·refine Or.inr ⟨b,off,rfl,Nat.le_trans h6 gl,fun k hk=>?_⟩
    obtain ⟨f1,f2⟩:=g4 k (by omega)
    obtain ⟨e1,e2⟩:=h5 k hk
    rw [e1] at f1 f2
    refine ⟨by rw [renL_eq,List.length_map] at f1;omega,fun j q hq=>?_⟩
    have:=f2 j _ (mem_renL hq)
    rw [den_ren hR q (okL_mem e2 hq),← h4]
    exact this
  ·simp only [List.mem_singleton] at hφ
   subst hφ
   exact hE'
 have hargs:vs.map (SV.den E)=vs0.map (SV.den (E.via (idσ (toN tl)))):=by
  obtain ⟨rfl,hok⟩:=hvs
  have:∀ l:List SV,okVs (· < tl.length) l→(l.map (SV.ren (idσ (toN tl)))).map (SV.den E)=l.map (SV.den (E.via (idσ (toN tl)))):=by
   intro l
   induction l with
   | nil=>intro _;rfl
   | cons v l ih=>intro h;simp only [List.map_cons];rw [ih h.2,sv_ren (σ:=idσ (toN tl)) (E:=E) (E2:=E.via (idσ (toN tl))) (fun x _=>⟨rfl,rfl,rfl,rfl⟩) v h.1]
  exact this vs0 hok
 rw [hargs]
 refine (hc _ w hand).mono ?_
 rintro e w' ⟨v,rfl,hfr,hN⟩
 obtain ⟨N,hN1,hN2⟩:=hN S.nid hn0
 refine ⟨v,rfl,N,hN1,fun E2 hs2 hks hag=>?_⟩
 obtain ⟨h1,H',h2,h3,h4⟩:=hN2 (E2.via fun x=>if x.1<tl.length then idσ (toN tl) x else x) (fun x hx=>by
  have:=hks (idσ (toN tl) x) (toN_mem hx)
  simp only [Env.via,Same,if_pos hx]
  exact this) (fun x hx=>by
  have:=hag x hx
  have hx2:¬ x.1<tl.length:=Nat.not_lt_of_le (Nat.le_trans hn0 hx.1)
  simp only [Env.via,Same,if_neg hx2]
  exact this)
 have hR:∀ x:Nm,(x.1∈tl∨NewIds S.nid nx x.1)→SameR (idσ (backN tl 0)) (E2.via fun x=>if x.1<tl.length then idσ (toN tl) x else x) E2 x:=by
  intro x hx
  rcases hx with hx | hx
  ·obtain ⟨g1,g2⟩:=to_back hx
   have e:idσ (toN tl) (idσ (backN tl 0) x)=x:=Prod.ext g2 rfl
   simp only [SameR,Env.via,if_pos (show (idσ (backN tl 0) x).1<tl.length from g1),e,and_self]
  ·have e:idσ (backN tl 0) x=x:=Prod.ext (back_out fun q=>absurd (hlt _ q) (Nat.not_lt_of_le hx.1)) rfl
   rw [SameR,e]
   have hx2:¬ x.1<tl.length:=Nat.not_lt_of_le (Nat.le_trans hn0 hx.1)
   simp only [Env.via,if_neg hx2,and_self]
 have hat' : ∀ x c,atN eff' x=some c→(x.1∈tl∨NewIds S.nid nx x.1)∧∃ d,atN (eff S.nid) (idσ (backN tl 0) x)=some d∧BlkLe (fun i=>i∈tl∨NewIds S.nid nx i) (idσ (backN tl 0)) d c:=fun x c hx=>ownLe_at heff hx
 have hinj' : ∀ x y:Nm,(x.1∈tl∨NewIds S.nid nx x.1)→(y.1∈tl∨NewIds S.nid nx y.1)→idσ (backN tl 0) x=idσ (backN tl 0) y→x=y:=by
  intro x y hx hy e
  unfold idσ at e
  simp only [Prod.mk.injEq] at e
  have hb:∀ z:Nm,NewIds S.nid nx z.1→backN tl 0 z.1=z.1:=fun z hz=>back_out fun q=>absurd (hlt _ q) (Nat.not_lt_of_le hz.1)
  rcases hx with hx | hx <;> rcases hy with hy | hy
  ·have g1:=(to_back hx).2
   have g2:=(to_back hy).2
   rw [e.1,g2] at g1
   exact Prod.ext g1.symm e.2
  ·have g1:=(to_back hx).1
   rw [e.1,hb y hy] at g1
   exact absurd g1 (Nat.not_lt_of_le (Nat.le_trans hn0 hy.1))
  ·have g1:=(to_back hy).1
   rw [← e.1,hb x hx] at g1
   exact absurd g1 (Nat.not_lt_of_le (Nat.le_trans hn0 hx.1))
  ·rw [hb x hx,hb y hy] at e
   exact Prod.ext e.1 e.2
 refine ⟨by rw [h1,sv_ren hR u' hu.2,← hu.1],Fits.G ⟨fun H2 hH2=>?_,fun _ _ x A hA=>by simp [atN,look] at hA⟩⟩
 have hkey:∀ x c,atN own0 x=some c→(look eff' (idσ (toN tl) x).1).isSome=true:=fun x c hx=>by
  obtain ⟨F,hF,_⟩:=atN_some hx
  exact hk x.1 (look_keysL hF)
 have htk:∀ x c,atN own0 x=some c→∃ d,atN S.own (idσ (toN tl) x)=some d∧∀ n,H2 (idσ (toN tl) x) n≠none↔takes (E.via (idσ (toN tl))) x c n:=fun x c hx=>by
  obtain ⟨k0,d,g1,g3⟩:=hat x c hx
  obtain ⟨k1,k2⟩:=blkLe_plain g3 (hp x c hx)
  refine ⟨d,g1,fun n=>?_⟩
  rw [takes_iff k1 (hH2.den _ d g1),k2 E2 _ n,takes_via,takes_same (hks (idσ (toN tl) x) (toN_mem k0))]
 refine ⟨hfr.os,hfr.tape,hfr.output,hfr.size,fun n hn hfree=>hfr.keep n hn ?_,fun x=>H' (idσ (backN tl 0) x),fun x c hx=>?_,fun x y c d hx hy hne n=>?_,fun x c hx n o hn=>?_⟩
 ·rintro ⟨x,c,hx,ht⟩
  obtain ⟨d,g1,g2⟩:=htk x c hx
  exact (g2 n).2 ht (hfree _ d (hkey x c hx) g1)
 ·obtain ⟨g0,d,g1,g2⟩:=hat' x c hx
  exact blk_le hR g0 g2 (h2 _ d g1)
 ·obtain ⟨g0,d1,g1,_⟩:=hat' x c hx
  obtain ⟨k0,d2,k1,_⟩:=hat' y d hy
  exact h3 _ _ d1 d2 g1 k1 (fun e=>hne (hinj' x y g0 k0 e)) n
 ·obtain ⟨g0,d1,g1,_⟩:=hat' x c hx
  refine ⟨(h4 _ d1 g1 n o hn).1,(h4 _ d1 g1 n o hn).2.imp id ?_⟩
  rintro ⟨y,c,hy,ht⟩
  obtain ⟨d,g1,g2⟩:=htk y c hy
  exact ⟨_,d,hkey y c hy,g1,(g2 n).2 ht⟩
end Go.Proofs.Ytmcpdafmkkjlcaa.Z
namespace Go.Proofs.Ytmcpdafmkkjlcaa.Z
open Go Go.RowKit
def alC (b:Nat) (l:List Sp) (i:Nat):List SC:=[.sl (b+1,i,0) 1 0 (l.getD i sp0).s.words.length none,.sl (b+2,i,0) 4 0 (l.getD i sp0).s.regs.length none,.sl (b+3,i,0) 1 0 (l.getD i sp0).s.places.length none,.sl (b+4,i,0) 1 0 (l.getD i sp0).s.bufs.length none]
def alO (b:Nat) (l:List Sp):Own:=[(b,.one (.ar l.length 4 (alC b l) 32)),(b+1,.fam l.length (wlW l)),(b+2,.fam l.length (wlR l)),(b+3,.fam l.length (wlP l)),(b+4,.fam l.length (wlB (b+5) l)),(b+5,.fam2 l.length (wlN l) (wlF l))]
def fdC (a p t n:Nat):List SC:=[.sl (a,0,0) 4 0 n none,.sl (p,0,0) 1 0 n none,.sl (t,0,0) 3 0 n none]
def alA (l:List Sp) (ts:List Tn):Own:=[(3,.one (.bk [.xv (0,0,0),.xv (1,0,0)] 25)),(4,.one (.bk [.v (.slice none 0 0),.v (.slice none 0 0),.v (.slice none 0 0)] 105)),(5,.one (.bk (fdC 11 17 18 l.length) 105)),
 (17,.one (.ar l.length 1 (ats eI (l.map (·.frm)) 0) 3)),(18,.one (.ar l.length 3 (ats Tn.enc (l.map (·.tn)) tn0) 44)),(24,.one (.ar ts.length 3 (ats Tn.enc ts tn0) 44))]
def alT (T:Tr):Own:=(6,.one (trS 20 T)) :: trO 20 T
def alS (l:List Sp) (ts:List Tn) (T:Tr):Own:=alO 11 l++(alA l ts++alT T)
def alσ (n a w r p b f:Nat) (τ:Nat→Nat) (x:Nm):Nm :=
 if x.1=11 then (a,x.2) else if 12≤x.1∧x.1≤16 then
  (if x.2.1=n then (if x.1=12 then (w,0,0) else if x.1=13 then (r,0,0) else if x.1=14 then (p,0,0) else if x.1=15 then (b,0,0) else (f,x.2.2,0)) else x)
 else (τ x.1,x.2)
theorem trS_le {q:Nat→Prop} {σ:Nm→Nm} {own:Own} {T:Tr} (c d s s' : Nat) (hσs:σ (s',0,0)=(s,0,0)) (h0:σ (d,0,0)=(c,0,0)) (h1:σ (d+1,0,0)=(c+1,0,0)) (h2:σ (d+2,0,0)=(c+2,0,0)) (h3:∀ k,σ (d+3,k,0)=(c+3,k,0))
  (p0:q s') (p1:q d) (p2:q (d+1)) (p3:q (d+2)) (p4:q (d+3)) (hs:look own s=some (.one (trS c T))) (g0:look own c=some (.one (.ar T.keys.length 1 (trC (c+3) T.keys) 22))) (g1:look own (c+1)=some (.one (.ar T.left.length 1 (ats eI T.left 0) 3)))
  (g2:look own (c+2)=some (.one (.ar T.right.length 1 (ats eI T.right 0) 3))) (g3:look own (c+3)=some (.fam T.keys.length (trK T.keys))):OwnLe q σ own ((s',.one (trS d T)) :: trO d T):=by
 refine ⟨⟨p0,?_⟩,⟨p1,?_⟩,⟨p2,?_⟩,⟨p3,?_⟩,⟨p4,fun k hk=>?_⟩,trivial⟩
 ·rw [hσs];simp only [atN,hs,Fm.get,and_self,if_true]
  exact ⟨by simp only [SC.renL,SC.ren,h0,h1,h2],rfl,by simp [SC.okL,SC.okN,p1,p2,p3]⟩
 ·rw [h0];simp only [atN,g0,Fm.get,and_self,if_true]
  exact ⟨Nat.le_refl _,rfl,rfl,fun e he=>⟨by simp only [trC,SC.renL,SC.ren,h3],by simp [trC,SC.okL,SC.okN,p4]⟩⟩
 ·rw [h1];simp only [atN,g1,Fm.get,and_self,if_true];exact arLe_same
 ·rw [h2];simp only [atN,g2,Fm.get,and_self,if_true];exact arLe_same
 ·rw [h3];simp only [atN,g3,Fm.get,hk,and_self,if_true];exact arLe_same
theorem alO_same {q:Nat→Prop} {τ:Nat→Nat} {own:Own} {l:List Sp} (hp:∀ i,11≤i→i≤16→q i) (hτ:∀ i,11≤i→i≤16→τ i=i) (h11:look own 11=some (.one (.ar l.length 4 (alC 11 l) 32))) (h12:look own 12=some (.fam l.length (wlW l))) (h13:look own 13=some (.fam l.length (wlR l))) (h14:look own 14=some (.fam l.length (wlP l))) (h15:look own 15=some (.fam l.length (wlB 16 l))) (h16:look own 16=some (.fam2 l.length (wlN l) (wlF l))):OwnLe q (idσ τ) own (alO 11 l):=by
 have q11:=hτ 11 (by decide) (by decide);have q12:=hτ 12 (by decide) (by decide);have q13:=hτ 13 (by decide) (by decide);have q14:=hτ 14 (by decide) (by decide);have q15:=hτ 15 (by decide) (by decide);have q16:=hτ 16 (by decide) (by decide)
 have p11:=hp 11 (by decide) (by decide);have p12:=hp 12 (by decide) (by decide);have p13:=hp 13 (by decide) (by decide);have p14:=hp 14 (by decide) (by decide);have p15:=hp 15 (by decide) (by decide);have p16:=hp 16 (by decide) (by decide)
 refine ⟨⟨p11,?_⟩,⟨p12,fun k hk=>?_⟩,⟨p13,fun k hk=>?_⟩,⟨p14,fun k hk=>?_⟩,⟨p15,fun k hk=>?_⟩,⟨p16,fun k e hk he=>?_⟩,trivial⟩
 ·simp only [idσ,q11,atN,h11,Fm.get,and_self,if_true]
  exact ⟨Nat.le_refl _,rfl,rfl,fun e _=>⟨by simp only [alC,SC.renL,SC.ren,idσ,Nat.reduceAdd,q12,q13,q14,q15],by simp [alC,SC.okL,SC.okN,p12,p13,p14,p15]⟩⟩
 ·simp only [idσ,Nat.reduceAdd,q12,atN,h12,Fm.get,hk,and_self,if_true];exact arLe_same
 ·simp only [idσ,Nat.reduceAdd,q13,atN,h13,Fm.get,hk,and_self,if_true];exact arLe_same
 ·simp only [idσ,Nat.reduceAdd,q14,atN,h14,Fm.get,hk,and_self,if_true];exact arLe_same
 ·simp only [idσ,Nat.reduceAdd,q15,atN,h15,Fm.get,hk,and_self,if_true]
  exact ⟨Nat.le_refl _,rfl,rfl,fun e _=>⟨by simp only [SC.renL,SC.ren,idσ,Nat.reduceAdd,q16],by simp [SC.okL,SC.okN,p16]⟩⟩
 ·simp only [idσ,Nat.reduceAdd,q16,atN,h16,Fm.get,hk,he,and_self,if_true];exact arLe_same
theorem al_push {q:Nat→Prop} {l:List Sp} {x:Sp} {O:Own} {n a w r p b f:Nat} {τ:Nat→Nat} {at_:Nat→List SC} (hp:∀ i,11≤i→i≤16→q i) (hn:n=l.length)
  (ha:look O a=some (.one (.ar (n+1) 4 at_ 32))) (hat:∀ e,e<n→at_ e=alC 11 l e) (hat2:at_ n=[.sl (w,0,0) 1 0 x.s.words.length none,.sl (r,0,0) 4 0 x.s.regs.length none,.sl (p,0,0) 1 0 x.s.places.length none,.sl (b,0,0) 1 0 x.s.bufs.length none])
  (hw:look O w=some (.one (.ar x.s.words.length 1 (ats eI x.s.words 0) 3))) (hr:look O r=some (.one (.ar x.s.regs.length 4 (ats R4.enc x.s.regs r40) 68))) (hpl:look O p=some (.one (.ar x.s.places.length 1 (ats eI x.s.places 0) 3)))
  (hb:look O b=some (.one (.ar x.s.bufs.length 1 (bfC f x.s) 86))) (hf:look O f=some (.fam x.s.bufs.length (bfO x.s)))
  (hfam:0<n→look O 12=some (.fam n (wlW l))∧look O 13=some (.fam n (wlR l))∧look O 14=some (.fam n (wlP l))∧look O 15=some (.fam n (wlB 16 l))∧look O 16=some (.fam2 n (wlN l) (wlF l))) :
  OwnLe q (alσ n a w r p b f τ) O (alO 11 (l++[x])):=by
 have hle:(l++[x]).length=n+1:=by simp [hn]
 have g2:∀ k,k=n→(l++[x]).getD k sp0=x:=fun k hk=>getD_app2 (by omega)
 have g1:∀ k,k<n→(l++[x]).getD k sp0=l.getD k sp0:=fun k hk=>getD_app1 (by omega)
 have hcase:∀ k,k<(l++[x]).length→(k=n)∨(k<n∧¬ k=n):=fun k hk=>by omega
 have p11:=hp 11 (by decide) (by decide);have p12:=hp 12 (by decide) (by decide);have p13:=hp 13 (by decide) (by decide);have p14:=hp 14 (by decide) (by decide);have p15:=hp 15 (by decide) (by decide);have p16:=hp 16 (by decide) (by decide)
 have le12:(12≤12∧12≤16)∧(12≤13∧13≤16)∧(12≤14∧14≤16)∧(12≤15∧15≤16)∧(12≤16∧16≤16):=by decide
 have s11:∀ y,alσ n a w r p b f τ (11,y)=(a,y):=fun y=>rfl
 have t12:∀ e,alσ n a w r p b f τ (12,n,e)=(w,0,0):=fun e=>by simp [alσ]
 have t13:∀ e,alσ n a w r p b f τ (13,n,e)=(r,0,0):=fun e=>by simp [alσ]
 have t14:∀ e,alσ n a w r p b f τ (14,n,e)=(p,0,0):=fun e=>by simp [alσ]
 have t15:∀ e,alσ n a w r p b f τ (15,n,e)=(b,0,0):=fun e=>by simp [alσ]
 have t16:∀ e,alσ n a w r p b f τ (16,n,e)=(f,e,0):=fun e=>by simp [alσ]
 have u:∀ i k e,12≤i→i≤16→¬ k=n→alσ n a w r p b f τ (i,k,e)=(i,k,e):=fun i k e h1 h2 h3=>by
  have:¬ i=11:=by omega
  simp [alσ,this,h1,h2,h3]
 refine ⟨⟨p11,?_⟩,⟨p12,fun k hk=>?_⟩,⟨p13,fun k hk=>?_⟩,⟨p14,fun k hk=>?_⟩,⟨p15,fun k hk=>?_⟩,⟨p16,fun k e hk he=>?_⟩,trivial⟩
 ·rw [s11]
  simp only [atN,ha,Fm.get,and_self,if_true]
  refine ⟨by omega,rfl,rfl,fun e he=>⟨?_,by simp [alC,SC.okL,SC.okN,p12,p13,p14,p15]⟩⟩
  rcases hcase e he with rfl | ⟨h,hne⟩
  ·rw [hat2];simp only [alC,g2 e rfl,SC.renL,SC.ren,Nat.reduceAdd,t12,t13,t14,t15]
  ·rw [hat e h];simp only [alC,g1 e h,SC.renL,SC.ren,Nat.reduceAdd]
   rw [u 12 e 0 (by decide) (by decide) hne,u 13 e 0 (by decide) (by decide) hne,u 14 e 0 (by decide) (by decide) hne,u 15 e 0 (by decide) (by decide) hne]
 ·rcases hcase k hk with rfl | ⟨h,hne⟩
  ·simp only [Nat.reduceAdd,t12,atN,hw,Fm.get,and_self,if_true,wlW,g2 k rfl];exact arLe_same
  ·rw [u _ _ _ (by decide) (by decide) hne];simp only [Nat.reduceAdd,atN,(hfam (by omega)).1,Fm.get,h,and_self,if_true,wlW,g1 k h];exact arLe_same
 ·rcases hcase k hk with rfl | ⟨h,hne⟩
  ·simp only [Nat.reduceAdd,t13,atN,hr,Fm.get,and_self,if_true,wlR,g2 k rfl];exact arLe_same
  ·rw [u _ _ _ (by decide) (by decide) hne];simp only [Nat.reduceAdd,atN,(hfam (by omega)).2.1,Fm.get,h,and_self,if_true,wlR,g1 k h];exact arLe_same
 ·rcases hcase k hk with rfl | ⟨h,hne⟩
  ·simp only [Nat.reduceAdd,t14,atN,hpl,Fm.get,and_self,if_true,wlP,g2 k rfl];exact arLe_same
  ·rw [u _ _ _ (by decide) (by decide) hne];simp only [Nat.reduceAdd,atN,(hfam (by omega)).2.2.1,Fm.get,h,and_self,if_true,wlP,g1 k h];exact arLe_same
 ·rcases hcase k hk with rfl | ⟨h,hne⟩
  ·simp only [Nat.reduceAdd,t15,atN,hb,Fm.get,and_self,if_true,wlB,g2 k rfl]
   exact ⟨Nat.le_refl _,rfl,rfl,fun e he=>⟨by simp only [bfC,SC.renL,SC.ren,t16],by simp [SC.okL,SC.okN,p16]⟩⟩
  ·rw [u _ _ _ (by decide) (by decide) hne];simp only [Nat.reduceAdd,atN,(hfam (by omega)).2.2.2.1,Fm.get,h,and_self,if_true,wlB,g1 k h]
   exact ⟨Nat.le_refl _,rfl,rfl,fun e he=>⟨by simp only [SC.renL,SC.ren];rw [u 16 k e (by decide) (by decide) hne],by simp [SC.okL,SC.okN,p16]⟩⟩
 ·rcases hcase k hk with rfl | ⟨h,hne⟩
  ·simp only [wlN,g2 k rfl] at he
   simp only [Nat.reduceAdd,t16,atN,hf,Fm.get,he,and_self,if_true,wlF,g2 k rfl,bfO];exact arLe_same
  ·simp only [wlN,g1 k h] at he
   rw [u _ _ _ (by decide) (by decide) hne];simp only [Nat.reduceAdd,atN,(hfam (by omega)).2.2.2.2,Fm.get,h,wlN,he,and_self,if_true,wlF,g1 k h];exact arLe_same
theorem alA_le {q:Nat→Prop} {σ:Nm→Nm} {own:Own} {l:List Sp} {ts:List Tn} (a c d:Nat) {m1 m2:Nat} {at1 at2:Nat→List SC} (hq:∀ i∈[0,1,3,4,5,11,17,18,24],q i) (s0:σ (0,0,0)=(0,0,0)) (s1:σ (1,0,0)=(1,0,0)) (s3:σ (3,0,0)=(3,0,0)) (s4:σ (4,0,0)=(4,0,0)) (s5:σ (5,0,0)=(5,0,0))
  (s11:σ (11,0,0)=(a,0,0)) (s17:σ (17,0,0)=(c,0,0)) (s18:σ (18,0,0)=(d,0,0)) (s24:σ (24,0,0)=(24,0,0)) (h3:look own 3=some (.one (.bk [.xv (0,0,0),.xv (1,0,0)] 25))) (h4:look own 4=some (.one (.bk [.v (.slice none 0 0),.v (.slice none 0 0),.v (.slice none 0 0)] 105)))
  (h5:look own 5=some (.one (.bk (fdC a c d l.length) 105))) (hc:look own c=some (.one (.ar m1 1 at1 3))) (hm1:l.length≤m1) (e1:∀ e,e<l.length→at1 e=ats eI (l.map (·.frm)) 0 e) (hd:look own d=some (.one (.ar m2 3 at2 44))) (hm2:l.length≤m2) (e2:∀ e,e<l.length→at2 e=ats Tn.enc (l.map (·.tn)) tn0 e)
  (h24:look own 24=some (.one (.ar ts.length 3 (ats Tn.enc ts tn0) 44))):OwnLe q σ own (alA l ts):=by
 have q0:=hq 0 (by simp);have q1:=hq 1 (by simp);have q3:=hq 3 (by simp);have q4:=hq 4 (by simp);have q5:=hq 5 (by simp);have q11:=hq 11 (by simp);have q17:=hq 17 (by simp);have q18:=hq 18 (by simp);have q24:=hq 24 (by simp)
 refine ⟨⟨q3,?_⟩,⟨q4,?_⟩,⟨q5,?_⟩,⟨q17,?_⟩,⟨q18,?_⟩,⟨q24,?_⟩,trivial⟩
 ·rw [s3];simp only [atN,h3,Fm.get,and_self,if_true];exact ⟨by simp only [SC.renL,SC.ren,s0,s1],rfl,by simp [SC.okL,SC.okN,q0,q1]⟩
 ·rw [s4];simp only [atN,h4,Fm.get,and_self,if_true];exact ⟨by simp only [SC.renL,SC.ren],rfl,by simp [SC.okL,SC.okN]⟩
 ·rw [s5];simp only [atN,h5,Fm.get,and_self,if_true];exact ⟨by simp only [fdC,SC.renL,SC.ren,s11,s17,s18],rfl,by simp [fdC,SC.okL,SC.okN,q11,q17,q18]⟩
 ·rw [s17];simp only [atN,hc,Fm.get,and_self,if_true];exact arLe_of hm1 e1
 ·rw [s18];simp only [atN,hd,Fm.get,and_self,if_true];exact arLe_of hm2 e2
 ·rw [s24];simp only [atN,h24,Fm.get,and_self,if_true];exact arLe_same
theorem injN_app {σ:Nm→Nm} {A B:Own} (hA:InjN σ A) (hB:InjN σ B) (hd:∀ x y c d,atN A x=some c→atN B y=some d→σ x≠σ y):InjN σ (A++B):=by
 have hs:∀ x c,atN (A++B) x=some c→atN A x=some c∨atN B x=some c:=fun x c h=>by
  obtain ⟨a,k⟩:=x
  simp only [atN,look_app] at h ⊢
  cases e:look A a with
  | some v=>rw [e] at h;exact Or.inl h
  | none=>rw [e] at h;exact Or.inr h
 intro x y c d hx hy e
 rcases hs x c hx with hx | hx <;> rcases hs y d hy with hy | hy
 ·exact hA x y c d hx hy e
 ·exact absurd e (hd x y c d hx hy)
 ·exact absurd e.symm (hd y x d c hy hx)
 ·exact hB x y c d hx hy e
theorem al_key {b:Nat} {l:List Sp} {x:Nm} {c:Blk} (h:atN (alO b l) x=some c):∃ c',atN (wlO b l) x=some c':=by
 obtain ⟨i,k,e⟩:=x
 simp only [atN,alO,wlO,look_cons] at h ⊢
 by_cases e0:b=i
 ·rw [if_pos e0] at h ⊢
  simp only [Fm.get] at h ⊢
  split at h
  ·next g=>rw [if_pos g];exact ⟨_,rfl⟩
  ·cases h
 ·rw [if_neg e0] at h ⊢;exact ⟨c,h⟩
theorem al_keys {b:Nat} {l:List Sp} {x:Nm} {c:Blk} (h:atN (alO b l) x=some c):b≤x.1∧x.1≤b+5:=by
 obtain ⟨F,hF,_⟩:=atN_some h
 have:=look_keysL hF
 simp [keysL,alO] at this
 omega
def fsh (l:List Nat) (i:Nat):Bool:=!(memB l i)
theorem al_inj {l:List Sp} {n a w r p b f:Nat} {τ:Nat→Nat} {B:Own} (hn:l.length=n+1) (hd:noDup [a,w,r,p,b,f]=true) (hno:n=0∨([a,w,r,p,b,f].all fun z=>Nat.blt z 12 || Nat.blt 16 z)=true) (hB:injL τ (keysL B)=true)
  (hk:((keysL B).all fun i=>(Nat.blt i 11 || Nat.blt 16 i) && (n == 0 || Nat.blt (τ i) 12 || Nat.blt 16 (τ i)) && fsh [a,w,r,p,b,f] (τ i))=true) (hm:([a,w,r,p,b,f].all fun z=>Nat.blt z 1000 && (Nat.blt z 3 || Nat.blt 3 z))=true):InjN (alσ n a w r p b f τ) (alO 11 l++B):=by
 have hmm:∀ z∈[a,w,r,p,b,f],z<1000∧z≠3:=fun z hz=>by
  have:=List.all_eq_true.1 hm z hz
  simp only [Bool.and_eq_true,Bool.or_eq_true,Nat.blt_eq] at this
  omega
 have hnn:n=0∨∀ z∈[a,w,r,p,b,f],z<12∨16<z:=hno.imp id fun h z hz=>by
  have:=List.all_eq_true.1 h z hz
  simpa only [Bool.or_eq_true,Nat.blt_eq] using this
 have hdd:[a,w,r,p,b,f].Nodup:=by
  have:∀ t:List Nat,noDup t=true→t.Nodup:=by
   intro t
   induction t with
   | nil=>intro _;exact List.nodup_nil
   | cons j t ih =>
    intro h
    simp only [noDup,Bool.and_eq_true,Bool.not_eq_true'] at h
    exact List.nodup_cons.2 ⟨fun q=>by rw [memB_iff.2 q] at h;exact absurd h.1 (by simp),ih h.2⟩
  exact this _ hd
 have hBk:∀ y d,atN B y=some d→(y.1<11∨16<y.1)∧(n=0∨τ y.1<12∨16<τ y.1)∧τ y.1 ∉ [a,w,r,p,b,f]:=fun y d hy=>by
  obtain ⟨F,hF,_⟩:=atN_some hy
  have:=List.all_eq_true.1 hk y.1 (look_keysL hF)
  simp only [Bool.and_eq_true,Bool.or_eq_true,Nat.blt_eq,fsh,Bool.not_eq_true',beq_iff_eq] at this
  refine ⟨this.1.1,?_,fun q=>by rw [memB_iff.2 q] at this;exact absurd this.2 (by simp)⟩
  rcases this.1.2 with (h | h) | h
  ·exact Or.inl h
  ·exact Or.inr (Or.inl h)
  ·exact Or.inr (Or.inr h)
 have hBσ:∀ y d,atN B y=some d→alσ n a w r p b f τ y=(τ y.1,y.2):=fun y d hy=>by
  have:=(hBk y d hy).1
  unfold alσ
  rw [if_neg (by omega),if_neg (by omega)]
 have hAσ:∀ x c,atN (alO 11 l) x=some c→alσ n a w r p b f τ x=wlσ n a w r p b f 1000 1001 x:=fun x c hx=>by
  have:=al_keys hx
  unfold alσ wlσ
  by_cases e:x.1=11
  ·rw [if_pos e,if_pos e]
  ·rw [if_neg e,if_neg e,if_pos (show 12≤x.1∧x.1≤16 by omega),if_neg (show ¬ x.1=17 by omega),if_neg (show ¬ x.1=18 by omega)]
   split
   ·split <;> try rfl
    split <;> try rfl
    split <;> try rfl
    split <;> try rfl
    rw [if_pos (by omega)]
   ·rfl
 refine injN_app ?_ ?_ ?_
 ·have hw:=wl_inj (l:=l) (ts:=[]) (n:=n) (a:=a) (w:=w) (r:=r) (p:=p) (b:=b) (f:=f) (m:=1000) (t:=1001) hn (List.nodup_cons.2 ⟨fun q=>by
   rcases List.mem_append.1 (show 3∈[a,w,r,p,b,f]++[1000,1001] from q) with q | q
   ·exact (hmm 3 q).2 rfl
   ·simp at q,(List.nodup_append.2 ⟨hdd,by decide,fun z hz y hy e=>by
   have:=(hmm z hz).1
   simp only [List.mem_cons,List.not_mem_nil,or_false] at hy
   omega⟩:([a,w,r,p,b,f]++[1000,1001]).Nodup)⟩) (hnn.imp id fun h z hz=>by
   rcases List.mem_append.1 (show z∈[a,w,r,p,b,f]++[1000,1001] from hz) with hz | hz
   ·exact h z hz
   ·simp only [List.mem_cons,List.not_mem_nil,or_false] at hz
    omega)
  intro x y c d hx hy e
  rw [hAσ x c hx,hAσ y d hy] at e
  obtain ⟨c',h1⟩:=al_key hx
  obtain ⟨d',h2⟩:=al_key hy
  have sub:∀ z c,atN (wlO 11 l) z=some c→∃ c',atN (wlS l []) z=some c':=fun z c hz=>by
   obtain ⟨i,k⟩:=z
   obtain ⟨F,hF,hg⟩:=atN_some hz
   have hkz:=look_keysL hF
   simp [keysL,wlO] at hkz
   refine ⟨c,?_⟩
   simp only [wlS,List.cons_append,atN,look_cons] at hz ⊢
   rw [if_neg (show ¬ 3=i by omega),look_app]
   have hF' : look (wlO 11 l) i=some F:=hF
   rw [hF']
   exact hg
  obtain ⟨c2,k1⟩:=sub x c' h1
  obtain ⟨d2,k2⟩:=sub y d' h2
  exact hw x y c2 d2 k1 k2 e
 ·intro x y c d hx hy e
  rw [hBσ x c hx,hBσ y d hy] at e
  obtain ⟨F,hF,_⟩:=atN_some hx
  obtain ⟨G,hG,_⟩:=atN_some hy
  simp only [Prod.mk.injEq] at e
  exact Prod.ext (injL_ok hB (look_keysL hF) (look_keysL hG) e.1) e.2
 ·intro x y c d hx hy e
  rw [hBσ y d hy] at e
  obtain ⟨h1,h2,h3⟩:=hBk y d hy
  have hkx:=al_keys hx
  have e1:(alσ n a w r p b f τ x).1=τ y.1:=congrArg Prod.fst e
  simp only [List.mem_cons,List.not_mem_nil,or_false,not_or] at h3
  unfold alσ at e1
  split at e1
  ·simp only at e1;omega
  ·next h11 =>
   rw [if_pos (by omega)] at e1
   split at e1
   ·split at e1
    ·simp only at e1;omega
    ·split at e1
     ·simp only at e1;omega
     ·split at e1
      ·simp only at e1;omega
      ·split at e1 <;> (simp only at e1;omega)
   ·next hne =>
    rcases h2 with h2 | h2
    ·obtain ⟨i,k,q⟩:=x
     have:k<l.length:=by
      obtain ⟨c',hx'⟩:=al_key hx
      simp only [atN,wlO,look_cons] at hx'
      simp only at h11 hkx
      rw [if_neg (by omega)] at hx'
      have hcs:i=12∨i=13∨i=14∨i=15∨i=16:=by omega
      rcases hcs with rfl | rfl | rfl | rfl | rfl <;> simp [look,Fm.get] at hx' <;> omega
     simp only at hne
     omega
    ·omega
theorem alS_le {q:Nat→Prop} {τ:Nat→Nat} {own:Own} {l:List Sp} {ts:List Tn} {T:Tr} (c:Nat) (hq:∀ i,i<25→q i) (hτ:∀ i,i<25→(i<20∨i=24)→τ i=i) (t0:τ 20=c) (t1:τ 21=c+1) (t2:τ 22=c+2) (t3:τ 23=c+3)
  (h3:look own 3=some (.one (.bk [.xv (0,0,0),.xv (1,0,0)] 25))) (h4:look own 4=some (.one (.bk [.v (.slice none 0 0),.v (.slice none 0 0),.v (.slice none 0 0)] 105))) (h5:look own 5=some (.one (.bk (fdC 11 17 18 l.length) 105)))
  (h11:look own 11=some (.one (.ar l.length 4 (alC 11 l) 32))) (h12:look own 12=some (.fam l.length (wlW l))) (h13:look own 13=some (.fam l.length (wlR l))) (h14:look own 14=some (.fam l.length (wlP l))) (h15:look own 15=some (.fam l.length (wlB 16 l))) (h16:look own 16=some (.fam2 l.length (wlN l) (wlF l)))
  (h17:look own 17=some (.one (.ar l.length 1 (ats eI (l.map (·.frm)) 0) 3))) (h18:look own 18=some (.one (.ar l.length 3 (ats Tn.enc (l.map (·.tn)) tn0) 44))) (h24:look own 24=some (.one (.ar ts.length 3 (ats Tn.enc ts tn0) 44)))
  (h6:look own 6=some (.one (trS c T))) (g0:look own c=some (.one (.ar T.keys.length 1 (trC (c+3) T.keys) 22))) (g1:look own (c+1)=some (.one (.ar T.left.length 1 (ats eI T.left 0) 3))) (g2:look own (c+2)=some (.one (.ar T.right.length 1 (ats eI T.right 0) 3))) (g3:look own (c+3)=some (.fam T.keys.length (trK T.keys))):OwnLe q (idσ τ) own (alS l ts T):=by
 have e:∀ i k,i<25→(i<20∨i=24)→idσ τ (i,k)=(i,k):=fun i k h1 h2=>by unfold idσ;rw [hτ i h1 h2]
 refine ownLe_app (alO_same (fun i _ h=>hq i (by omega)) (fun i _ h=>hτ i (by omega) (Or.inl (by omega))) h11 h12 h13 h14 h15 h16) (ownLe_app (alA_le 11 17 18 (fun i hi=>hq i (by simp at hi;omega)) (e _ _ (by decide) (by decide)) (e _ _ (by decide) (by decide)) (e _ _ (by decide) (by decide)) (e _ _ (by decide) (by decide)) (e _ _ (by decide) (by decide)) (e _ _ (by decide) (by decide)) (e _ _ (by decide) (by decide)) (e _ _ (by decide) (by decide)) (e _ _ (by decide) (by decide)) h3 h4 h5 h17 (Nat.le_refl _) (fun _ _=>rfl) h18 (Nat.le_refl _) (fun _ _=>rfl) h24) (trS_le c 20 6 6 (e _ _ (by decide) (by decide)) ?_ ?_ ?_ (fun k=>?_) (hq _ (by decide)) (hq _ (by decide)) (hq _ (by decide)) (hq _ (by decide)) (hq _ (by decide)) h6 g0 g1 g2 g3))
 ·unfold idσ;rw [t0]
 ·unfold idσ;rw [t1]
 ·unfold idσ;rw [t2]
 ·unfold idσ;rw [t3]
def fdT (l:List Sp) (b:Nat):SV:=.tup [(true,[.sl (b,0,0) 4 0 l.length none,.sl (b+6,0,0) 1 0 l.length none,.sl (b+7,0,0) 3 0 l.length none]),(false,[.v (.bool true)])]
def fdO (b:Nat) (l:List Sp):Own:=alO b l++[(b+6,.one (.ar l.length 1 (ats eI (l.map (·.frm)) 0) 3)),(b+7,.one (.ar l.length 3 (ats Tn.enc (l.map (·.tn)) tn0) 44))]
def AllR (L:Lt) (o:Int) (w:World) (e:Ending) (w' : World):Prop:=match bfs L o with
 | some l=>RetN w 8 (fdT l) (fun b=>fdO b l) e w'
 | none=>RetV w (.tuple #[.agg #[.slice none 0 0,.slice none 0 0,.slice none 0 0],.bool false]) e w'
def alTm (o:Int) (m i:Nat):List (Nat×SV):=[(1,.c (.v (.int .i64 o))),(2,.c (.ptr (3,0,0) 0)),(4,.c (.ptr (4,0,0) 0)),(6,.c (.ptr (5,0,0) 0)),(7,.c (.ptr (6,0,0) 0)),(9,.c (.sl (24,0,0) 3 0 m none)),(10,.c (.v (.int .i64 i)))]
theorem al_arrs {L:Lt} {n a w r p b f:Nat} {τ:Nat→Nat} {arrs:List (Nat×Fm ArrF)} (hτ:∀ i,i<3→τ i=i) (h0:look arrs 0=some (.one (arrOf eI 1 L.words 0))) (h1:look arrs 1=some (.one (nestF 2 L.thr.length))) (h2:look arrs 2=some (.fam L.thr.length fun k=>arrOf Ins.enc 7 (L.thr.getD k []) in0)):ArrsLe (· < 25) (alσ n a w r p b f τ) arrs (ltA 0 L):=by
 have lo:∀ x:Nm,x.1<3→alσ n a w r p b f τ x=x:=fun x hx=>by
  unfold alσ
  rw [if_neg (by omega),if_neg (by omega),hτ _ hx]
 refine ⟨⟨of_decide_eq_true rfl,?_⟩,⟨of_decide_eq_true rfl,?_⟩,⟨of_decide_eq_true rfl,fun k hk=>?_⟩,trivial⟩
 ·rw [lo _ (by decide)];simp only [atN,h0,Fm.get,and_self,if_true];exact arrLe_of
 ·rw [lo _ (by decide)];simp only [atN,Nat.zero_add,h1,Fm.get,and_self,if_true]
  exact ⟨rfl,rfl,fun e _=>⟨by simp only [nestF,SC.renL,SC.ren];rw [lo (2,e,0) (show (2:Nat)<3 by decide)],by simp [nestF,SC.okL,SC.okN]⟩,Nat.le_refl _⟩
 ·rw [lo _ (show (2:Nat)<3 by decide)];simp only [atN,Nat.zero_add,h2,Fm.get,hk,and_self,if_true];exact arrLe_of
end Go.Proofs.Ytmcpdafmkkjlcaa.Z
