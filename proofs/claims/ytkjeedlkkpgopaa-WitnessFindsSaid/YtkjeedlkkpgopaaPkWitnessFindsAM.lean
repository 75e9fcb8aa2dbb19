/- WitnessFindsSaid: what its proof is made of. No condition. -/
import Derived.Test.YtkjeedlkkpgopaaPkWitnessFindsAL
set_option linter.unusedSimpArgs false
set_option linter.unusedVariables false
namespace Go.Proofs.Ytkjeedlkkpgopaa.Z
open Go Go.RowKit
def ir57:IR:=(.seq (.ops [⟨(some 2),(.mv (.k (.c (.v (.slice none 0 0))))),none⟩]) (.kill [1,2,3,4,5,6,7,8,9,10,11] (.seq (.seq (.ops [⟨(some 8),(.mv (.t 0)),none⟩,⟨(some 9),(.len (.t 8)),none⟩,⟨(some 10),(.bin .lss (.t 9) (.k (.c (.v (.int .i64 2))))),none⟩]) (.kill [8,9] (.cond (.t 10) (.seq (.ops [⟨(some 11),(.mv (.t 0)),none⟩,⟨(some 2),(.mv (.t 11)),none⟩]) (.kill [0,10,11] .ret)) .skip))) (.kill [2,10] (.seq (.ops [⟨(some 12),(.mv (.t 0)),none⟩,⟨(some 13),(.mv (.t 0)),none⟩,⟨(some 14),(.len (.t 13)),none⟩,⟨(some 15),(.bin .quo (.t 14) (.k (.c (.v (.int .i64 2))))),none⟩,⟨(some 16),(.slc 2 (.t 12) none (some (.t 15)) none),none⟩,⟨(some 17),(.call 57 [(.t 16)]),none⟩,⟨(some 3),(.mv (.t 17)),none⟩]) (.kill [12,13,14,15,16,17] (.seq (.ops [⟨(some 18),(.mv (.t 0)),none⟩,⟨(some 19),(.mv (.t 0)),none⟩,⟨(some 20),(.len (.t 19)),none⟩,⟨(some 21),(.bin .quo (.t 20) (.k (.c (.v (.int .i64 2))))),none⟩,⟨(some 22),(.slc 2 (.t 18) (some (.t 21)) none none),none⟩,⟨(some 23),(.call 57 [(.t 22)]),none⟩,⟨(some 4),(.mv (.t 23)),none⟩]) (.kill [0,18,19,20,21,22,23] (.seq (.ops [⟨(some 5),(.mv (.k (.c (.v (.slice none 0 0))))),none⟩]) (.seq (.ops [⟨(some 6),(.mv (.k (.c (.v (.int .i64 0))))),none⟩]) (.seq (.ops [⟨(some 7),(.mv (.k (.c (.v (.int .i64 0))))),none⟩]) (.seq (.blk 0 (.loop (.seq (.seq (.ops [⟨(some 24),(.mv (.t 6)),none⟩,⟨(some 25),(.mv (.t 3)),none⟩,⟨(some 26),(.len (.t 25)),none⟩,⟨(some 27),(.bin .lss (.t 24) (.t 26)),none⟩,⟨(some 28),(.mv (.t 27)),none⟩,⟨(some 29),(.mv (.t 7)),(some (28,false))⟩,⟨(some 30),(.mv (.t 4)),(some (28,false))⟩,⟨(some 31),(.len (.t 30)),(some (28,false))⟩,⟨(some 32),(.bin .lss (.t 29) (.t 31)),(some (28,false))⟩,⟨(some 33),(.pick (.t 28) (.k (.c (.v (.bool true)))) (.t 32)),none⟩]) (.kill [24,25,26,27,28,29,30,31,32,34,35,36,37,38,39,40,41,42,43,44,45,46,47,48,49,50,51,52,53,54,55,56,57,58,59,60,61,62,63,64,65,66,67,68,69,70,71,72,73,74] (.cond (.t 33) .skip (.exit 0)))) (.kill [33] (.blk 1 (.seq (.draw [(⟨(some 34),(.mv (.t 7)),none⟩,([],[35,36])),(⟨(some 35),(.mv (.t 4)),none⟩,([0],[34])),(⟨(some 36),(.len (.t 35)),none⟩,([0],[34])),(⟨(some 37),(.bin .eql (.t 34) (.t 36)),none⟩,([],[])),(⟨(some 38),(.mv (.t 37)),none⟩,([],[])),(⟨(some 39),(.mv (.t 6)),(some (38,false))⟩,([],[40,41])),(⟨(some 40),(.mv (.t 3)),(some (38,false))⟩,([5],[39])),(⟨(some 41),(.len (.t 40)),(some (38,false))⟩,([5],[39])),(⟨(some 42),(.bin .lss (.t 39) (.t 41)),(some (38,false))⟩,([],[])),(⟨(some 43),(.mv (.t 42)),(some (38,false))⟩,([],[])),(⟨(some 44),(.mv (.t 3)),(some (43,true))⟩,([],[45,49,50,51,52,53])),(⟨(some 45),(.mv (.t 6)),(some (43,true))⟩,([10],[44,49,50,51,52,53])),(⟨(some 46),(.ia 2 (.t 44) (.t 45)),(some (43,true))⟩,([],[49,50,51,52,53])),(⟨(some 47),(.fa 0 (.t 46)),(some (43,true))⟩,([],[49,50,51,52,53])),(⟨(some 48),(.ld false 1 (.t 47)),(some (43,true))⟩,([],[49,50,51,52,53])),(⟨(some 49),(.mv (.t 4)),(some (43,true))⟩,([10,11,12,13,14],[44,45,46,47,48,50])),(⟨(some 50),(.mv (.t 7)),(some (43,true))⟩,([10,11,12,13,14,15],[44,45,46,47,48,49])),(⟨(some 51),(.ia 2 (.t 49) (.t 50)),(some (43,true))⟩,([10,11,12,13,14],[44,45,46,47,48])),(⟨(some 52),(.fa 0 (.t 51)),(some (43,true))⟩,([10,11,12,13,14],[44,45,46,47,48])),(⟨(some 53),(.ld false 1 (.t 52)),(some (43,true))⟩,([10,11,12,13,14],[44,45,46,47,48])),(⟨(some 54),(.bin .leq (.t 48) (.t 53)),(some (43,true))⟩,([],[])),(⟨(some 55),(.pick (.t 43) (.t 54) (.k (.c (.v (.bool false))))),(some (38,false))⟩,([],[])),(⟨(some 56),(.pick (.t 38) (.k (.c (.v (.bool true)))) (.t 55)),none⟩,([],[]))]) (.kill [34,35,36,37,38,39,40,41,42,43,44,45,46,47,48,49,50,51,52,53,54,55] (.cond (.t 56) (.seq (.ops [⟨(some 57),(.mv (.t 5)),none⟩,⟨(some 58),(.mv (.t 3)),none⟩,⟨(some 59),(.mv (.t 6)),none⟩,⟨(some 60),(.ia 2 (.t 58) (.t 59)),none⟩,⟨(some 61),(.ld true 2 (.t 60)),none⟩,⟨(some 62),(.mkSl 89 1 2 [(.v (.int .i64 0)),(.v (.int .i64 0))] [(0,(2,(.t 61)))]),none⟩,⟨(some 63),(.app 89 2 16 [(.v (.int .i64 0)),(.v (.int .i64 0))] (.t 57) (.t 62)),none⟩,⟨(some 5),(.mv (.t 63)),none⟩]) (.kill [56,57,58,59,60,61,62,63] (.ops [⟨(some 64),(.mv (.t 6)),none⟩,⟨(some 65),(.bin .add (.t 64) (.k (.c (.v (.int .i64 1))))),none⟩,⟨(some 6),(.mv (.t 65)),none⟩]))) (.seq (.ops [⟨(some 66),(.mv (.t 5)),none⟩,⟨(some 67),(.mv (.t 4)),none⟩,⟨(some 68),(.mv (.t 7)),none⟩,⟨(some 69),(.ia 2 (.t 67) (.t 68)),none⟩,⟨(some 70),(.ld true 2 (.t 69)),none⟩,⟨(some 71),(.mkSl 89 1 2 [(.v (.int .i64 0)),(.v (.int .i64 0))] [(0,(2,(.t 70)))]),none⟩,⟨(some 72),(.app 89 2 16 [(.v (.int .i64 0)),(.v (.int .i64 0))] (.t 66) (.t 71)),none⟩,⟨(some 5),(.mv (.t 72)),none⟩]) (.kill [56,66,67,68,69,70,71,72] (.ops [⟨(some 73),(.mv (.t 7)),none⟩,⟨(some 74),(.bin .add (.t 73) (.k (.c (.v (.int .i64 1))))),none⟩,⟨(some 7),(.mv (.t 74)),none⟩]))))))))))) (.kill [3,4,6,7,24,25,26,27,28,29,30,31,32,33,34,35,36,37,38,39,40,41,42,43,44,45,46,47,48,49,50,51,52,53,54,55,56,57,58,59,60,61,62,63,64,65,66,67,68,69,70,71,72,73,74] (.seq (.ops [⟨(some 75),(.mv (.t 5)),none⟩,⟨(some 2),(.mv (.t 75)),none⟩]) (.kill [5,75] .ret)))))))))))))))
def rs57:List RS:=[(.t 2)]
def nt57:Nat:=76
abbrev Mk:=Int×Int
def mkE (m:Mk):List Value:=[iv m.1,iv m.2]
theorem mkE_ok:EncT mkE 2:=⟨fun _=>rfl,fun x u hu=>by simp [mkE,iv] at hu;rcases hu with rfl | rfl <;> rfl⟩
def mk0:Mk:=(0,0)
def leM (a b:Mk):Bool:=decide (a.1≤b.1)
def srt:Nat→List Mk→List Mk
 | 0,l=>l
 | n+1,l=>if l.length<2 then l else List.merge (srt n (l.take (l.length / 2))) (srt n (l.drop (l.length / 2))) leM
theorem srt_perm:∀ (n:Nat) (l:List Mk),(srt n l).Perm l
 | 0,l=>.refl _
 | n+1,l=>by
  simp only [srt]
  split
  ·exact .refl _
  ·refine (List.merge_perm_append _).trans ?_
   refine ((srt_perm n _).append (srt_perm n _)).trans ?_
   rw [List.take_append_drop]
theorem srt_len (n:Nat) (l:List Mk):(srt n l).length=l.length:=(srt_perm n l).length_eq
theorem srt_sorted:∀ (n:Nat) (l:List Mk),l.length≤n→(srt n l).Pairwise fun a b=>leM a b=true
 | 0,l,h=>by
  have:l=[]:=List.eq_nil_of_length_eq_zero (by omega)
  subst this
  exact .nil
 | n+1,l,h=>by
  simp only [srt]
  split
  ·next h2 =>
   match l,h2 with
   | [],_=>exact .nil
   | [x],_=>simp
  ·next h2 =>
   refine List.pairwise_merge (fun a b c h1 h2=>?_) (fun a b=>?_) _ _ (srt_sorted n _ (by simp;omega)) (srt_sorted n _ (by simp;omega))
   ·simp only [leM,decide_eq_true_eq] at *;omega
   ·simp only [leM,Bool.or_eq_true,decide_eq_true_eq];omega
theorem quo2 {n:Nat} (h:n≤9223372036854775807):IntKind.i64.wrap ((n:Int).tdiv 2)=((n / 2:Nat):Int):=by
 rw [IntWalk.i64_quo (n:Int) 2 ⟨by omega,by omega,by omega⟩]
 omega
theorem lt0 {n:Nat}:∀ i∈[0],i<n+1:=fun i hi=>by simp only [List.mem_singleton] at hi;omega
theorem le_trans {C:Ctx} {S S' S'' : St} (h:Le C S S') (h' : Le C S' S''):Le C S S'':=fun E a w hs=>by
 obtain ⟨E',hs'⟩:=h E a w hs
 exact h' E' a w hs'
theorem merge_l {A B:List Mk} {i k:Nat} (hi:i<A.length) (hk:k<B.length→leM (A.getD i mk0) (B.getD k mk0)=true):List.merge (A.drop i) (B.drop k) leM=A.getD i mk0 :: List.merge (A.drop (i+1)) (B.drop k) leM:=by
 rw [List.drop_eq_getElem_cons hi]
 have ha:A.getD i mk0=A[i]:=by simp [List.getD_eq_getElem?_getD,List.getElem?_eq_getElem hi]
 rw [ha] at hk ⊢
 rcases Nat.lt_or_ge k B.length with h | h
 ·rw [List.drop_eq_getElem_cons h]
  have hb:B.getD k mk0=B[k]:=by simp [List.getD_eq_getElem?_getD,List.getElem?_eq_getElem h]
  have:=hk h
  rw [hb] at this
  rw [List.cons_merge_cons,if_pos this]
 ·rw [List.drop_eq_nil_of_le h,List.merge_right,List.merge_right]
theorem merge_r {A B:List Mk} {i k:Nat} (hk:k<B.length) (hi:i<A.length→leM (A.getD i mk0) (B.getD k mk0)=false):List.merge (A.drop i) (B.drop k) leM=B.getD k mk0 :: List.merge (A.drop i) (B.drop (k+1)) leM:=by
 rw [List.drop_eq_getElem_cons hk]
 have hb:B.getD k mk0=B[k]:=by simp [List.getD_eq_getElem?_getD,List.getElem?_eq_getElem hk]
 rw [hb] at hi ⊢
 rcases Nat.lt_or_ge i A.length with h | h
 ·rw [List.drop_eq_getElem_cons h]
  have ha:A.getD i mk0=A[i]:=by simp [List.getD_eq_getElem?_getD,List.getElem?_eq_getElem h]
  have:=hi h
  rw [ha] at this
  rw [List.cons_merge_cons,if_neg (by rw [this];simp)]
 ·rw [List.drop_eq_nil_of_le h,List.nil_merge,List.nil_merge]
theorem ats_snoc {α:Type} {enc:α→List Value} {xs:List α} {d x:α} {f g:Nat→List SC} (hf:∀ e,e<xs.length→f e=ats enc xs d e) (hg:g 0=(enc x).map .v) {e:Nat} (he:e<xs.length+1):appAt xs.length f g e=ats enc (xs++[x]) d e:=by
 unfold appAt
 by_cases h:e<xs.length
 ·rw [if_pos h,hf e h]
  simp [ats,List.getD_eq_getElem?_getD,List.getElem?_append_left h]
 ·have:e=xs.length:=by omega
  subst this
  rw [if_neg h,Nat.sub_self,hg]
  simp [ats]
theorem ats_snoc' {α:Type} {enc:α→List Value} {xs:List α} {d x:α} {n:Nat} {f g:Nat→List SC} (hn:n=xs.length) (hf:∀ e,e<xs.length→f e=ats enc xs d e) (hg:g 0=(enc x).map .v):∀ e,e<(xs++[x]).length→appAt n f g e=ats enc (xs++[x]) d e:=fun e he=>by
 subst hn
 exact ats_snoc hf hg (by simpa using he)
structure Mrg (A B:List Mk) where
 i:Nat
 k:Nat
 out:List Mk
 hi:i≤A.length
 hk:k≤B.length
 len:out.length=i+k
 eq:out++List.merge (A.drop i) (B.drop k) leM=List.merge A B leM
set_option maxRecDepth 100000 in
set_option maxHeartbeats 400000 in
theorem sorted_calls:∀ (n:Nat) (w:World) (v:Value) (xs:List Mk),xs.length≤n+1→xs.length * 16≤140737488355328→Arr w mkE 2 v xs→Calls Try.prog 57 #[v] w (RetA w (fun w''=>Arr w'' mkE 2 v xs) mkE 2 (srt (n+1) xs)):=by
 intro n
 induction n using Nat.strongRecOn with
 | ind n ih0 =>
 intro w v xs hl hsz h
 refine calls_sym (c:=ir57) (C:=mkC Try.prog [] w rs57 (RetA w (fun w''=>Arr w'' mkE 2 v xs) mkE 2 (srt (n+1) xs))) 1000 [.c (.xv (0,0,0))] 
  (E1 v) [] [(0,.one (arrOf mkE 2 xs mk0))] [fun E _=>E.χ (0,0,0)=v] 1 nt57 _ (mkTab_ok _ _) Try.func57 rfl (by kernel_rfl) (by kernel_rfl) rfl rfl rfl (E1_one (arr_one h))
  (fun E' hE'=>?_) (of_decide_eq_true rfl) (fun E' hE'=>inOk_arrsF (fun w' hw' x A hA=>?_) (fun w' φ hφ=>?_)) ?_
 ·have e0:=(hE' (0,0,0) (by decide)).2.2.2
  simp [SV.den,SC.den,e0,E1]
 ·have e0:=(hE' (0,0,0) (by decide)).2.2.2
  rcases atN_one hA with ⟨rfl,rfl⟩ | hA
  ·exact arr1 mkE_ok e0 h hw'
  exact (atN_nil hA).elim
 ·simp only [List.mem_singleton] at hφ
  subst hφ
  exact (hE' (0,0,0) (by decide)).2.2.2
 have hlen:=Z.Arr.lenM h
 simp only [maxLen] at hlen
 simp only [ir57,nt57,rs57,go_sem,↓reduceIte,Nat.reduceLT,Nat.reduceLeDiff,Nat.reduceAdd,Nat.reduceSub,Nat.reduceMul,Nat.reduceEqDiff,reduceCtorEq,Int.reduceToNat,Int.reduceEq,Int.reduceBEq,Int.reduceBNe,Int.reduceLT,Int.reduceLE,Int.reduceNeg,Int.reduceAdd,Int.reduceSub,Int.reduceMul,Int.reduceGE,Int.reduceGT,Cl.enc,iv,endO,dr_cons]
 refine both (fun hlt=>?_) (fun hge=>?_)
 ·rw [decide_eq_true_eq] at hlt
  have h2:srt (n+1) xs=xs:=by simp only [srt];rw [if_pos (by omega)]
  rw [h2]
  exact retA_arg (v0:=v) (List.mem_singleton.2 rfl) fun w'' h=>h
 ·rw [decide_eq_false_iff_not] at hge
  rw [quo2 (by omega)]
  simp only [Int.toNat_natCast,Nat.sub_zero]
  refine ⟨by decide,⟨by omega,by omega,Or.inr trivial⟩,?_⟩
  generalize hh:xs.length / 2=hf
  have ih:=ih0 (n - 1) (by omega)
  rw [show n - 1+1=n by omega] at ih
  have hhf:hf<xs.length∧0<hf∧2 * hf≤xs.length∧xs.length≤2 * hf+1:=by omega
  have lA:(xs.take hf).length=hf:=by simp;omega
  have lB:(xs.drop hf).length=xs.length - hf:=by simp
  refine callA (enc:=mkE) (s:=2) (xs:=xs.take hf) (ys:=srt n (xs.take hf)) (d:=mk0) mkE_ok (.xs (0,0,0) 2 0 hf none) [0] lt0 (fun E E2 hE=>?_) (fun E w'' hh=>?_) (fun w v hv=>ih w v _ (by omega) (by omega) hv) ?_
  ·simp only [SC.den,(hE (0,0,0) (by simp)).2.2.2]
  ·have:=arr_xs (o:=0) (n:=hf) (hh.1 (0,0,0) _ rfl) (by omega)
   simpa using this
  simp only [go_sem,↓reduceIte,Nat.reduceLT,Nat.reduceLeDiff,Nat.reduceAdd,Nat.reduceSub,Nat.reduceMul,Nat.reduceEqDiff,reduceCtorEq,Int.reduceToNat,Int.reduceEq,Int.reduceBEq,Int.reduceBNe,Int.reduceLT,Int.reduceLE,Int.reduceNeg,Int.reduceAdd,Int.reduceSub,Int.reduceMul,Int.reduceGE,Int.reduceGT,Cl.enc,iv,endO,dr_cons]
  rw [quo2 (by omega),hh]
  simp only [Int.toNat_natCast,Nat.sub_zero]
  refine ⟨by decide,⟨by omega,by omega,by omega,Or.inl (by omega)⟩,?_⟩
  refine callA (enc:=mkE) (s:=2) (xs:=xs.drop hf) (ys:=srt n (xs.drop hf)) (d:=mk0) mkE_ok (.xs (0,0,0) 2 hf (xs.length - hf) none) [0] lt0 (fun E E2 hE=>?_) (fun E w'' hh=>?_) (fun w v hv=>ih w v _ (by omega) (by omega) hv) ?_
  ·simp only [SC.den,(hE (0,0,0) (by simp)).2.2.2]
  ·have:=arr_xs (o:=hf) (n:=xs.length - hf) (hh.1 (0,0,0) _ rfl) (by omega)
   rwa [List.take_of_length_le (by simp)] at this
  simp only [go_sem,↓reduceIte,Nat.reduceLT,Nat.reduceLeDiff,Nat.reduceAdd,Nat.reduceSub,Nat.reduceMul,Nat.reduceEqDiff,reduceCtorEq,Int.reduceToNat,Int.reduceEq,Int.reduceBEq,Int.reduceBNe,Int.reduceLT,Int.reduceLE,Int.reduceNeg,Int.reduceAdd,Int.reduceSub,Int.reduceMul,Int.reduceGE,Int.reduceGT,Cl.enc,iv,endO,dr_cons]
  have hres:srt (n+1) xs=List.merge (srt n (xs.take hf)) (srt n (xs.drop hf)) leM:=by
   simp only [srt]
   rw [if_neg (by omega),hh]
  have lA2:(srt n (xs.take hf)).length=hf:=by rw [srt_len,lA]
  have lB2:(srt n (xs.drop hf)).length=xs.length - hf:=by rw [srt_len,lB]
  rw [hres]
  generalize srt n (xs.take hf)=A at lA2
  generalize srt n (xs.drop hf)=B at lB2
  refine loopI (ι:=Mrg A B) (fun m=>⟨76,[(3,.c (.xv (1,0,0))),(4,.c (.xv (2,0,0))),(5,.c (.sl (3,0,0) 2 0 m.out.length none)),(6,.c (.v (.int .i64 (m.i:Nat)))),(7,.c (.v (.int .i64 (m.k:Nat))))],[(3,.one (.ar m.out.length 2 (ats mkE m.out mk0) 89))],[(1,.one (arrOf mkE 2 A mk0)),(2,.one (arrOf mkE 2 B mk0))],[],4⟩)
   (fun m=>A.length+B.length - m.i - m.k) ⟨0,0,[],by omega,by omega,rfl,rfl⟩ ?_ ?_
  ·refine le_trans (le_nilown (tmps':=[(3,.c (.xv (1,0,0))),(4,.c (.xv (2,0,0))),(5,.c (.sl (3,0,0) 2 0 0 none)),(6,.c (.v (.int .i64 0))),(7,.c (.v (.int .i64 0)))]) 2 89 (ats mkE [] mk0) (by simp [TmpsNil,look]) rfl) (le_ren id rfl rfl (by simp [TmpsLe,look,SV.ren,SC.ren,idσ,SV.okN,SC.okN]) ⟨⟨show (3:Nat)<4 from by decide,arLe_of (Nat.le_refl _) fun e he=>rfl⟩,trivial⟩ ⟨⟨show (1:Nat)<4 from by decide,arrLe_of⟩,⟨show (2:Nat)<4 from by decide,arrLe_of⟩,trivial⟩ rfl)
  rintro ⟨i,k,out,hi,hk,hol,heq⟩
  simp only [go_sem,↓reduceIte,Nat.reduceLT,Nat.reduceLeDiff,Nat.reduceAdd,Nat.reduceSub,Nat.reduceMul,Nat.reduceEqDiff,reduceCtorEq,Int.reduceToNat,Int.reduceEq,Int.reduceBEq,Int.reduceBNe,Int.reduceLT,Int.reduceLE,Int.reduceNeg,Int.reduceAdd,Int.reduceSub,Int.reduceMul,Int.reduceGE,Int.reduceGT,Cl.enc,iv,endO,dr_cons,mkE]
  have hab:A.length+B.length=xs.length:=by omega
  refine both (fun hlp=>?_) (fun hend=>?_)
  ·refine draw_vc (by kernel_rfl) (mkTab_ok _ _) (of_decide_eq_true rfl) (of_decide_eq_true rfl) ?_
   simp only [go_sem,↓reduceIte,Nat.reduceLT,Nat.reduceLeDiff,Nat.reduceAdd,Nat.reduceSub,Nat.reduceMul,Nat.reduceEqDiff,reduceCtorEq,Int.reduceToNat,Int.reduceEq,Int.reduceBEq,Int.reduceBNe,Int.reduceLT,Int.reduceLE,Int.reduceNeg,Int.reduceAdd,Int.reduceSub,Int.reduceMul,Int.reduceGE,Int.reduceGT,Cl.enc,iv,endO,dr_cons,mkE]
   simp only [b_decR,b_decL,bt_ite,bf_ite,bt_dec,bf_dec,bt_int,bf_int,bt_nint,bf_nint,bt_bool,bf_bool,bt_nbool,bf_nbool,bt_not,bf_not,bt_and,bf_and,bt_or,bf_or,Bool.false_eq_true,Bool.true_eq_false,Bool.not_eq_true,Bool.not_eq_false,reduceCtorEq,false_iff,true_iff,iff_false,iff_true,and_true,true_and,and_false,false_and,or_true,true_or,or_false,false_or,not_true_eq_false,not_false_eq_true,ne_eq] at hlp
   have hin:(!(k:Int) == (B.length:Int) && decide (i<A.length))=true→i<A.length∧k<B.length:=fun h=>by
    simp only [b_decR,b_decL,bt_ite,bf_ite,bt_dec,bf_dec,bt_int,bf_int,bt_nint,bf_nint,bt_bool,bf_bool,bt_nbool,bf_nbool,bt_not,bf_not,bt_and,bf_and,bt_or,bf_or,Bool.false_eq_true,Bool.true_eq_false,Bool.not_eq_true,Bool.not_eq_false,reduceCtorEq,false_iff,true_iff,iff_false,iff_true,and_true,true_and,and_false,false_and,or_true,true_or,or_false,false_or,not_true_eq_false,not_false_eq_true,ne_eq] at h
    omega
   refine ⟨fun h=>(hin h).1,fun h=>(hin h).1,fun h=>(hin h).1,fun h=>(hin h).2,fun h=>(hin h).2,fun h=>(hin h).2,fun hc=>?_,fun hc=>?_⟩
   ·simp only [b_decR,b_decL,bt_ite,bf_ite,bt_dec,bf_dec,bt_int,bf_int,bt_nint,bf_nint,bt_bool,bf_bool,bt_nbool,bf_nbool,bt_not,bf_not,bt_and,bf_and,bt_or,bf_or,Bool.false_eq_true,Bool.true_eq_false,Bool.not_eq_true,Bool.not_eq_false,reduceCtorEq,false_iff,true_iff,iff_false,iff_true,and_true,true_and,and_false,false_and,or_true,true_or,or_false,false_or,not_true_eq_false,not_false_eq_true,ne_eq] at hc
    have hiA:i<A.length:=by omega
    refine ⟨hiA,hiA,by decide,⟨Nat.le_refl _,by omega,by simp only [maxLen];omega⟩,?_⟩
    rw [wr_succ (by omega)]
    refine backI ⟨i+1,k,out++[A.getD i mk0],by omega,by omega,by simp;omega,by rw [← heq,merge_l hiA (fun h=>by simp only [leM,decide_eq_true_eq];omega),List.append_assoc];rfl⟩ (by simp only;omega)
     (le_ren (fun i=>if i=3 then 5 else i) rfl rfl (by simp [TmpsLe,look,SV.ren,SC.ren,idσ,SV.okN,SC.okN]) ⟨⟨show (3:Nat)<4 from by decide,arLe_of (by simp) fun e he=>ats_snoc (fun e he=>rfl) rfl (by simpa using he)⟩,trivial⟩ ⟨⟨show (1:Nat)<4 from by decide,arrLe_of⟩,⟨show (2:Nat)<4 from by decide,arrLe_of⟩,trivial⟩ rfl)
   ·simp only [b_decR,b_decL,bt_ite,bf_ite,bt_dec,bf_dec,bt_int,bf_int,bt_nint,bf_nint,bt_bool,bf_bool,bt_nbool,bf_nbool,bt_not,bf_not,bt_and,bf_and,bt_or,bf_or,Bool.false_eq_true,Bool.true_eq_false,Bool.not_eq_true,Bool.not_eq_false,reduceCtorEq,false_iff,true_iff,iff_false,iff_true,and_true,true_and,and_false,false_and,or_true,true_or,or_false,false_or,not_true_eq_false,not_false_eq_true,ne_eq] at hc
    have hkB:k<B.length:=by omega
    refine ⟨hkB,hkB,by decide,⟨Nat.le_refl _,by omega,by simp only [maxLen];omega⟩,?_⟩
    rw [wr_succ (by omega)]
    refine backI ⟨i,k+1,out++[B.getD k mk0],by omega,by omega,by simp;omega,by rw [← heq,merge_r hkB (fun h=>by simp only [leM,decide_eq_false_iff_not];omega),List.append_assoc];rfl⟩ (by simp only;omega)
     (le_ren (fun i=>if i=3 then 5 else i) rfl rfl (by simp [TmpsLe,look,SV.ren,SC.ren,idσ,SV.okN,SC.okN]) ⟨⟨show (3:Nat)<4 from by decide,arLe_of (by simp) fun e he=>ats_snoc (fun e he=>rfl) rfl (by simpa using he)⟩,trivial⟩ ⟨⟨show (1:Nat)<4 from by decide,arrLe_of⟩,⟨show (2:Nat)<4 from by decide,arrLe_of⟩,trivial⟩ rfl)
  ·simp only [b_decR,b_decL,bt_ite,bf_ite,bt_dec,bf_dec,bt_int,bf_int,bt_nint,bf_nint,bt_bool,bf_bool,bt_nbool,bf_nbool,bt_not,bf_not,bt_and,bf_and,bt_or,bf_or,Bool.false_eq_true,Bool.true_eq_false,Bool.not_eq_true,Bool.not_eq_false,reduceCtorEq,false_iff,true_iff,iff_false,iff_true,and_true,true_and,and_false,false_and,or_true,true_or,or_false,false_or,not_true_eq_false,not_false_eq_true,ne_eq] at hend
   have e1:i=A.length:=by omega
   have e2:k=B.length:=by omega
   have hout:out=List.merge A B leM:=by
    rw [← heq,e1,e2,List.drop_length,List.drop_length,List.merge_right,List.append_nil]
   subst hout
   exact retA_own 3 _ _ _ rfl rfl (Nat.le_refl _) fun e he=>rfl
end Go.Proofs.Ytkjeedlkkpgopaa.Z
namespace Go.Proofs.Ytkjeedlkkpgopaa.Z
open Go Go.RowKit
def ir39:IR:=(.seq (.ops [⟨(some 2),(.mv (.k (.c (.v (.bool false))))),none⟩]) (.kill [1,2,3,4,5,6,7,8,9,10,11] (.seq (.ops [⟨(some 3),(.mv (.k (.c (.v (.slice none 0 0))))),none⟩]) (.seq (.seq (.ops [⟨(some 4),(.mv (.k (.c (.v (.int .i64 0))))),none⟩]) (.blk 0 (.loop (.seq (.seq (.ops [⟨(some 6),(.mv (.t 4)),none⟩,⟨(some 7),(.mv (.t 0)),none⟩,⟨(some 8),(.len (.t 7)),none⟩,⟨(some 9),(.bin .lss (.t 6) (.t 8)),none⟩]) (.kill [6,7,8,10,11,12,13,14,15,16,17,18,19,20,21,22,23,24,25,26,27,28,29,30,31,32,33,34,35,36,37,38,39,40,41,42,43,44,45,46,47,48,49,50,51,52,53] (.cond (.t 9) .skip (.exit 0)))) (.kill [9] (.seq (.blk 1 (.seq (.ops [⟨(some 12),(.mv (.t 3)),none⟩,⟨(some 13),(.mv (.t 0)),none⟩,⟨(some 14),(.mv (.t 4)),none⟩,⟨(some 15),(.ia 9 (.t 13) (.t 14)),none⟩,⟨(some 16),(.fa 4 (.t 15)),none⟩,⟨(some 17),(.ld false 1 (.t 16)),none⟩,⟨(some 18),(.mv (.t 4)),none⟩,⟨(some 19),(.build [(.v (.int .i64 0)),(.v (.int .i64 0))] [(0,(1,(.t 17))),(1,(1,(.t 18)))]),none⟩,⟨(some 20),(.mkSl 89 1 2 [(.v (.int .i64 0)),(.v (.int .i64 0))] [(0,(2,(.t 19)))]),none⟩,⟨(some 21),(.app 89 2 16 [(.v (.int .i64 0)),(.v (.int .i64 0))] (.t 12) (.t 20)),none⟩,⟨(some 3),(.mv (.t 21)),none⟩]) (.kill [12,13,14,15,16,17,18,19,20,21] (.seq (.seq (.ops [⟨(some 22),(.mv (.t 0)),none⟩,⟨(some 23),(.mv (.t 4)),none⟩,⟨(some 24),(.ia 9 (.t 22) (.t 23)),none⟩,⟨(some 25),(.fa 5 (.t 24)),none⟩,⟨(some 26),(.ld false 1 (.t 25)),none⟩,⟨(some 27),(.bin .neq (.t 26) (.k (.c (.v (.int .i64 (-1)))))),none⟩]) (.kill [22,23,24,25,26] (.cond (.t 27) (.ops [⟨(some 28),(.mv (.t 3)),none⟩,⟨(some 29),(.mv (.t 0)),none⟩,⟨(some 30),(.mv (.t 4)),none⟩,⟨(some 31),(.ia 9 (.t 29) (.t 30)),none⟩,⟨(some 32),(.fa 5 (.t 31)),none⟩,⟨(some 33),(.ld false 1 (.t 32)),none⟩,⟨(some 34),(.mv (.t 4)),none⟩,⟨(some 35),(.build [(.v (.int .i64 0)),(.v (.int .i64 0))] [(0,(1,(.t 33))),(1,(1,(.t 34)))]),none⟩,⟨(some 36),(.mkSl 89 1 2 [(.v (.int .i64 0)),(.v (.int .i64 0))] [(0,(2,(.t 35)))]),none⟩,⟨(some 37),(.app 89 2 16 [(.v (.int .i64 0)),(.v (.int .i64 0))] (.t 28) (.t 36)),none⟩,⟨(some 3),(.mv (.t 37)),none⟩]) .skip))) (.kill [27,28,29,30,31,32,33,34,35,36,37] (.seq (.ops [⟨(some 38),(.mv (.t 0)),none⟩,⟨(some 39),(.mv (.t 4)),none⟩,⟨(some 40),(.ia 9 (.t 38) (.t 39)),none⟩,⟨(some 41),(.fa 6 (.t 40)),none⟩,⟨(some 42),(.ld false 1 (.t 41)),none⟩,⟨(some 43),(.bin .neq (.t 42) (.k (.c (.v (.int .i64 (-1)))))),none⟩]) (.kill [38,39,40,41,42] (.cond (.t 43) (.ops [⟨(some 44),(.mv (.t 3)),none⟩,⟨(some 45),(.mv (.t 0)),none⟩,⟨(some 46),(.mv (.t 4)),none⟩,⟨(some 47),(.ia 9 (.t 45) (.t 46)),none⟩,⟨(some 48),(.fa 6 (.t 47)),none⟩,⟨(some 49),(.ld false 1 (.t 48)),none⟩,⟨(some 50),(.mv (.t 4)),none⟩,⟨(some 51),(.build [(.v (.int .i64 0)),(.v (.int .i64 0))] [(0,(1,(.t 49))),(1,(1,(.t 50)))]),none⟩,⟨(some 52),(.mkSl 89 1 2 [(.v (.int .i64 0)),(.v (.int .i64 0))] [(0,(2,(.t 51)))]),none⟩,⟨(some 53),(.app 89 2 16 [(.v (.int .i64 0)),(.v (.int .i64 0))] (.t 44) (.t 52)),none⟩,⟨(some 3),(.mv (.t 53)),none⟩]) .skip)))))))) (.kill [12,13,14,15,16,17,18,19,20,21,22,23,24,25,26,27,28,29,30,31,32,33,34,35,36,37,38,39,40,41,42,43,44,45,46,47,48,49,50,51,52,53] (.ops [⟨(some 10),(.mv (.t 4)),none⟩,⟨(some 11),(.bin .add (.t 10) (.k (.c (.v (.int .i64 1))))),none⟩,⟨(some 4),(.mv (.t 11)),none⟩])))))))) (.kill [0,4,6,7,8,9,10,11,12,13,14,15,16,17,18,19,20,21,22,23,24,25,26,27,28,29,30,31,32,33,34,35,36,37,38,39,40,41,42,43,44,45,46,47,48,49,50,51,52,53] (.seq (.ops [⟨(some 54),(.mv (.t 3)),none⟩,⟨(some 55),(.call 57 [(.t 54)]),none⟩,⟨(some 3),(.mv (.t 55)),none⟩]) (.kill [54,55] (.seq (.seq (.ops [⟨(some 5),(.mv (.k (.c (.v (.int .i64 1))))),none⟩]) (.blk 2 (.loop (.seq (.seq (.ops [⟨(some 56),(.mv (.t 5)),none⟩,⟨(some 57),(.mv (.t 3)),none⟩,⟨(some 58),(.len (.t 57)),none⟩,⟨(some 59),(.bin .lss (.t 56) (.t 58)),none⟩]) (.kill [2,56,57,58,60,61,62,63,64,65,66,67,68,69,70,71,72,73,74,75,76,77,78,79,80,81,82,83,84,85,86,87] (.cond (.t 59) .skip (.exit 2)))) (.kill [59] (.seq (.blk 3 (.seq (.draw [(⟨(some 62),(.mv (.t 3)),none⟩,([],[63,67,68,69,70,71,72])),(⟨(some 63),(.mv (.t 5)),none⟩,([0],[62,67,68,69,70,71,72])),(⟨(some 64),(.ia 2 (.t 62) (.t 63)),none⟩,([],[67,68,69,70,71,72])),(⟨(some 65),(.fa 0 (.t 64)),none⟩,([],[67,68,69,70,71,72])),(⟨(some 66),(.ld false 1 (.t 65)),none⟩,([],[67,68,69,70,71,72])),(⟨(some 67),(.mv (.t 3)),none⟩,([0,1,2,3,4],[62,63,64,65,66,68,69])),(⟨(some 68),(.mv (.t 5)),none⟩,([0,1,2,3,4,5],[62,63,64,65,66,67])),(⟨(some 69),(.bin .sub (.t 68) (.k (.c (.v (.int .i64 1))))),none⟩,([0,1,2,3,4,5],[62,63,64,65,66,67])),(⟨(some 70),(.ia 2 (.t 67) (.t 69)),none⟩,([0,1,2,3,4],[62,63,64,65,66])),(⟨(some 71),(.fa 0 (.t 70)),none⟩,([0,1,2,3,4],[62,63,64,65,66])),(⟨(some 72),(.ld false 1 (.t 71)),none⟩,([0,1,2,3,4],[62,63,64,65,66])),(⟨(some 73),(.bin .eql (.t 66) (.t 72)),none⟩,([],[])),(⟨(some 74),(.mv (.t 73)),none⟩,([],[])),(⟨(some 75),(.mv (.t 3)),(some (74,true))⟩,([],[76,80,81,82,83,84,85])),(⟨(some 76),(.mv (.t 5)),(some (74,true))⟩,([13],[75,80,81,82,83,84,85])),(⟨(some 77),(.ia 2 (.t 75) (.t 76)),(some (74,true))⟩,([],[80,81,82,83,84,85])),(⟨(some 78),(.fa 1 (.t 77)),(some (74,true))⟩,([],[80,81,82,83,84,85])),(⟨(some 79),(.ld false 1 (.t 78)),(some (74,true))⟩,([],[80,81,82,83,84,85])),(⟨(some 80),(.mv (.t 3)),(some (74,true))⟩,([13,14,15,16,17],[75,76,77,78,79,81,82])),(⟨(some 81),(.mv (.t 5)),(some (74,true))⟩,([13,14,15,16,17,18],[75,76,77,78,79,80])),(⟨(some 82),(.bin .sub (.t 81) (.k (.c (.v (.int .i64 1))))),(some (74,true))⟩,([13,14,15,16,17,18],[75,76,77,78,79,80])),(⟨(some 83),(.ia 2 (.t 80) (.t 82)),(some (74,true))⟩,([13,14,15,16,17],[75,76,77,78,79])),(⟨(some 84),(.fa 1 (.t 83)),(some (74,true))⟩,([13,14,15,16,17],[75,76,77,78,79])),(⟨(some 85),(.ld false 1 (.t 84)),(some (74,true))⟩,([13,14,15,16,17],[75,76,77,78,79])),(⟨(some 86),(.bin .neq (.t 79) (.t 85)),(some (74,true))⟩,([],[])),(⟨(some 87),(.pick (.t 74) (.t 86) (.k (.c (.v (.bool false))))),none⟩,([],[]))]) (.kill [62,63,64,65,66,67,68,69,70,71,72,73,74,75,76,77,78,79,80,81,82,83,84,85,86] (.cond (.t 87) (.seq (.ops [⟨(some 2),(.mv (.k (.c (.v (.bool false))))),none⟩]) (.kill [3,5,87] .ret)) .skip)))) (.kill [2,62,63,64,65,66,67,68,69,70,71,72,73,74,75,76,77,78,79,80,81,82,83,84,85,86,87] (.ops [⟨(some 60),(.mv (.t 5)),none⟩,⟨(some 61),(.bin .add (.t 60) (.k (.c (.v (.int .i64 1))))),none⟩,⟨(some 5),(.mv (.t 61)),none⟩])))))))) (.kill [2,3,5,56,57,58,59,60,61,62,63,64,65,66,67,68,69,70,71,72,73,74,75,76,77,78,79,80,81,82,83,84,85,86,87] (.seq (.ops [⟨(some 2),(.mv (.k (.c (.v (.bool true))))),none⟩]) .ret))))))))))
def rs39:List RS:=[(.t 2)]
def nt39:Nat:=88
def addM (l:List Mk) (t:Int) (i:Nat):List Mk:=if t = -1 then l else l++[(t,(i:Int))]
def marks (xs:List Cl):Nat→List Mk
 | 0=>[]
 | i+1=>addM (addM (marks xs i++[((xs.getD i cl0).beg,(i:Int))]) (xs.getD i cl0).fin i) (xs.getD i cl0).point i
theorem addM_len (l:List Mk) (t:Int) (i:Nat):(addM l t i).length≤l.length+1:=by unfold addM;split <;> simp
theorem marks_len (xs:List Cl):∀ i,(marks xs i).length≤3 * i
 | 0=>by simp [marks]
 | i+1=>by
  have h1:=marks_len xs i
  have h2:=addM_len (addM (marks xs i++[((xs.getD i cl0).beg,(i:Int))]) (xs.getD i cl0).fin i) (xs.getD i cl0).point i
  have h3:=addM_len (marks xs i++[((xs.getD i cl0).beg,(i:Int))]) (xs.getD i cl0).fin i
  simp only [marks]
  simp only [List.length_append,List.length_cons,List.length_nil] at h3
  omega
theorem mem_addM {l:List Mk} {t:Int} {i:Nat} {m:Mk}:m∈addM l t i↔m∈l∨(t≠-1∧m=(t,(i:Int))):=by
 unfold addM
 split
 ·next h=>simp [h]
 ·next h=>simp [h]
theorem mem_marks {xs:List Cl} (hb:∀ k,k<xs.length→(xs.getD k cl0).beg≠-1):∀ {i:Nat},i≤xs.length→∀ {m:Mk},m∈marks xs i↔∃ j:Nat,j<i∧m.2=j∧m.1∈(xs.getD j cl0).moves∧m.1≠-1
 | 0,_,m=>by simp [marks]
 | i+1,hi,m=>by
  simp only [marks,mem_addM,List.mem_append,List.mem_singleton,mem_marks hb (Nat.le_of_succ_le hi)]
  have hbi:=hb i (by omega)
  constructor
  ·rintro (((⟨j,h1,h2⟩ | rfl) | ⟨h,rfl⟩) | ⟨h,rfl⟩)
   ·exact ⟨j,by omega,h2⟩
   ·exact ⟨i,by omega,rfl,by simp [Cl.moves],hbi⟩
   ·exact ⟨i,by omega,rfl,by simp [Cl.moves],h⟩
   ·exact ⟨i,by omega,rfl,by simp [Cl.moves],h⟩
  ·rintro ⟨j,h1,h2,h3,h4⟩
   by_cases hji:j=i
   ·subst hji
    obtain ⟨a,b⟩:=m
    simp only at h2 h3 h4
    subst h2
    simp only [Cl.moves,List.mem_cons,List.not_mem_nil,or_false] at h3
    rcases h3 with rfl | rfl | rfl
    ·exact Or.inl (Or.inl (Or.inr rfl))
    ·exact Or.inl (Or.inr ⟨h4,rfl⟩)
    ·exact Or.inr ⟨h4,rfl⟩
   ·exact Or.inl (Or.inl (Or.inl ⟨j,by omega,h2,h3,h4⟩))
def clash (ys:List Mk) (p:Nat):Prop:=(ys.getD p mk0).1=(ys.getD (p - 1) mk0).1∧(ys.getD p mk0).2≠(ys.getD (p - 1) mk0).2
theorem chain_eq {ys:List Mk} (hs:ys.Pairwise fun a b=>leM a b=true) (hc:∀ p,1≤p→p<ys.length→¬ clash ys p):∀ (q p:Nat),p≤q→q<ys.length→(ys.getD p mk0).1=(ys.getD q mk0).1→(ys.getD p mk0).2=(ys.getD q mk0).2
 | 0,p,hp,hq,h=>by
  have:p=0:=by omega
  subst this;rfl
 | q+1,p,hp,hq,h=>by
  by_cases e:p=q+1
  ·subst e;rfl
  ·have le:∀ a b,a<b→b<ys.length→(ys.getD a mk0).1≤(ys.getD b mk0).1:=fun a b hab hb=>by
    have:=List.pairwise_iff_getElem.1 hs a b (by omega) hb hab
    simp only [leM,decide_eq_true_eq] at this
    simpa [List.getD_eq_getElem?_getD,List.getElem?_eq_getElem hb,List.getElem?_eq_getElem (show a<ys.length by omega)] using this
   have h1:(ys.getD p mk0).1≤(ys.getD q mk0).1:=by
    by_cases e2:p=q
    ·subst e2;exact Int.le_refl _
    ·exact le p q (by omega) (by omega)
   have h2:=le q (q+1) (by omega) hq
   have h3:(ys.getD p mk0).1=(ys.getD q mk0).1:=by omega
   rw [chain_eq hs hc q p (by omega) (by omega) h3]
   have:=hc (q+1) (by omega) hq
   simp only [clash,Nat.add_sub_cancel,not_and,Decidable.not_not] at this
   exact (this (by omega)).symm
theorem clash_bad {xs:List Cl} (hb:∀ k,k<xs.length→(xs.getD k cl0).beg≠-1) {ys:List Mk} (hp:ys.Perm (marks xs xs.length)) {p:Nat} (h1:1≤p) (h2:p<ys.length) (h:clash ys p):¬ InvB xs xs.length:=by
 have mem:∀ q,q<ys.length→ys.getD q mk0∈marks xs xs.length:=fun q hq=>by
  refine hp.mem_iff.1 ?_
  rw [List.getD_eq_getElem?_getD,List.getElem?_eq_getElem hq]
  exact List.getElem_mem hq
 obtain ⟨j,g1,g2,g3,g4⟩:=(mem_marks hb (Nat.le_refl _)).1 (mem p h2)
 obtain ⟨k,f1,f2,f3,f4⟩:=(mem_marks hb (Nat.le_refl _)).1 (mem (p - 1) (by omega))
 obtain ⟨e1,e2⟩:=h
 rw [← e1] at f3
 intro hB
 rcases Nat.lt_trichotomy j k with hjk | hjk | hjk
 ·exact hB j k hjk f1 _ g4 g3 f3
 ·exact e2 (by rw [g2,f2,hjk])
 ·exact hB k j hjk g1 _ g4 f3 g3
theorem clash_good {xs:List Cl} (hb:∀ k,k<xs.length→(xs.getD k cl0).beg≠-1) {ys:List Mk} (hp:ys.Perm (marks xs xs.length)) (hs:ys.Pairwise fun a b=>leM a b=true) (h:∀ p,1≤p→p<ys.length→¬ clash ys p):InvB xs xs.length:=by
 intro j k hj hk t ht h1 h2
 have m1:=hp.mem_iff.2 ((mem_marks hb (Nat.le_refl _) (m:=(t,(j:Int)))).2 ⟨j,by omega,rfl,h1,ht⟩)
 have m2:=hp.mem_iff.2 ((mem_marks hb (Nat.le_refl _) (m:=(t,(k:Int)))).2 ⟨k,by omega,rfl,h2,ht⟩)
 obtain ⟨p,p1,p2⟩:=List.mem_iff_getElem.1 m1
 obtain ⟨q,q1,q2⟩:=List.mem_iff_getElem.1 m2
 have ep:ys.getD p mk0=(t,(j:Int)):=by rw [List.getD_eq_getElem?_getD,List.getElem?_eq_getElem p1,p2];rfl
 have eq:ys.getD q mk0=(t,(k:Int)):=by rw [List.getD_eq_getElem?_getD,List.getElem?_eq_getElem q1,q2];rfl
 rcases Nat.le_total p q with hpq | hpq
 ·have:=chain_eq hs h q p hpq q1 (by rw [ep,eq])
  rw [ep,eq] at this
  simp only at this
  omega
 ·have:=chain_eq hs h p q hpq p1 (by rw [ep,eq])
  rw [ep,eq] at this
  simp only at this
  omega
set_option maxRecDepth 100000 in
set_option maxHeartbeats 400000 in
theorem apart_calls (w:World) (v:Value) (xs:List Cl) (b:Bool) (hbt:InvB xs xs.length→b=true) (hbf:¬ InvB xs xs.length→b=false) (hbe:∀ k,k<xs.length→(xs.getD k cl0).beg≠-1) (hsz:xs.length * 72≤140737488355328) (h:Arr w Cl.enc 9 v xs):Calls Try.prog 39 #[v] w (RetV w (.bool b)):=by
 refine calls_sym (c:=ir39) (C:=mkC Try.prog [] w rs39 (RetV w (.bool b))) 1000 [.c (.xv (0,0,0))] 
  (E1 v) [] [(0,.one (arrOf Cl.enc 9 xs cl0))] [] 1 nt39 _ (mkTab_ok _ _) Try.func39 rfl (by kernel_rfl) (by kernel_rfl) rfl rfl rfl (E1_one (arr_one h))
  (fun E' hE'=>?_) (of_decide_eq_true rfl) (fun E' hE'=>inOk_arrs fun w' hw' x A hA=>?_) ?_
 ·have e0:=(hE' (0,0,0) (by decide)).2.2.2
  simp [SV.den,SC.den,e0,E1]
 ·have e0:=(hE' (0,0,0) (by decide)).2.2.2
  rcases atN_one hA with ⟨rfl,rfl⟩ | hA
  ·exact arr1 cl_ok e0 h hw'
  exact (atN_nil hA).elim
 simp only [ir39,nt39,rs39,go_sem,↓reduceIte,Nat.reduceLT,Nat.reduceLeDiff,Nat.reduceAdd,Nat.reduceSub,Nat.reduceMul,Nat.reduceEqDiff,reduceCtorEq,Int.reduceToNat,Int.reduceEq,Int.reduceBEq,Int.reduceBNe,Int.reduceLT,Int.reduceLE,Int.reduceNeg,Int.reduceAdd,Int.reduceSub,Int.reduceMul,Int.reduceGE,Int.reduceGT,Cl.enc,iv,endO,dr_cons]
 refine loopI (ι:={ i:Nat // i≤xs.length }) (fun i=>⟨88,[(0,.c (.xv (0,0,0))),(3,.c (.sl (1,0,0) 2 0 (marks xs i.1).length none)),(4,.c (.v (.int .i64 (i.1:Nat))))],[(1,.one (.ar (marks xs i.1).length 2 (ats mkE (marks xs i.1) mk0) 89))],[(0,.one (arrOf Cl.enc 9 xs cl0))],[],2⟩)
  (fun i=>xs.length - i.1) ⟨0,by omega⟩ ?_ ?_
 ·refine le_nilown (tmps':=[(0,.c (.xv (0,0,0))),(3,.c (.sl (1,0,0) 2 0 0 none)),(4,.c (.v (.int .i64 0)))]) 2 89 (ats mkE [] mk0) (by simp [TmpsNil,look]) rfl
 rintro ⟨i,hi⟩
 simp only [go_sem,↓reduceIte,Nat.reduceLT,Nat.reduceLeDiff,Nat.reduceAdd,Nat.reduceSub,Nat.reduceMul,Nat.reduceEqDiff,reduceCtorEq,Int.reduceToNat,Int.reduceEq,Int.reduceBEq,Int.reduceBNe,Int.reduceLT,Int.reduceLE,Int.reduceNeg,Int.reduceAdd,Int.reduceSub,Int.reduceMul,Int.reduceGE,Int.reduceGT,Cl.enc,iv,endO,dr_cons,mkE]
 refine both (fun hlt=>?_) (fun hge=>?_)
 ·rw [decide_eq_true_eq] at hlt
  have hml:=marks_len xs i
  have hmx:maxLen=9223372036854775807:=by decide
  refine ⟨hlt,hlt,hlt,by decide,⟨Nat.le_refl _,by omega,by omega⟩,hlt,hlt,hlt,fun hf=>?_,fun hf=>?_⟩
  ·refine ⟨hlt,hlt,hlt,by decide,⟨Nat.le_refl _,by omega,by omega⟩,hlt,hlt,hlt,fun hp=>?_,fun hp=>?_⟩
   ·have hm:marks xs (i+1)=marks xs i++[((xs.getD i cl0).beg,(i:Int))]++[((xs.getD i cl0).fin,(i:Int))]++[((xs.getD i cl0).point,(i:Int))]:=by
     simp only [b_decR,b_decL,bt_ite,bf_ite,bt_dec,bf_dec,bt_int,bf_int,bt_nint,bf_nint,bt_bool,bf_bool,bt_nbool,bf_nbool,bt_not,bf_not,bt_and,bf_and,bt_or,bf_or,Bool.false_eq_true,Bool.true_eq_false,Bool.not_eq_true,Bool.not_eq_false,reduceCtorEq,false_iff,true_iff,iff_false,iff_true,and_true,true_and,and_false,false_and,or_true,true_or,or_false,false_or,not_true_eq_false,not_false_eq_true,ne_eq] at hf hp
     simp only [marks,addM]
     simp only [hf,hp,if_true,if_false,↓reduceIte,not_true_eq_false]
    refine ⟨hlt,hlt,hlt,by decide,⟨Nat.le_refl _,by omega,by omega⟩,?_⟩
    refine backI ⟨i+1,by omega⟩ (by simp only;omega) ?_
    rw [wr_succ (by omega)]
    simp only [hm]
    exact le_ren (fun i=>if i=1 then 7 else i) rfl rfl (by simp [TmpsLe,look,SV.ren,SC.ren,idσ,SV.okN,SC.okN]) ⟨⟨show (1:Nat)<2 from by decide,arLe_of (by simp) (ats_snoc' (by simp) (ats_snoc' (by simp) (ats_snoc' rfl (fun e he=>rfl) rfl) rfl) rfl)⟩,trivial⟩ ⟨⟨show (0:Nat)<2 from by decide,arrLe_of⟩,trivial⟩ rfl
   ·have hm:marks xs (i+1)=marks xs i++[((xs.getD i cl0).beg,(i:Int))]++[((xs.getD i cl0).fin,(i:Int))]:=by
     simp only [b_decR,b_decL,bt_ite,bf_ite,bt_dec,bf_dec,bt_int,bf_int,bt_nint,bf_nint,bt_bool,bf_bool,bt_nbool,bf_nbool,bt_not,bf_not,bt_and,bf_and,bt_or,bf_or,Bool.false_eq_true,Bool.true_eq_false,Bool.not_eq_true,Bool.not_eq_false,reduceCtorEq,false_iff,true_iff,iff_false,iff_true,and_true,true_and,and_false,false_and,or_true,true_or,or_false,false_or,not_true_eq_false,not_false_eq_true,ne_eq] at hf hp
     simp only [marks,addM]
     simp only [hf,hp,if_true,if_false,↓reduceIte,not_true_eq_false]
    refine backI ⟨i+1,by omega⟩ (by simp only;omega) ?_
    rw [wr_succ (by omega)]
    simp only [hm]
    exact le_ren (fun i=>if i=1 then 5 else i) rfl rfl (by simp [TmpsLe,look,SV.ren,SC.ren,idσ,SV.okN,SC.okN]) ⟨⟨show (1:Nat)<2 from by decide,arLe_of (by simp) (ats_snoc' (by simp) (ats_snoc' rfl (fun e he=>rfl) rfl) rfl)⟩,trivial⟩ ⟨⟨show (0:Nat)<2 from by decide,arrLe_of⟩,trivial⟩ rfl
  ·refine ⟨hlt,hlt,hlt,fun hp=>?_,fun hp=>?_⟩
   ·have hm:marks xs (i+1)=marks xs i++[((xs.getD i cl0).beg,(i:Int))]++[((xs.getD i cl0).point,(i:Int))]:=by
     simp only [b_decR,b_decL,bt_ite,bf_ite,bt_dec,bf_dec,bt_int,bf_int,bt_nint,bf_nint,bt_bool,bf_bool,bt_nbool,bf_nbool,bt_not,bf_not,bt_and,bf_and,bt_or,bf_or,Bool.false_eq_true,Bool.true_eq_false,Bool.not_eq_true,Bool.not_eq_false,reduceCtorEq,false_iff,true_iff,iff_false,iff_true,and_true,true_and,and_false,false_and,or_true,true_or,or_false,false_or,not_true_eq_false,not_false_eq_true,ne_eq] at hf hp
     simp only [marks,addM]
     simp only [hf,hp,if_true,if_false,↓reduceIte,not_true_eq_false]
    refine ⟨hlt,hlt,hlt,by decide,⟨Nat.le_refl _,by omega,by omega⟩,?_⟩
    refine backI ⟨i+1,by omega⟩ (by simp only;omega) ?_
    rw [wr_succ (by omega)]
    simp only [hm]
    exact le_ren (fun i=>if i=1 then 5 else i) rfl rfl (by simp [TmpsLe,look,SV.ren,SC.ren,idσ,SV.okN,SC.okN]) ⟨⟨show (1:Nat)<2 from by decide,arLe_of (by simp) (ats_snoc' (by simp) (ats_snoc' rfl (fun e he=>rfl) rfl) rfl)⟩,trivial⟩ ⟨⟨show (0:Nat)<2 from by decide,arrLe_of⟩,trivial⟩ rfl
   ·have hm:marks xs (i+1)=marks xs i++[((xs.getD i cl0).beg,(i:Int))]:=by
     simp only [b_decR,b_decL,bt_ite,bf_ite,bt_dec,bf_dec,bt_int,bf_int,bt_nint,bf_nint,bt_bool,bf_bool,bt_nbool,bf_nbool,bt_not,bf_not,bt_and,bf_and,bt_or,bf_or,Bool.false_eq_true,Bool.true_eq_false,Bool.not_eq_true,Bool.not_eq_false,reduceCtorEq,false_iff,true_iff,iff_false,iff_true,and_true,true_and,and_false,false_and,or_true,true_or,or_false,false_or,not_true_eq_false,not_false_eq_true,ne_eq] at hf hp
     simp only [marks,addM]
     simp only [hf,hp,if_true,if_false,↓reduceIte,not_true_eq_false]
    refine backI ⟨i+1,by omega⟩ (by simp only;omega) ?_
    rw [wr_succ (by omega)]
    simp only [hm]
    exact le_ren (fun i=>if i=1 then 3 else i) rfl rfl (by simp [TmpsLe,look,SV.ren,SC.ren,idσ,SV.okN,SC.okN]) ⟨⟨show (1:Nat)<2 from by decide,arLe_of (by simp) (ats_snoc' rfl (fun e he=>rfl) rfl)⟩,trivial⟩ ⟨⟨show (0:Nat)<2 from by decide,arrLe_of⟩,trivial⟩ rfl
 ·rw [decide_eq_false_iff_not] at hge
  have hin:i=xs.length:=by omega
  subst hin
  have hml:=marks_len xs xs.length
  refine call_freeze [] 1 (marks xs xs.length).length 2 (marks xs xs.length).length 89 (ats mkE (marks xs xs.length) mk0) _ [.c (.xv (2,0,0))] rfl (Nat.le_refl _) (by decide) trivial (fun E E' hE hx=>by simp only [List.map_cons,List.map_nil,den_c,SC.den,hx]) ?_
  have hperm:=srt_perm ((marks xs xs.length).length+1) (marks xs xs.length)
  have hsort:=srt_sorted ((marks xs xs.length).length+1) (marks xs xs.length) (by omega)
  have hmx:maxLen=9223372036854775807:=by decide
  refine callA (enc:=mkE) (s:=2) (xs:=marks xs xs.length) (ys:=srt ((marks xs xs.length).length+1) (marks xs xs.length)) (d:=mk0) mkE_ok (.xv (2,0,0)) [2] (fun i hi=>by simp only [List.mem_singleton] at hi;subst hi;exact Nat.lt_succ_self _) (fun E E2 hE=>?_) (fun E w'' hh=>?_) (fun w v hv=>sorted_calls _ w v _ (by omega) (by omega) hv) ?_
  ·simp only [SC.den,(hE (2,0,0) (by simp)).2.2.2]
  ·exact arr_of (d:=mk0) (hh.1 (2,0,0) _ rfl)
  have hyl:(srt ((marks xs xs.length).length+1) (marks xs xs.length)).length≤3 * xs.length:=by rw [srt_len];exact hml
  generalize srt ((marks xs xs.length).length+1) (marks xs xs.length)=ys at hperm hsort hyl
  simp only [go_sem,↓reduceIte,Nat.reduceLT,Nat.reduceLeDiff,Nat.reduceAdd,Nat.reduceSub,Nat.reduceMul,Nat.reduceEqDiff,reduceCtorEq,Int.reduceToNat,Int.reduceEq,Int.reduceBEq,Int.reduceBNe,Int.reduceLT,Int.reduceLE,Int.reduceNeg,Int.reduceAdd,Int.reduceSub,Int.reduceMul,Int.reduceGE,Int.reduceGT,Cl.enc,iv,endO,dr_cons]
  refine loopI (ι:={ p:Nat // 1≤p∧(∀ q,1≤q→q<p→q<ys.length→¬ clash ys q)∧p≤ys.length+1 }) (fun p=>⟨88,[(3,.c (.xv (3,0,0))),(5,.c (.v (.int .i64 (p.1:Nat))))],[],[(3,.one (arrOf mkE 2 ys mk0))],[],4⟩)
   (fun p=>ys.length+1 - p.1) ⟨1,Nat.le_refl _,fun q h1 h2=>by omega,by omega⟩ ?_ ?_
  ·exact le_ren id rfl rfl (by simp [TmpsLe,look,SV.ren,SC.ren,idσ,SV.okN,SC.okN]) trivial ⟨⟨show (3:Nat)<4 from by decide,arrLe_of⟩,trivial⟩ rfl
  rintro ⟨p,hp1,hcl,hpl⟩
  simp only [go_sem,↓reduceIte,Nat.reduceLT,Nat.reduceLeDiff,Nat.reduceAdd,Nat.reduceSub,Nat.reduceMul,Nat.reduceEqDiff,reduceCtorEq,Int.reduceToNat,Int.reduceEq,Int.reduceBEq,Int.reduceBNe,Int.reduceLT,Int.reduceLE,Int.reduceNeg,Int.reduceAdd,Int.reduceSub,Int.reduceMul,Int.reduceGE,Int.reduceGT,Cl.enc,iv,endO,dr_cons,mkE]
  refine both (fun hlt=>?_) (fun hge=>?_)
  ·rw [decide_eq_true_eq] at hlt
   refine draw_vc (by kernel_rfl) (mkTab_ok _ _) (of_decide_eq_true rfl) (of_decide_eq_true rfl) ?_
   simp only [go_sem,↓reduceIte,Nat.reduceLT,Nat.reduceLeDiff,Nat.reduceAdd,Nat.reduceSub,Nat.reduceMul,Nat.reduceEqDiff,reduceCtorEq,Int.reduceToNat,Int.reduceEq,Int.reduceBEq,Int.reduceBNe,Int.reduceLT,Int.reduceLE,Int.reduceNeg,Int.reduceAdd,Int.reduceSub,Int.reduceMul,Int.reduceGE,Int.reduceGT,Cl.enc,iv,endO,dr_cons,mkE]
   have hw:IntKind.i64.wrap ((p:Int) - 1)=((p - 1:Nat):Int):=by rw [wr64 (by omega) (by omega)];omega
   rw [hw]
   simp only [Int.toNat_natCast]
   have hc:((if ((ys.getD p mk0).fst == (ys.getD (p - 1) mk0).fst)=true then (ys.getD p mk0).snd != (ys.getD (p - 1) mk0).snd else false)=true)=clash ys p:=by
    simp only [clash,b_decR,b_decL,bt_ite,bf_ite,bt_dec,bf_dec,bt_int,bf_int,bt_nint,bf_nint,bt_bool,bf_bool,bt_nbool,bf_nbool,bt_not,bf_not,bt_and,bf_and,bt_or,bf_or,Bool.false_eq_true,Bool.true_eq_false,Bool.not_eq_true,Bool.not_eq_false,reduceCtorEq,false_iff,true_iff,iff_false,iff_true,and_true,true_and,and_false,false_and,or_true,true_or,or_false,false_or,not_true_eq_false,not_false_eq_true,ne_eq]
   have hc' : ((if ((ys.getD p mk0).fst == (ys.getD (p - 1) mk0).fst)=true then (ys.getD p mk0).snd != (ys.getD (p - 1) mk0).snd else false)=false) = ¬ clash ys p:=by
    rw [← hc];simp
   rw [hc,hc']
   have hp2:p - 1<ys.length:=by omega
   refine ⟨hlt,hlt,hlt,⟨by omega,by omega⟩,hp2,hp2,fun _=>hlt,fun _=>hlt,fun _=>hlt,fun _=>⟨by omega,by omega⟩,fun _=>hp2,fun _=>hp2,fun h=>?_,fun h=>?_⟩
   ·exact retV fun E=>by rw [den_c,den_v,hbf (clash_bad hbe hperm hp1 hlt h)]
   ·rw [wr_succ (by omega)]
    refine backI ⟨p+1,by omega,fun q h1 h2 h3=>?_,by omega⟩ (by simp only;omega) (le_tmps (by simp [TmpsSub,look]))
    by_cases hqp:q=p
    ·subst hqp;exact h
    ·exact hcl q h1 (by omega) h3
  ·rw [decide_eq_false_iff_not] at hge
   exact retV fun E=>by rw [den_c,den_v,hbt (clash_good hbe hperm hsort fun q h1 h2=>hcl q h1 (by omega) h2)]
end Go.Proofs.Ytkjeedlkkpgopaa.Z
namespace Go.Proofs.Ytkjeedlkkpgopaa.Z
open Go Go.RowKit
def ir16:IR:=(.seq (.ops [⟨(some 2),(.mv (.k (.c (.v (.bool false))))),none⟩]) (.kill [1,2,3,4,5,6,7,8,9,10,11] (.seq (.ops [⟨(some 7),(.mks 3 1 8 [(.v (.int .i64 0))] (.k (.c (.v (.int .i64 16)))) (.k (.c (.v (.int .i64 16))))),none⟩,⟨(some 3),(.mv (.t 7)),none⟩]) (.kill [7] (.seq (.seq (.ops [⟨(some 4),(.mv (.k (.c (.v (.int .i64 0))))),none⟩]) (.blk 0 (.loop (.seq (.seq (.ops [⟨(some 8),(.mv (.t 4)),none⟩,⟨(some 9),(.mv (.t 0)),none⟩,⟨(some 10),(.len (.t 9)),none⟩,⟨(some 11),(.bin .lss (.t 8) (.t 10)),none⟩]) (.kill [2,5,6,8,9,10,12,13,14,15,16,17,18,19,20,21,22,23,24,25,26,27,28,29,30,31,32,33,34,35,36,37,38,39,40,41,42,43,44,45,46,47,48,49,50,51,52,53,54,55,56,57,58,59,60,61,62,63,64,65,66,67,68,69,70,71,72,73] (.cond (.t 11) .skip (.exit 0)))) (.kill [11] (.seq (.blk 1 (.seq (.seq (.draw [(⟨(some 14),(.mv (.t 0)),none⟩,([],[15])),(⟨(some 15),(.mv (.t 4)),none⟩,([0],[14])),(⟨(some 16),(.ia 9 (.t 14) (.t 15)),none⟩,([],[])),(⟨(some 17),(.ld true 9 (.t 16)),none⟩,([],[])),(⟨(some 18),(.call 38 [(.t 17)]),none⟩,([],[])),(⟨(some 19),(.un .not (.t 18)),none⟩,([],[])),(⟨(some 20),(.mv (.t 19)),none⟩,([],[])),(⟨(some 21),(.mv (.t 4)),(some (20,false))⟩,([],[])),(⟨(some 22),(.bin .gtr (.t 21) (.k (.c (.v (.int .i64 0))))),(some (20,false))⟩,([],[])),(⟨(some 23),(.mv (.t 22)),(some (20,false))⟩,([],[])),(⟨(some 24),(.mv (.t 0)),(some (23,true))⟩,([],[25,29,30,31,32,33,34])),(⟨(some 25),(.mv (.t 4)),(some (23,true))⟩,([10],[24,29,30,31,32,33,34])),(⟨(some 26),(.ia 9 (.t 24) (.t 25)),(some (23,true))⟩,([],[29,30,31,32,33,34])),(⟨(some 27),(.fa 4 (.t 26)),(some (23,true))⟩,([],[29,30,31,32,33,34])),(⟨(some 28),(.ld false 1 (.t 27)),(some (23,true))⟩,([],[29,30,31,32,33,34])),(⟨(some 29),(.mv (.t 0)),(some (23,true))⟩,([10,11,12,13,14],[24,25,26,27,28,30,31])),(⟨(some 30),(.mv (.t 4)),(some (23,true))⟩,([10,11,12,13,14,15],[24,25,26,27,28,29])),(⟨(some 31),(.bin .sub (.t 30) (.k (.c (.v (.int .i64 1))))),(some (23,true))⟩,([10,11,12,13,14,15],[24,25,26,27,28,29])),(⟨(some 32),(.ia 9 (.t 29) (.t 31)),(some (23,true))⟩,([10,11,12,13,14],[24,25,26,27,28])),(⟨(some 33),(.fa 4 (.t 32)),(some (23,true))⟩,([10,11,12,13,14],[24,25,26,27,28])),(⟨(some 34),(.ld false 1 (.t 33)),(some (23,true))⟩,([10,11,12,13,14],[24,25,26,27,28])),(⟨(some 35),(.bin .leq (.t 28) (.t 34)),(some (23,true))⟩,([],[])),(⟨(some 36),(.pick (.t 23) (.t 35) (.k (.c (.v (.bool false))))),(some (20,false))⟩,([],[])),(⟨(some 37),(.pick (.t 20) (.k (.c (.v (.bool true)))) (.t 36)),none⟩,([],[]))]) (.kill [14,15,16,17,18,19,20,21,22,23,24,25,26,27,28,29,30,31,32,33,34,35,36] (.cond (.t 37) (.seq (.ops [⟨(some 2),(.mv (.k (.c (.v (.bool false))))),none⟩]) (.kill [0,3,4,37] .ret)) .skip))) (.kill [2,37] (.seq (.ops [⟨(some 38),(.mv (.t 0)),none⟩,⟨(some 39),(.mv (.t 4)),none⟩,⟨(some 40),(.ia 9 (.t 38) (.t 39)),none⟩,⟨(some 41),(.fa 0 (.t 40)),none⟩,⟨(some 42),(.ld false 1 (.t 41)),none⟩,⟨(some 5),(.mv (.t 42)),none⟩]) (.kill [38,39,40,41,42] (.seq (.seq (.ops [⟨(some 43),(.mv (.t 3)),none⟩,⟨(some 44),(.mv (.t 5)),none⟩,⟨(some 45),(.ia 1 (.t 43) (.t 44)),none⟩,⟨(some 46),(.ld false 1 (.t 45)),none⟩,⟨(some 47),(.bin .gtr (.t 46) (.k (.c (.v (.int .i64 0))))),none⟩]) (.kill [43,44,45,46] (.cond (.t 47) (.seq (.ops [⟨(some 48),(.mv (.t 0)),none⟩,⟨(some 49),(.mv (.t 3)),none⟩,⟨(some 50),(.mv (.t 5)),none⟩,⟨(some 51),(.ia 1 (.t 49) (.t 50)),none⟩,⟨(some 52),(.ld false 1 (.t 51)),none⟩,⟨(some 53),(.bin .sub (.t 52) (.k (.c (.v (.int .i64 1))))),none⟩,⟨(some 54),(.ia 9 (.t 48) (.t 53)),none⟩,⟨(some 55),(.ld true 9 (.t 54)),none⟩,⟨(some 6),(.new 53 [(.v (.int .i64 0)),(.v (.int .i64 0)),(.v (.int .i64 0)),(.v (.int .i64 0)),(.v (.int .i64 0)),(.v (.int .i64 0)),(.v (.int .i64 0)),(.v (.int .i64 0)),(.v (.int .i64 0))]),none⟩,⟨none,(.st 9 (.t 6) (.t 55)),none⟩]) (.kill [47,48,49,50,51,52,53,54,55] (.seq (.draw [(⟨(some 56),(.fa 5 (.t 6)),none⟩,([],[])),(⟨(some 57),(.ld false 1 (.t 56)),none⟩,([],[])),(⟨(some 58),(.bin .eql (.t 57) (.k (.c (.v (.int .i64 (-1)))))),none⟩,([],[])),(⟨(some 59),(.mv (.t 58)),none⟩,([],[])),(⟨(some 60),(.fa 5 (.t 6)),(some (59,false))⟩,([],[62,63,64,65,66])),(⟨(some 61),(.ld false 1 (.t 60)),(some (59,false))⟩,([],[62,63,64,65,66])),(⟨(some 62),(.mv (.t 0)),(some (59,false))⟩,([4,5],[60,61,63])),(⟨(some 63),(.mv (.t 4)),(some (59,false))⟩,([4,5,6],[60,61,62])),(⟨(some 64),(.ia 9 (.t 62) (.t 63)),(some (59,false))⟩,([4,5],[60,61])),(⟨(some 65),(.fa 4 (.t 64)),(some (59,false))⟩,([4,5],[60,61])),(⟨(some 66),(.ld false 1 (.t 65)),(some (59,false))⟩,([4,5],[60,61])),(⟨(some 67),(.bin .gtr (.t 61) (.t 66)),(some (59,false))⟩,([],[])),(⟨(some 68),(.pick (.t 59) (.k (.c (.v (.bool true)))) (.t 67)),none⟩,([],[]))]) (.kill [6,56,57,58,59,60,61,62,63,64,65,66,67] (.cond (.t 68) (.seq (.ops [⟨(some 2),(.mv (.k (.c (.v (.bool false))))),none⟩]) (.kill [0,3,4,5,68] .ret)) .skip))))) .skip))) (.kill [2,47,68] (.ops [⟨(some 69),(.mv (.t 3)),none⟩,⟨(some 70),(.mv (.t 5)),none⟩,⟨(some 71),(.mv (.t 4)),none⟩,⟨(some 72),(.bin .add (.t 71) (.k (.c (.v (.int .i64 1))))),none⟩,⟨(some 73),(.ia 1 (.t 69) (.t 70)),none⟩,⟨none,(.st 1 (.t 73) (.t 72)),none⟩])))))))) (.kill [2,5,6,14,15,16,17,18,19,20,21,22,23,24,25,26,27,28,29,30,31,32,33,34,35,36,37,38,39,40,41,42,43,44,45,46,47,48,49,50,51,52,53,54,55,56,57,58,59,60,61,62,63,64,65,66,67,68,69,70,71,72,73] (.ops [⟨(some 12),(.mv (.t 4)),none⟩,⟨(some 13),(.bin .add (.t 12) (.k (.c (.v (.int .i64 1))))),none⟩,⟨(some 4),(.mv (.t 13)),none⟩])))))))) (.kill [2,3,4,5,6,8,9,10,11,12,13,14,15,16,17,18,19,20,21,22,23,24,25,26,27,28,29,30,31,32,33,34,35,36,37,38,39,40,41,42,43,44,45,46,47,48,49,50,51,52,53,54,55,56,57,58,59,60,61,62,63,64,65,66,67,68,69,70,71,72,73] (.seq (.ops [⟨(some 74),(.mv (.t 0)),none⟩,⟨(some 75),(.call 39 [(.t 74)]),none⟩,⟨(some 2),(.mv (.t 75)),none⟩]) (.kill [0,74,75] .ret))))))))
def rs16:List RS:=[(.t 2)]
def nt16:Nat:=76
def lastR (xs:List Cl):Nat→Nat→Int
 | 0,_=>0
 | i+1,e=>if e=(xs.getD i cl0).thread.toNat then ((i+1:Nat):Int) else lastR xs i e
def cellR (xs:List Cl) (i e:Nat):List SC:=[.v (.int .i64 (lastR xs i e))]
theorem lastR_spec (xs:List Cl) (e:Nat):∀ i,(lastR xs i e=0∧∀ k,k<i→(xs.getD k cl0).thread.toNat≠e)∨∃ j:Nat,j<i∧lastR xs i e=((j+1:Nat):Int)∧(xs.getD j cl0).thread.toNat=e∧∀ k,j<k→k<i→(xs.getD k cl0).thread.toNat≠e
 | 0=>Or.inl ⟨rfl,fun k hk=>by omega⟩
 | i+1=>by
  simp only [lastR]
  by_cases h:e=(xs.getD i cl0).thread.toNat
  ·rw [if_pos h]
   exact Or.inr ⟨i,by omega,rfl,h.symm,fun k h1 h2=>by omega⟩
  ·rw [if_neg h]
   rcases lastR_spec xs e i with ⟨h1,h2⟩ | ⟨j,h1,h2,h3,h4⟩
   ·refine Or.inl ⟨h1,fun k hk=>?_⟩
    by_cases hki:k=i
    ·subst hki;exact fun h'=>h h'.symm
    ·exact h2 k (by omega)
   ·refine Or.inr ⟨j,by omega,h2,h3,fun k hk hk'=>?_⟩
    by_cases hki:k=i
    ·subst hki;exact fun h'=>h h'.symm
    ·exact h4 k hk (by omega)
structure InvR (xs:List Cl) (n:Nat):Prop where
 shaped:∀ k,k<n→shapedB (xs.getD k cl0)=true
 up:∀ k,k+1<n→(xs.getD k cl0).beg<(xs.getD (k+1) cl0).beg
 thr:∀ j k,j<k→k<n→(xs.getD j cl0).thread=(xs.getD k cl0).thread→(xs.getD j cl0).fin≠-1∧(xs.getD j cl0).fin≤(xs.getD k cl0).beg
theorem mayP_of {xs:List Cl} (h:InvR xs xs.length) (hB:InvB xs xs.length):mayP xs:=by
 refine ⟨⟨h.shaped,h.up,fun j k h1 h2 h3=>?_⟩,hB⟩
 obtain ⟨g1,g2⟩:=h.thr j k h1 h2 h3
 refine ⟨g1,?_⟩
 rcases Int.lt_or_eq_of_le g2 with e | e
 ·exact e
 ·exact absurd (by rw [e];simp [Cl.moves]) (hB j k h1 h2 _ g1 (by simp [Cl.moves]))
theorem invR_step {xs:List Cl} {i:Nat} (h:InvR xs i) (h1:shapedB (xs.getD i cl0)=true) (h2:0<i→(xs.getD (i - 1) cl0).beg<(xs.getD i cl0).beg)
  (h3:∀ j:Nat,j<i→(xs.getD j cl0).thread=(xs.getD i cl0).thread→(∀ k,j<k→k<i→(xs.getD k cl0).thread≠(xs.getD i cl0).thread)→(xs.getD j cl0).fin≠-1∧(xs.getD j cl0).fin≤(xs.getD i cl0).beg):InvR xs (i+1):=by
 have hsh:∀ k,k<i+1→shapedB (xs.getD k cl0)=true:=fun k hk=>by
  by_cases hki:k=i
  ·subst hki;exact h1
  ·exact h.shaped k (by omega)
 refine ⟨hsh,fun k hk=>?_,fun j k hj hk ht=>?_⟩
 ·by_cases hki:k+1=i
  ·have:=h2 (by omega)
   subst hki
   simpa using this
  ·exact h.up k (by omega)
 ·by_cases hki:k=i
  ·subst hki
   have key:∀ m j:Nat,k - j≤m→j<k→(xs.getD j cl0).thread=(xs.getD k cl0).thread→(xs.getD j cl0).fin≠-1∧(xs.getD j cl0).fin≤(xs.getD k cl0).beg:=by
    intro m
    induction m with
    | zero=>intro j hm hj _;omega
    | succ m ih =>
     intro j hm hj ht
     by_cases hex:∃ q,j<q∧q<k∧(xs.getD q cl0).thread=(xs.getD k cl0).thread
     ·obtain ⟨q,hq1,hq2,hq3⟩:=hex
      have g1:=ih q (by omega) hq2 hq3
      have g2:=h.thr j q hq1 hq2 (ht.trans hq3.symm)
      have g3:=h.shaped q hq2
      simp only [shapedB,decide_eq_true_eq] at g3
      have g4:=g3.1.2.2.2 g1.1
      exact ⟨g2.1,by omega⟩
     ·exact h3 j hj ht fun q hq1 hq2 hq3=>hex ⟨q,hq1,hq2,hq3⟩
   exact key k j (by omega) hj ht
  ·exact h.thr j k hj (by omega) ht
set_option maxRecDepth 100000 in
set_option maxHeartbeats 400000 in
theorem rmay_calls (w:World) (v:Value) (xs:List Cl) (b:Bool) (hbt:mayP xs→b=true) (hbf:¬ mayP xs→b=false) (hsz:xs.length * 72≤140737488355328) (h:Arr w Cl.enc 9 v xs):Calls Try.prog 16 #[v] w (RetV w (.bool b)):=by
 refine calls_sym (c:=ir16) (C:=mkC Try.prog [] w rs16 (RetV w (.bool b))) 1000 [.c (.xv (0,0,0))] 
  (E1 v) [] [(0,.one (arrOf Cl.enc 9 xs cl0))] [] 1 nt16 _ (mkTab_ok _ _) Try.func16 rfl (by kernel_rfl) (by kernel_rfl) rfl rfl rfl (E1_one (arr_one h))
  (fun E' hE'=>?_) (of_decide_eq_true rfl) (fun E' hE'=>inOk_arrs fun w' hw' x A hA=>?_) ?_
 ·have e0:=(hE' (0,0,0) (by decide)).2.2.2
  simp [SV.den,SC.den,e0,E1]
 ·have e0:=(hE' (0,0,0) (by decide)).2.2.2
  rcases atN_one hA with ⟨rfl,rfl⟩ | hA
  ·exact arr1 cl_ok e0 h hw'
  exact (atN_nil hA).elim
 have hmx:maxLen=9223372036854775807:=by decide
 simp only [ir16,nt16,rs16,go_sem,↓reduceIte,Nat.reduceLT,Nat.reduceLeDiff,Nat.reduceAdd,Nat.reduceSub,Nat.reduceMul,Nat.reduceEqDiff,reduceCtorEq,Int.reduceToNat,Int.reduceEq,Int.reduceBEq,Int.reduceBNe,Int.reduceLT,Int.reduceLE,Int.reduceNeg,Int.reduceAdd,Int.reduceSub,Int.reduceMul,Int.reduceGE,Int.reduceGT,Cl.enc,iv,endO,dr_cons]
 refine ⟨by decide,?_⟩
 refine loopI (ι:={ i:Nat // i≤xs.length∧InvR xs i }) (fun i=>⟨76,[(0,.c (.xv (0,0,0))),(3,.c (.sl (1,0,0) 1 0 16 none)),(4,.c (.v (.int .i64 (i.1:Nat))))],[(1,.one (.ar 16 1 (cellR xs i.1) 3))],[(0,.one (arrOf Cl.enc 9 xs cl0))],[],2⟩)
  (fun i=>xs.length - i.1) ⟨0,by omega,⟨fun _ h=>by omega,fun _ h=>by omega,fun _ _ _ h=>by omega⟩⟩ (le_refl _) ?_
 rintro ⟨i,hi,hg⟩
 simp only [go_sem,↓reduceIte,Nat.reduceLT,Nat.reduceLeDiff,Nat.reduceAdd,Nat.reduceSub,Nat.reduceMul,Nat.reduceEqDiff,reduceCtorEq,Int.reduceToNat,Int.reduceEq,Int.reduceBEq,Int.reduceBNe,Int.reduceLT,Int.reduceLE,Int.reduceNeg,Int.reduceAdd,Int.reduceSub,Int.reduceMul,Int.reduceGE,Int.reduceGT,Cl.enc,iv,endO,dr_cons]
 refine both (fun hlt=>?_) (fun hge=>?_)
 ·rw [decide_eq_true_eq] at hlt
  generalize hci:xs.getD i cl0=ci
  refine draw_vc (by kernel_rfl) (mkTab_ok _ _) (of_decide_eq_true rfl) (of_decide_eq_true rfl) ?_
  simp only [go_sem,↓reduceIte,Nat.reduceLT,Nat.reduceLeDiff,Nat.reduceAdd,Nat.reduceSub,Nat.reduceMul,Nat.reduceEqDiff,reduceCtorEq,Int.reduceToNat,Int.reduceEq,Int.reduceBEq,Int.reduceBNe,Int.reduceLT,Int.reduceLE,Int.reduceNeg,Int.reduceAdd,Int.reduceSub,Int.reduceMul,Int.reduceGE,Int.reduceGT,Cl.enc,iv,endO,dr_cons,hci]
  refine ⟨hlt,hlt,?_⟩
  refine dcallV (.c (.bo (shapedB ci))) _ (fun E=>rfl) (fun E a w' _=>fits_calls w' ci) ?_
  simp only [go_sem,↓reduceIte,Nat.reduceLT,Nat.reduceLeDiff,Nat.reduceAdd,Nat.reduceSub,Nat.reduceMul,Nat.reduceEqDiff,reduceCtorEq,Int.reduceToNat,Int.reduceEq,Int.reduceBEq,Int.reduceBNe,Int.reduceLT,Int.reduceLE,Int.reduceNeg,Int.reduceAdd,Int.reduceSub,Int.reduceMul,Int.reduceGE,Int.reduceGT,Cl.enc,iv,endO,dr_cons,hci,cellR]
  have hwi:0<i→IntKind.i64.wrap ((i:Int) - 1)=((i - 1:Nat):Int):=fun h=>by rw [wr64 (by omega) (by omega)];omega
  have hg1:(shapedB ci && decide ((i:Int)>0))=true→0<i:=fun h=>by
   have:=(Bool.and_eq_true _ _ ▸ h).2
   rw [decide_eq_true_eq] at this
   omega
  refine ⟨fun _=>hlt,fun _=>hlt,fun _=>hlt,fun h=>?_,fun h=>?_,fun h=>?_,fun h=>?_,fun h1=>?_⟩
  ·rw [hwi (hg1 h)];have:=hg1 h;omega
  ·rw [hwi (hg1 h)];have:=hg1 h;omega
  ·rw [hwi (hg1 h)];have:=hg1 h;omega
  ·refine retV fun E=>?_
   rw [den_c,den_v,Value.bool.injEq]
   refine (hbf fun hm=>?_).symm
   have g1:=hm.1.shaped i hlt
   rw [hci] at g1
   by_cases hi0:0<i
   ·have g2:=hm.1.up (i - 1) (by omega)
    rw [show i - 1+1=i by omega,hci] at g2
    rw [hwi hi0,Int.toNat_natCast] at h
    simp only [b_decR,b_decL,bt_ite,bf_ite,bt_dec,bf_dec,bt_int,bf_int,bt_nint,bf_nint,bt_bool,bf_bool,bt_nbool,bf_nbool,bt_not,bf_not,bt_and,bf_and,bt_or,bf_or,Bool.false_eq_true,Bool.true_eq_false,Bool.not_eq_true,Bool.not_eq_false,reduceCtorEq,false_iff,true_iff,iff_false,iff_true,and_true,true_and,and_false,false_and,or_true,true_or,or_false,false_or,not_true_eq_false,not_false_eq_true,ne_eq] at h
    simp only [g1] at h
    simp only [b_decR,b_decL,bt_ite,bf_ite,bt_dec,bf_dec,bt_int,bf_int,bt_nint,bf_nint,bt_bool,bf_bool,bt_nbool,bf_nbool,bt_not,bf_not,bt_and,bf_and,bt_or,bf_or,Bool.false_eq_true,Bool.true_eq_false,Bool.not_eq_true,Bool.not_eq_false,reduceCtorEq,false_iff,true_iff,iff_false,iff_true,and_true,true_and,and_false,false_and,or_true,true_or,or_false,false_or,not_true_eq_false,not_false_eq_true,ne_eq] at h
    omega
   ·simp only [b_decR,b_decL,bt_ite,bf_ite,bt_dec,bf_dec,bt_int,bf_int,bt_nint,bf_nint,bt_bool,bf_bool,bt_nbool,bf_nbool,bt_not,bf_not,bt_and,bf_and,bt_or,bf_or,Bool.false_eq_true,Bool.true_eq_false,Bool.not_eq_true,Bool.not_eq_false,reduceCtorEq,false_iff,true_iff,iff_false,iff_true,and_true,true_and,and_false,false_and,or_true,true_or,or_false,false_or,not_true_eq_false,not_false_eq_true,ne_eq,g1] at h
    omega
  ·have h11:shapedB ci=true:=by
    simp only [b_decR,b_decL,bt_ite,bf_ite,bt_dec,bf_dec,bt_int,bf_int,bt_nint,bf_nint,bt_bool,bf_bool,bt_nbool,bf_nbool,bt_not,bf_not,bt_and,bf_and,bt_or,bf_or,Bool.false_eq_true,Bool.true_eq_false,Bool.not_eq_true,Bool.not_eq_false,reduceCtorEq,false_iff,true_iff,iff_false,iff_true,and_true,true_and,and_false,false_and,or_true,true_or,or_false,false_or,not_true_eq_false,not_false_eq_true,ne_eq] at h1
    cases hs:shapedB ci with
    | true=>rfl
    | false=>simp [hs] at h1
   have h12:0<i→(xs.getD (i - 1) cl0).beg<ci.beg:=fun hi0=>by
    rw [hwi hi0,Int.toNat_natCast] at h1
    simp only [b_decR,b_decL,bt_ite,bf_ite,bt_dec,bf_dec,bt_int,bf_int,bt_nint,bf_nint,bt_bool,bf_bool,bt_nbool,bf_nbool,bt_not,bf_not,bt_and,bf_and,bt_or,bf_or,Bool.false_eq_true,Bool.true_eq_false,Bool.not_eq_true,Bool.not_eq_false,reduceCtorEq,false_iff,true_iff,iff_false,iff_true,and_true,true_and,and_false,false_and,or_true,true_or,or_false,false_or,not_true_eq_false,not_false_eq_true,ne_eq,h11] at h1
    omega
   have hth:0≤ci.thread∧ci.thread<16:=by
    have:=h11
    simp only [shapedB,decide_eq_true_eq] at this
    exact ⟨this.1.1,this.1.2.1⟩
   have htn:ci.thread.toNat<16:=by omega
   have htk:∀ k,k<i→(xs.getD k cl0).thread.toNat=ci.thread.toNat→(xs.getD k cl0).thread=ci.thread:=fun k hk he=>by
    have:=hg.shaped k hk
    simp only [shapedB,decide_eq_true_eq] at this
    omega
   have hset:∀ e,setAt ci.thread.toNat (cellR xs i) [SC.v (.int .i64 ((i+1:Nat):Int))] e=SC.renL (idσ id) (cellR xs (i+1) e):=fun e=>by
    simp only [setAt,cellR,lastR,hci,SC.renL,SC.ren]
    split <;> rfl
   refine ⟨hlt,hlt,hlt,hth,htn,fun h2=>⟨hth,htn,?_⟩,fun h2=>⟨hth,htn,?_⟩⟩
   ·rw [decide_eq_true_eq] at h2
    rcases lastR_spec xs ci.thread.toNat i with ⟨h0,_⟩ | ⟨j,hj1,hj2,hj3,hj4⟩
    ·omega
    have hwj:IntKind.i64.wrap (((j+1:Nat):Int) - 1)=(j:Int):=by rw [wr64 (by omega) (by omega)];omega
    rw [hj2,hwj]
    simp only [Int.toNat_natCast]
    refine ⟨⟨by omega,by omega⟩,by omega,?_⟩
    generalize hcj:xs.getD j cl0=cj
    refine draw_vc (by kernel_rfl) (mkTab_ok _ _) (of_decide_eq_true rfl) (of_decide_eq_true rfl) ?_
    simp only [go_sem,↓reduceIte,Nat.reduceLT,Nat.reduceLeDiff,Nat.reduceAdd,Nat.reduceSub,Nat.reduceMul,Nat.reduceEqDiff,reduceCtorEq,Int.reduceToNat,Int.reduceEq,Int.reduceBEq,Int.reduceBNe,Int.reduceLT,Int.reduceLE,Int.reduceNeg,Int.reduceAdd,Int.reduceSub,Int.reduceMul,Int.reduceGE,Int.reduceGT,Cl.enc,iv,endO,dr_cons,hci]
    have hjt:cj.thread=ci.thread:=by rw [← hcj];exact htk j hj1 hj3
    refine ⟨fun _=>hlt,fun _=>hlt,fun _=>hlt,fun h3=>?_,fun h3=>⟨hth,htn,?_⟩⟩
    ·refine retV fun E=>?_
     rw [den_c,den_v,Value.bool.injEq]
     refine (hbf fun hm=>?_).symm
     have h7:=hm.1.thr j i hj1 hlt (by rw [hcj,hci];exact hjt)
     rw [hcj,hci] at h7
     simp only [b_decR,b_decL,bt_ite,bf_ite,bt_dec,bf_dec,bt_int,bf_int,bt_nint,bf_nint,bt_bool,bf_bool,bt_nbool,bf_nbool,bt_not,bf_not,bt_and,bf_and,bt_or,bf_or,Bool.false_eq_true,Bool.true_eq_false,Bool.not_eq_true,Bool.not_eq_false,reduceCtorEq,false_iff,true_iff,iff_false,iff_true,and_true,true_and,and_false,false_and,or_true,true_or,or_false,false_or,not_true_eq_false,not_false_eq_true,ne_eq] at h3
     omega
    ·rw [wr_succ (by omega)]
     refine backI ⟨i+1,by omega,invR_step hg (by rw [hci];exact h11) (fun h=>by rw [hci];exact h12 h) fun q hq1 hq2 hq3=>?_⟩ (by simp only;omega) (le_ren id rfl rfl (by simp [TmpsLe,look,SV.ren,SC.ren,idσ,SV.okN,SC.okN]) ⟨⟨show (1:Nat)<2 from by decide,Nat.le_refl _,rfl,rfl,fun e he=>⟨hset e,trivial,trivial⟩⟩,trivial⟩ ⟨⟨show (0:Nat)<2 from by decide,arrLe_of⟩,trivial⟩ rfl)
     rw [hci] at hq2 hq3 ⊢
     have hqj:q=j:=by
      rcases Nat.lt_trichotomy q j with h8 | h8 | h8
      ·exact absurd (by rw [hcj];exact hjt) (hq3 j h8 hj1)
      ·exact h8
      ·exact absurd (by rw [hq2]) (hj4 q h8 hq1)
     subst hqj
     rw [hcj]
     simp only [b_decR,b_decL,bt_ite,bf_ite,bt_dec,bf_dec,bt_int,bf_int,bt_nint,bf_nint,bt_bool,bf_bool,bt_nbool,bf_nbool,bt_not,bf_not,bt_and,bf_and,bt_or,bf_or,Bool.false_eq_true,Bool.true_eq_false,Bool.not_eq_true,Bool.not_eq_false,reduceCtorEq,false_iff,true_iff,iff_false,iff_true,and_true,true_and,and_false,false_and,or_true,true_or,or_false,false_or,not_true_eq_false,not_false_eq_true,ne_eq] at h3
     omega
   ·rw [decide_eq_false_iff_not] at h2
    rcases lastR_spec xs ci.thread.toNat i with ⟨h0,hnone⟩ | ⟨j,hj1,hj2,hj3,hj4⟩
    ·rw [wr_succ (by omega)]
     refine backI ⟨i+1,by omega,invR_step hg (by rw [hci];exact h11) (fun h=>by rw [hci];exact h12 h) fun q hq1 hq2 hq3=>absurd (by rw [hq2,hci]) (hnone q hq1)⟩ (by simp only;omega) (le_ren id rfl rfl (by simp [TmpsLe,look,SV.ren,SC.ren,idσ,SV.okN,SC.okN]) ⟨⟨show (1:Nat)<2 from by decide,Nat.le_refl _,rfl,rfl,fun e he=>⟨hset e,trivial,trivial⟩⟩,trivial⟩ ⟨⟨show (0:Nat)<2 from by decide,arrLe_of⟩,trivial⟩ rfl)
    ·omega
 ·rw [decide_eq_false_iff_not] at hge
  have hin:i=xs.length:=by omega
  subst hin
  refine callV (.c (.bo b)) (.bool b) (fun E=>rfl) (fun E a w' hs=>?_) ?_
  ·have ha:Arr w' Cl.enc 9 (E.χ (0,0,0)) xs:=arr_of (d:=cl0) ((holds_of hs).1 (0,0,0) _ rfl)
   exact apart_calls w' _ xs b (fun hB=>hbt (mayP_of hg hB)) (fun hB=>hbf fun hm=>hB hm.2) (fun k hk=>by have:=hg.shaped k hk;simp only [shapedB,decide_eq_true_eq] at this;omega) hsz ha
  simp only [go_sem,↓reduceIte,Nat.reduceLT,Nat.reduceLeDiff,Nat.reduceAdd,Nat.reduceSub,Nat.reduceMul,Nat.reduceEqDiff,reduceCtorEq,Int.reduceToNat,Int.reduceEq,Int.reduceBEq,Int.reduceBNe,Int.reduceLT,Int.reduceLE,Int.reduceNeg,Int.reduceAdd,Int.reduceSub,Int.reduceMul,Int.reduceGE,Int.reduceGT,Cl.enc,iv,endO,dr_cons]
  exact retV fun E=>by rw [den_c,den_b]
end Go.Proofs.Ytkjeedlkkpgopaa.Z
namespace Go.Proofs.Ytkjeedlkkpgopaa.Z
open Go Go.RowKit
noncomputable def mayQ (xs:List Cl):Bool:=@decide (mayP xs) (Classical.propDecidable _)
theorem mayQ_t {xs:List Cl} (h:mayP xs):mayQ xs=true:=@decide_eq_true _ (Classical.propDecidable _) h
theorem mayQ_f {xs:List Cl} (h:¬ mayP xs):mayQ xs=false:=@decide_eq_false _ (Classical.propDecidable _) h
theorem mayW (w:World) (v:Value) (xs:List Cl) (h:Arr w Cl.enc 9 v xs):Calls Try.prog 15 #[v] w (RetV w (.bool (mayQ xs))):=may_calls w v xs _ mayQ_t mayQ_f h
theorem mayR (w:World) (v:Value) (xs:List Cl) (hsz:xs.length * 72≤140737488355328) (h:Arr w Cl.enc 9 v xs):Calls Try.prog 16 #[v] w (RetV w (.bool (mayQ xs))):=rmay_calls w v xs _ mayQ_t mayQ_f hsz h
theorem ats_left {xs:List Cl} {m:Cl} {e:Nat} (he:e<xs.length):ats Cl.enc (xs++[m]) cl0 e=ats Cl.enc xs cl0 e:=by
 simp [ats,List.getD_eq_getElem?_getD,List.getElem?_append_left he]
theorem arr_tw {C:Ctx} {E:Env} {S:St} {a:Act} {w:World} (hs:Sat C.B C.W C.w0 E S a w) {xs:List Cl} {m:Cl} {ty:Nat} (i:Nat) (hi:look S.own i=some (.one (.ar (xs++[m]).length 9 (ats Cl.enc (xs++[m]) cl0) ty))):Arr w Cl.enc 9 ((SC.sl (i,0,0) 9 0 xs.length none).den E) xs :=
 arr_own hs i _ _ _ hi rfl (by simp) fun e he=>ats_left he
theorem tw_tw {C:Ctx} {E:Env} {S:St} {a:Act} {w:World} (hs:Sat C.B C.W C.w0 E S a w) {xs:List Cl} {m:Cl} {ty:Nat} (i:Nat) (hi:look S.own i=some (.one (.ar (xs++[m]).length 9 (ats Cl.enc (xs++[m]) cl0) ty))):Tw w ((SC.sl (i,0,0) 9 0 xs.length none).den E) xs m:=by
 have h:=arr_own hs i _ (xs.length+1) _ hi (ys:=xs++[m]) (by simp) (Nat.le_refl _) fun e he=>rfl
 obtain ⟨ba,cap,h1,h2⟩:=id h
 simp only [SC.den,Value.slice.injEq] at h1
 refine ⟨ba,cap,by simp only [SC.den,h1.1,h1.2.2],?_⟩
 simp only [SC.den] at h
 rw [h1.1,h1.2.2] at h
 exact h
end Go.Proofs.Ytkjeedlkkpgopaa.Z
namespace Go.Proofs.Ytkjeedlkkpgopaa.Z
open Go Go.RowKit
def ptB (c:Cl):Bool:=!(objOf c.op == 0) && !(c.point == -1)
def pks (xs:List Cl):Nat→List Int
 | 0=>[]
 | n+1=>if ptB (xs.getD n cl0)=true then pks xs n++[(n:Int)] else pks xs n
def Kp (xs:List Cl) (i:Int):Int:=(xs.getD i.toNat cl0).point
def ptSorted (xs:List Cl) (l:List Int):Prop:=l.Pairwise fun a b=>Kp xs a≤Kp xs b
theorem mem_pks {xs:List Cl} {i:Int}:∀ {n:Nat},i∈pks xs n↔∃ k:Nat,k<n∧i=k∧ptB (xs.getD k cl0)=true
 | 0=>by simp [pks]
 | n+1=>by
  simp only [pks]
  split
  ·next h =>
   rw [List.mem_append,mem_pks,List.mem_singleton]
   constructor
   ·rintro (⟨k,h1,h2,h3⟩ | rfl)
    ·exact ⟨k,by omega,h2,h3⟩
    ·exact ⟨n,by omega,rfl,h⟩
   ·rintro ⟨k,h1,h2,h3⟩
    by_cases e:k=n
    ·exact Or.inr (by rw [h2,e])
    ·exact Or.inl ⟨k,by omega,h2,h3⟩
  ·next h =>
   rw [mem_pks]
   constructor
   ·rintro ⟨k,h1,h2,h3⟩
    exact ⟨k,by omega,h2,h3⟩
   ·rintro ⟨k,h1,h2,h3⟩
    by_cases e:k=n
    ·rw [e] at h3;exact absurd h3 h
    ·exact ⟨k,by omega,h2,h3⟩
theorem pks_len (xs:List Cl):∀ n,(pks xs n).length≤n
 | 0=>Nat.le_refl _
 | n+1=>by
  have:=pks_len xs n
  simp only [pks]
  split <;> simp <;> omega
end Go.Proofs.Ytkjeedlkkpgopaa.Z
namespace Go.Proofs.Ytkjeedlkkpgopaa.Z
open Go Go.RowKit
def ir58:IR:=(.seq (.ops [⟨(some 2),(.box 53 (.t 0)),none⟩,⟨(some 3),(.box 53 (.t 1)),none⟩,⟨(some 4),(.mv (.k (.c (.v (.bool false))))),none⟩]) (.kill [0,1,4,5,6,7,8,9,10,11] (.seq (.ops [⟨(some 5),(.fa 5 (.t 2)),none⟩,⟨(some 6),(.ld false 1 (.t 5)),none⟩,⟨(some 7),(.bin .neq (.t 6) (.k (.c (.v (.int .i64 (-1)))))),none⟩,⟨(some 8),(.mv (.t 7)),none⟩,⟨(some 9),(.fa 5 (.t 2)),(some (8,true))⟩,⟨(some 10),(.ld false 1 (.t 9)),(some (8,true))⟩,⟨(some 11),(.fa 4 (.t 3)),(some (8,true))⟩,⟨(some 12),(.ld false 1 (.t 11)),(some (8,true))⟩,⟨(some 13),(.bin .lss (.t 10) (.t 12)),(some (8,true))⟩,⟨(some 14),(.pick (.t 8) (.t 13) (.k (.c (.v (.bool false))))),none⟩,⟨(some 4),(.mv (.t 14)),none⟩]) (.kill [2,3,5,6,7,8,9,10,11,12,13,14] .ret))))
def rs58:List RS:=[(.t 4)]
def nt58:Nat:=15
def ir41:IR:=(.seq (.ops [⟨(some 6),(.mv (.k (.c (.v (.bool false))))),none⟩]) (.kill [3,4,5,6,7,8,9,10,11] (.seq (.draw [(⟨(some 7),(.mv (.t 0)),none⟩,([],[8])),(⟨(some 8),(.mv (.t 1)),none⟩,([0],[7])),(⟨(some 9),(.ia 9 (.t 7) (.t 8)),none⟩,([],[])),(⟨(some 10),(.fa 5 (.t 9)),none⟩,([],[])),(⟨(some 11),(.ld false 1 (.t 10)),none⟩,([],[])),(⟨(some 12),(.bin .neq (.t 11) (.k (.c (.v (.int .i64 (-1)))))),none⟩,([],[])),(⟨(some 13),(.mv (.t 12)),none⟩,([],[])),(⟨(some 14),(.mv (.t 0)),(some (13,true))⟩,([],[15,19,20,21,22,23])),(⟨(some 15),(.mv (.t 1)),(some (13,true))⟩,([7],[14,19,20,21,22,23])),(⟨(some 16),(.ia 9 (.t 14) (.t 15)),(some (13,true))⟩,([],[19,20,21,22,23])),(⟨(some 17),(.fa 5 (.t 16)),(some (13,true))⟩,([],[19,20,21,22,23])),(⟨(some 18),(.ld false 1 (.t 17)),(some (13,true))⟩,([],[19,20,21,22,23])),(⟨(some 19),(.mv (.t 0)),(some (13,true))⟩,([7,8,9,10,11],[14,15,16,17,18,20])),(⟨(some 20),(.mv (.t 2)),(some (13,true))⟩,([7,8,9,10,11,12],[14,15,16,17,18,19])),(⟨(some 21),(.ia 9 (.t 19) (.t 20)),(some (13,true))⟩,([7,8,9,10,11],[14,15,16,17,18])),(⟨(some 22),(.fa 4 (.t 21)),(some (13,true))⟩,([7,8,9,10,11],[14,15,16,17,18])),(⟨(some 23),(.ld false 1 (.t 22)),(some (13,true))⟩,([7,8,9,10,11],[14,15,16,17,18])),(⟨(some 24),(.bin .lss (.t 18) (.t 23)),(some (13,true))⟩,([],[])),(⟨(some 25),(.pick (.t 13) (.t 24) (.k (.c (.v (.bool false))))),none⟩,([],[])),(⟨(some 6),(.mv (.t 25)),none⟩,([],[]))]) (.kill [0,1,2,7,8,9,10,11,12,13,14,15,16,17,18,19,20,21,22,23,24,25] .ret))))
def rs41:List RS:=[(.t 6)]
def nt41:Nat:=26
def ir21:IR:=(.seq (.ops [⟨(some 2),(.mv (.k (.c (.v (.int .i64 0))))),none⟩]) (.kill [1,2,3,4,5,6,7,8,9,10,11] (.seq (.ops [⟨(some 3),(.mv (.t 0)),none⟩,⟨(some 2),(.mv (.t 3)),none⟩]) (.kill [0,3] .ret))))
def rs21:List RS:=[(.t 2)]
def nt21:Nat:=4
def aheadB (a b:Cl):Bool:=if (a.fin != -1)=true then decide (a.fin<b.beg) else false
def clA (c:Cl):SV:=.agg [.v (.int .i64 c.thread),.v (.int .i64 c.op),.v (.int .i64 c.arg),.v (.int .i64 c.data),.v (.int .i64 c.beg),.v (.int .i64 c.fin),.v (.int .i64 c.point),.v (.int .i64 c.kind),.v (.int .i64 c.val)]
def iA (n:Int):SV:=.c (.v (.int .i64 n))
set_option maxRecDepth 100000 in
set_option maxHeartbeats 400000 in
theorem ahead_calls (w:World) (a b:Cl):Calls Try.prog 58 #[.agg a.enc.toArray,.agg b.enc.toArray] w (RetV w (.bool (aheadB a b))):=by
 refine enter0 (A:=[]) (c:=ir58) (rs:=rs58) (nt:=nt58) [clA a,clA b] _ Try.func58 rfl (by kernel_rfl) (by kernel_rfl) rfl (fun E'=>by simp [clA,SV.den,SC.den,Cl.enc,iv]) (of_decide_eq_true rfl) ?_
 simp only [ir58,nt58,rs58,go_sem,↓reduceIte,Nat.reduceLT,Nat.reduceLeDiff,Nat.reduceAdd,Nat.reduceSub,Nat.reduceMul,Nat.reduceEqDiff,reduceCtorEq,Int.reduceToNat,Int.reduceEq,Int.reduceBEq,Int.reduceBNe,Int.reduceLT,Int.reduceLE,Int.reduceNeg,Int.reduceAdd,Int.reduceSub,Int.reduceMul,Int.reduceGE,Int.reduceGT,Cl.enc,iv,endO,dr_cons,clA]
 exact retV fun E=>by rw [den_c,den_b,aheadB]
set_option maxRecDepth 100000 in
set_option maxHeartbeats 400000 in
theorem rahead_calls (w:World) (v:Value) (xs:List Cl) (i j:Int) (h:Arr w Cl.enc 9 v xs) (hi:0≤i∧i<xs.length) (hj:0≤j∧j<xs.length):Calls Try.prog 41 #[v,.int .i64 i,.int .i64 j] w (RetV w (.bool (aheadB (xs.getD i.toNat cl0) (xs.getD j.toNat cl0)))):=by
 refine enter1 (A:=[]) (c:=ir41) (rs:=rs41) (nt:=nt41) cl0 cl_ok h [.c (.xv (0,0,0)),iA i,iA j] _ Try.func41 rfl (by kernel_rfl) (by kernel_rfl) rfl (fun E' h0=>by simp [SV.den,SC.den,iA,h0]) (of_decide_eq_true rfl) ?_
 simp only [ir41,nt41,rs41,go_sem,↓reduceIte,Nat.reduceLT,Nat.reduceLeDiff,Nat.reduceAdd,Nat.reduceSub,Nat.reduceMul,Nat.reduceEqDiff,reduceCtorEq,Int.reduceToNat,Int.reduceEq,Int.reduceBEq,Int.reduceBNe,Int.reduceLT,Int.reduceLE,Int.reduceNeg,Int.reduceAdd,Int.reduceSub,Int.reduceMul,Int.reduceGE,Int.reduceGT,Cl.enc,iv,endO,dr_cons,iA]
 refine draw_vc (by kernel_rfl) (mkTab_ok _ _) (of_decide_eq_true rfl) (of_decide_eq_true rfl) ?_
 simp only [go_sem,↓reduceIte,Nat.reduceLT,Nat.reduceLeDiff,Nat.reduceAdd,Nat.reduceSub,Nat.reduceMul,Nat.reduceEqDiff,reduceCtorEq,Int.reduceToNat,Int.reduceEq,Int.reduceBEq,Int.reduceBNe,Int.reduceLT,Int.reduceLE,Int.reduceNeg,Int.reduceAdd,Int.reduceSub,Int.reduceMul,Int.reduceGE,Int.reduceGT,Cl.enc,iv,endO,dr_cons]
 have i2:i.toNat<xs.length:=by omega
 have j2:j.toNat<xs.length:=by omega
 exact ⟨hi,i2,i2,fun _=>hi,fun _=>i2,fun _=>i2,fun _=>hj,fun _=>j2,fun _=>j2,retV fun E=>by rw [den_c,den_b,aheadB]⟩
set_option maxRecDepth 100000 in
set_option maxHeartbeats 400000 in
theorem num_calls (w:World) (n:Int):Calls Try.prog 21 #[.int .i64 n] w (RetV w (.int .i64 n)):=by
 refine enter0 (A:=[]) (c:=ir21) (rs:=rs21) (nt:=nt21) [iA n] _ Try.func21 rfl (by kernel_rfl) (by kernel_rfl) rfl (fun E'=>by simp [iA,SV.den,SC.den]) (of_decide_eq_true rfl) ?_
 simp only [ir21,nt21,rs21,go_sem,↓reduceIte,Nat.reduceLT,Nat.reduceLeDiff,Nat.reduceAdd,Nat.reduceSub,Nat.reduceMul,Nat.reduceEqDiff,reduceCtorEq,Int.reduceToNat,Int.reduceEq,Int.reduceBEq,Int.reduceBNe,Int.reduceLT,Int.reduceLE,Int.reduceNeg,Int.reduceAdd,Int.reduceSub,Int.reduceMul,Int.reduceGE,Int.reduceGT,Cl.enc,iv,endO,dr_cons,iA]
 exact retV fun E=>by rw [den_c,den_v]
end Go.Proofs.Ytkjeedlkkpgopaa.Z
namespace Go.Proofs.Ytkjeedlkkpgopaa.Z
open Go Go.RowKit
def cnt (p:Nat→Bool):Nat→Nat
 | 0=>0
 | k+1=>cnt p k+(if p k=true then 1 else 0)
end Go.Proofs.Ytkjeedlkkpgopaa.Z
namespace Go.Proofs.Ytkjeedlkkpgopaa.Z
open Go Go.RowKit
def ir23:IR:=(.seq (.ops [⟨(some 4),(.mv (.k (.c (.v (.bool false))))),none⟩]) (.kill [2,3,4,5,6,7,8,9,10,11] (.seq (.seq (.ops [⟨(some 6),(.mv (.t 0)),none⟩,⟨(some 7),(.len (.t 6)),none⟩,⟨(some 8),(.mv (.t 1)),none⟩,⟨(some 9),(.len (.t 8)),none⟩,⟨(some 10),(.bin .neq (.t 7) (.t 9)),none⟩]) (.kill [6,7,8,9] (.cond (.t 10) (.seq (.ops [⟨(some 4),(.mv (.k (.c (.v (.bool false))))),none⟩]) (.kill [0,1,10] .ret)) .skip))) (.kill [4,10] (.seq (.seq (.ops [⟨(some 5),(.mv (.k (.c (.v (.int .i64 0))))),none⟩]) (.blk 0 (.loop (.seq (.seq (.ops [⟨(some 11),(.mv (.t 5)),none⟩,⟨(some 12),(.mv (.t 0)),none⟩,⟨(some 13),(.len (.t 12)),none⟩,⟨(some 14),(.bin .lss (.t 11) (.t 13)),none⟩]) (.kill [4,11,12,13,15,16,17,18,19,20,21,22,23,24,25] (.cond (.t 14) .skip (.exit 0)))) (.kill [14] (.seq (.blk 1 (.seq (.draw [(⟨(some 17),(.mv (.t 0)),none⟩,([],[18,21,22,23,24])),(⟨(some 18),(.mv (.t 5)),none⟩,([0],[17,21,22,23,24])),(⟨(some 19),(.ia 1 (.t 17) (.t 18)),none⟩,([],[21,22,23,24])),(⟨(some 20),(.ld false 1 (.t 19)),none⟩,([],[21,22,23,24])),(⟨(some 21),(.mv (.t 1)),none⟩,([0,1,2,3],[17,18,19,20,22])),(⟨(some 22),(.mv (.t 5)),none⟩,([0,1,2,3,4],[17,18,19,20,21])),(⟨(some 23),(.ia 1 (.t 21) (.t 22)),none⟩,([0,1,2,3],[17,18,19,20])),(⟨(some 24),(.ld false 1 (.t 23)),none⟩,([0,1,2,3],[17,18,19,20])),(⟨(some 25),(.bin .neq (.t 20) (.t 24)),none⟩,([],[]))]) (.kill [17,18,19,20,21,22,23,24] (.cond (.t 25) (.seq (.ops [⟨(some 4),(.mv (.k (.c (.v (.bool false))))),none⟩]) (.kill [0,1,5,25] .ret)) .skip)))) (.kill [4,17,18,19,20,21,22,23,24,25] (.ops [⟨(some 15),(.mv (.t 5)),none⟩,⟨(some 16),(.bin .add (.t 15) (.k (.c (.v (.int .i64 1))))),none⟩,⟨(some 5),(.mv (.t 16)),none⟩])))))))) (.kill [0,1,4,5,11,12,13,14,15,16,17,18,19,20,21,22,23,24,25] (.seq (.ops [⟨(some 4),(.mv (.k (.c (.v (.bool true))))),none⟩]) .ret)))))))
def rs23:List RS:=[(.t 4)]
def nt23:Nat:=26
set_option maxRecDepth 100000 in
set_option maxHeartbeats 400000 in
theorem same_calls (w:World) (v v' : Value) (xs ys:List Int) (h:Arr w eI 1 v xs) (h' : Arr w eI 1 v' ys):Calls Try.prog 23 #[v,v'] w (RetV w (.bool (decide (xs=ys)))):=by
 have hlen:=Z.Arr.lenM h
 simp only [maxLen] at hlen
 refine enter2 (A:=[]) (c:=ir23) (rs:=rs23) (nt:=nt23) 0 eI_ok h 0 eI_ok h' [.c (.xv (0,0,0)),.c (.xv (1,0,0))] _ Try.func23 rfl (by kernel_rfl) (by kernel_rfl) rfl (fun E' h0 h1=>by simp [SV.den,SC.den,h0,h1]) (of_decide_eq_true rfl) ?_
 simp only [ir23,nt23,rs23,go_sem,↓reduceIte,Nat.reduceLT,Nat.reduceLeDiff,Nat.reduceAdd,Nat.reduceSub,Nat.reduceMul,Nat.reduceEqDiff,reduceCtorEq,Int.reduceToNat,Int.reduceEq,Int.reduceBEq,Int.reduceBNe,Int.reduceLT,Int.reduceLE,Int.reduceNeg,Int.reduceAdd,Int.reduceSub,Int.reduceMul,Int.reduceGE,Int.reduceGT,Cl.enc,iv,endO,dr_cons]
 refine both (fun hne=>?_) (fun heq=>?_)
 ·refine retV fun E=>?_
  rw [den_c,den_v,Value.bool.injEq,eq_comm,decide_eq_false_iff_not]
  rintro rfl
  simp at hne
 ·have hl:xs.length=ys.length:=by
   have:=heq
   simp only [b_decR,b_decL,bt_ite,bf_ite,bt_dec,bf_dec,bt_int,bf_int,bt_nint,bf_nint,bt_bool,bf_bool,bt_nbool,bf_nbool,bt_not,bf_not,bt_and,bf_and,bt_or,bf_or,Bool.false_eq_true,Bool.true_eq_false,Bool.not_eq_true,Bool.not_eq_false,reduceCtorEq,false_iff,true_iff,iff_false,iff_true,and_true,true_and,and_false,false_and,or_true,true_or,or_false,false_or,not_true_eq_false,not_false_eq_true,ne_eq] at this
   omega
  refine loopI (ι:={ i:Nat // i≤xs.length∧∀ k,k<i→xs.getD k 0=ys.getD k 0 }) (fun i=>⟨26,[(0,.c (.xv (0,0,0))),(1,.c (.xv (1,0,0))),(5,.c (.v (.int .i64 (i.1:Nat))))],[],[(0,.one (arrOf eI 1 xs 0)),(1,.one (arrOf eI 1 ys 0))],[],2⟩)
   (fun i=>xs.length - i.1) ⟨0,by omega,fun k hk=>by omega⟩ (le_tmps (by simp [TmpsSub,look])) ?_
  rintro ⟨i,hi,hg⟩
  simp only [go_sem,↓reduceIte,Nat.reduceLT,Nat.reduceLeDiff,Nat.reduceAdd,Nat.reduceSub,Nat.reduceMul,Nat.reduceEqDiff,reduceCtorEq,Int.reduceToNat,Int.reduceEq,Int.reduceBEq,Int.reduceBNe,Int.reduceLT,Int.reduceLE,Int.reduceNeg,Int.reduceAdd,Int.reduceSub,Int.reduceMul,Int.reduceGE,Int.reduceGT,Cl.enc,iv,endO,dr_cons,eI]
  refine both (fun hlt=>?_) (fun hge=>?_)
  ·rw [decide_eq_true_eq] at hlt
   refine draw_vc (by kernel_rfl) (mkTab_ok _ _) (of_decide_eq_true rfl) (of_decide_eq_true rfl) ?_
   simp only [go_sem,↓reduceIte,Nat.reduceLT,Nat.reduceLeDiff,Nat.reduceAdd,Nat.reduceSub,Nat.reduceMul,Nat.reduceEqDiff,reduceCtorEq,Int.reduceToNat,Int.reduceEq,Int.reduceBEq,Int.reduceBNe,Int.reduceLT,Int.reduceLE,Int.reduceNeg,Int.reduceAdd,Int.reduceSub,Int.reduceMul,Int.reduceGE,Int.reduceGT,Cl.enc,iv,endO,dr_cons,eI]
   have hy:i<ys.length:=by omega
   refine ⟨hlt,hlt,hy,hy,fun hne=>?_,fun heq=>?_⟩
   ·refine retV fun E=>?_
    rw [den_c,den_v,Value.bool.injEq,eq_comm,decide_eq_false_iff_not]
    rintro rfl
    simp at hne
   ·rw [wr_succ (by omega)]
    refine backI ⟨i+1,by omega,fun k hk=>?_⟩ (by simp only;omega) (le_tmps (by simp [TmpsSub,look]))
    by_cases e:k=i
    ·subst e
     simpa using heq
    ·exact hg k (by omega)
  ·rw [decide_eq_false_iff_not] at hge
   have:xs=ys:=by
    refine List.ext_getElem hl fun k hk hk'=>?_
    have:=hg k (by omega)
    simpa [List.getD_eq_getElem?_getD,List.getElem?_eq_getElem hk,List.getElem?_eq_getElem hk'] using this
   exact retV fun E=>by simp [SV.den,SC.den,this]
end Go.Proofs.Ytkjeedlkkpgopaa.Z
namespace Go.Proofs.Ytkjeedlkkpgopaa.Z
open Go Go.RowKit
theorem objW (op:Int) (w:World):Calls Try.prog 59 #[.int .i64 op] w (RetV w (.int .i64 (objOf op))):=(mObject op w).mono fun e w' h=>⟨h.1,h.2 ▸ Below.refl _ _⟩
theorem objR (op:Int) (w:World):Calls Try.prog 62 #[.int .i64 op] w (RetV w (.int .i64 (objOf op))):=(rObject0 op w).mono fun e w' h=>⟨h.1,h.2 ▸ Below.refl _ _⟩
def ir42:IR:=(.seq (.ops [⟨(some 1),(.box 53 (.t 0)),none⟩,⟨(some 2),(.mv (.k (.c (.v (.bool false))))),none⟩]) (.kill [0,2,3,4,5,6,7,8,9,10,11] (.seq (.ops [⟨(some 3),(.fa 1 (.t 1)),none⟩,⟨(some 4),(.ld false 1 (.t 3)),none⟩,⟨(some 5),(.call 59 [(.t 4)]),none⟩,⟨(some 6),(.bin .neq (.t 5) (.k (.c (.v (.int .i64 0))))),none⟩,⟨(some 2),(.mv (.t 6)),none⟩]) (.kill [1,3,4,5,6] .ret))))
def rs42:List RS:=[(.t 2)]
def nt42:Nat:=7
def ir45:IR:=(.seq (.ops [⟨(some 1),(.box 53 (.t 0)),none⟩,⟨(some 2),(.mv (.k (.c (.v (.bool false))))),none⟩]) (.kill [0,2,3,4,5,6,7,8,9,10,11] (.seq (.ops [⟨(some 3),(.fa 1 (.t 1)),none⟩,⟨(some 4),(.ld false 1 (.t 3)),none⟩,⟨(some 5),(.call 62 [(.t 4)]),none⟩,⟨(some 6),(.bin .neq (.t 5) (.k (.c (.v (.int .i64 0))))),none⟩,⟨(some 2),(.mv (.t 6)),none⟩]) (.kill [1,3,4,5,6] .ret))))
def rs45:List RS:=[(.t 2)]
def nt45:Nat:=7
set_option maxRecDepth 100000 in
set_option maxHeartbeats 400000 in
theorem counts_calls (w:World) (c:Cl):Calls Try.prog 42 #[.agg c.enc.toArray] w (RetV w (.bool (objOf c.op != 0))):=by
 refine enter0 (A:=[]) (c:=ir42) (rs:=rs42) (nt:=nt42) [clA c] _ Try.func42 rfl (by kernel_rfl) (by kernel_rfl) rfl (fun E'=>by simp [clA,SV.den,SC.den,Cl.enc,iv]) (of_decide_eq_true rfl) ?_
 simp (maxSteps:=2000000) only [ir42,nt42,rs42,go_sem,↓reduceIte,Nat.reduceLT,Nat.reduceLeDiff,Nat.reduceAdd,Nat.reduceSub,Nat.reduceMul,Nat.reduceEqDiff,reduceCtorEq,Int.reduceToNat,Int.reduceEq,Int.reduceBEq,Int.reduceBNe,Int.reduceLT,Int.reduceLE,Int.reduceNeg,Int.reduceAdd,Int.reduceSub,Int.reduceMul,Int.reduceGE,Int.reduceGT,Cl.enc,iv,endO,clA]
 refine callV (.c (.v (.int .i64 (objOf c.op)))) _ (fun E=>rfl) (fun E a w' hs=>objW c.op w') ?_
 simp (maxSteps:=2000000) only [go_sem,↓reduceIte,Nat.reduceLT,Nat.reduceLeDiff,Nat.reduceAdd,Nat.reduceSub,Nat.reduceMul,Nat.reduceEqDiff,reduceCtorEq,Int.reduceToNat,Int.reduceEq,Int.reduceBEq,Int.reduceBNe,Int.reduceLT,Int.reduceLE,Int.reduceNeg,Int.reduceAdd,Int.reduceSub,Int.reduceMul,Int.reduceGE,Int.reduceGT,Cl.enc,iv,endO]
 exact retV fun E=>by simp [SV.den,SC.den]
set_option maxRecDepth 100000 in
set_option maxHeartbeats 400000 in
theorem rcounts_calls (w:World) (c:Cl):Calls Try.prog 45 #[.agg c.enc.toArray] w (RetV w (.bool (objOf c.op != 0))):=by
 refine enter0 (A:=[]) (c:=ir45) (rs:=rs45) (nt:=nt45) [clA c] _ Try.func45 rfl (by kernel_rfl) (by kernel_rfl) rfl (fun E'=>by simp [clA,SV.den,SC.den,Cl.enc,iv]) (of_decide_eq_true rfl) ?_
 simp (maxSteps:=2000000) only [ir45,nt45,rs45,go_sem,↓reduceIte,Nat.reduceLT,Nat.reduceLeDiff,Nat.reduceAdd,Nat.reduceSub,Nat.reduceMul,Nat.reduceEqDiff,reduceCtorEq,Int.reduceToNat,Int.reduceEq,Int.reduceBEq,Int.reduceBNe,Int.reduceLT,Int.reduceLE,Int.reduceNeg,Int.reduceAdd,Int.reduceSub,Int.reduceMul,Int.reduceGE,Int.reduceGT,Cl.enc,iv,endO,clA]
 refine callV (.c (.v (.int .i64 (objOf c.op)))) _ (fun E=>rfl) (fun E a w' hs=>objR c.op w') ?_
 simp (maxSteps:=2000000) only [go_sem,↓reduceIte,Nat.reduceLT,Nat.reduceLeDiff,Nat.reduceAdd,Nat.reduceSub,Nat.reduceMul,Nat.reduceEqDiff,reduceCtorEq,Int.reduceToNat,Int.reduceEq,Int.reduceBEq,Int.reduceBNe,Int.reduceLT,Int.reduceLE,Int.reduceNeg,Int.reduceAdd,Int.reduceSub,Int.reduceMul,Int.reduceGE,Int.reduceGT,Cl.enc,iv,endO]
 exact retV fun E=>by simp [SV.den,SC.den]
structure PtI (xs:List Cl) where
 i:Nat
 L:List Int
 hi:i≤xs.length
 perm:L.Perm (pks xs i)
 srt:ptSorted xs L
theorem PtI.len {xs:List Cl} (p:PtI xs):p.L.length≤p.i:=by rw [p.perm.length_eq];exact pks_len _ _
theorem PtI.at_ {xs:List Cl} (p:PtI xs) {j:Nat} (h:j<p.L.length):∃ k:Nat,k<p.i∧p.L.getD j 0=k:=by
 have:p.L.getD j 0∈p.L:=by rw [List.getD_eq_getElem?_getD,List.getElem?_eq_getElem h];exact List.getElem_mem h
 obtain ⟨k,h1,h2,_⟩:=mem_pks.1 (p.perm.mem_iff.1 this)
 exact ⟨k,h1,h2⟩
end Go.Proofs.Ytkjeedlkkpgopaa.Z
