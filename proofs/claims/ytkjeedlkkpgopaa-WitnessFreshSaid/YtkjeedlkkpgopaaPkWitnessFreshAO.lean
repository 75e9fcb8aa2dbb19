/- WitnessFreshSaid: what its proof is made of. No condition. -/
import Derived.Test.YtkjeedlkkpgopaaPkWitnessFreshAN
set_option linter.unusedSimpArgs false
set_option linter.unusedVariables false
namespace Go.Proofs.Ytkjeedlkkpgopaa.Z
open Go Go.RowKit
def pk (o:List Nat) (k:Nat):Int:=if k<o.length then ((o.getD k 0:Nat):Int)+1 else 0
theorem pk_pic (o:List Nat):[pk o 0,pk o 1,pk o 2,pk o 3,pk o 4,pk o 5,pk o 6,pk o 7]=pic o:=rfl
def picS (o:List Nat):List SC:=[.v (.int .i8 (pk o 0)),.v (.int .i8 (pk o 1)),.v (.int .i8 (pk o 2)),.v (.int .i8 (pk o 3)),.v (.int .i8 (pk o 4)),.v (.int .i8 (pk o 5)),.v (.int .i8 (pk o 6)),.v (.int .i8 (pk o 7))]
theorem pic_len (o:List Nat):(pic o).length=8:=by simp [pic]
theorem picI_eq (o:List Nat):picI (oI o)=pic o:=by
 unfold picI pic
 refine List.map_congr_left fun k _=>?_
 rw [oI_len]
 split
 ·next h=>simp [oI,List.getD_eq_getElem?_getD,List.getElem?_eq_getElem h]
 ·rfl
theorem picV_eq (o:List Nat) (E:Env):(SV.agg (picS o)).den E=picV (oI o):=by
 rw [picV,picI_eq,← pk_pic]
 simp [picS,SV.den,SC.den]
theorem lstG_app {σ:Type} {h:Hist σ} {cand:List Nat} {rec:List Nat→σ→Mem→Option (List Nat)×Mem} {o:List Nat} {s:σ}:∀ (l r:List Nat) (f:Mem),h.lstG cand rec o s (l++r) f=if (h.lstG cand rec o s l f).1.isSome=true then h.lstG cand rec o s l f else h.lstG cand rec o s r (h.lstG cand rec o s l f).2
 | [],r,f=>by simp [Hist.lstG]
 | i :: l,r,f=>by
  simp only [List.cons_append,Hist.lstG]
  split
  ·split
   ·next h1=>simp
   ·exact lstG_app l r _
  ·exact lstG_app l r _
def wrM:Int→Int:=IntKind.i64.wrap
def gY (ys:List Cl) (k:Nat) (o:List Nat) (m:MC) (f:Mem) (i:Nat):Option (List Nat)×Mem:=(hY ys).lstG (cY ys) ((hY ys).lstF (cY ys) wrM k) o m (List.range i) f
theorem gY_succ (ys:List Cl) (k:Nat) (o:List Nat) (m:MC) (f:Mem) (i:Nat) (hn:(gY ys k o m f i).1=none):gY ys k o m f (i+1)=if ((hY ys).mayW (cY ys) o i && ((hY ys).al m i).2)=true then (hY ys).lstF (cY ys) wrM k (o++[i]) ((hY ys).al m i).1 (gY ys k o m f i).2 else (none,(gY ys k o m f i).2):=by
 have h1:gY ys k o m f (i+1)=if (gY ys k o m f i).1.isSome=true then gY ys k o m f i else (hY ys).lstG (cY ys) ((hY ys).lstF (cY ys) wrM k) o m [i] (gY ys k o m f i).2:=by
  unfold gY
  rw [List.range_succ,lstG_app]
 rw [h1,hn,if_neg (by simp)]
 simp only [Hist.lstG]
 split
 ·split
  ·rfl
  ·next h2 =>
   have h2:((hY ys).lstF (cY ys) wrM k (o++[i]) ((hY ys).al m i).1 (gY ys k o m f i).2).1=none:=by simpa using h2
   exact Prod.ext h2.symm rfl
 ·rfl
theorem gY_some {ys:List Cl} {k:Nat} {o:List Nat} {m:MC} {f:Mem} {i:Nat} (hs:(gY ys k o m f i).1.isSome=true):∀ {j:Nat},i≤j→gY ys k o m f j=gY ys k o m f i
  | 0, h => by have:i=0:=by omega
               subst this;rfl
  | j + 1,h=>by
    by_cases e:i=j+1
    · subst e;rfl
    · have ih:=gY_some (j:=j) hs (by omega)
      have:gY ys k o m f (j+1)=if (gY ys k o m f j).1.isSome=true then gY ys k o m f j else (hY ys).lstG (cY ys) ((hY ys).lstF (cY ys) wrM k) o m [j] (gY ys k o m f j).2:=by
        unfold gY
        rw [List.range_succ,lstG_app]
      rw [this,ih,if_pos hs]
theorem lstY_succ (ys:List Cl) (k:Nat) (o:List Nat) (m:MC) (f:Mem):(hY ys).lstF (cY ys) wrM (k+1) o m f=if (hY ys).whole (cY ys) o=true then (some o,f) else if 0<(f (pic o)).getD 0 then (none,f) else
      (if (gY ys k o m f ys.length).1.isSome=true then gY ys k o m f ys.length else (none,bump wrM (gY ys k o m f ys.length).2 (pic o))):=rfl
theorem arrLe_srm (n:Nat) (hn:10≤n):ArrLe (fun x=>x<n) (idσ id) ⟨1,3,fun _=>[.xv (1,0,0),.xv (2,0,0),.mp (9,0,0)],0⟩ ⟨1,3,fun _=>[.xv (1,0,0),.xv (2,0,0),.mp (9,0,0)],0⟩ :=
 ⟨rfl,rfl,fun e _=>⟨by simp [SC.renL,SC.ren,idσ],by simp [SC.okL,SC.okN];omega⟩,Nat.le_refl _⟩
theorem fact_ls {n bm:Nat} {vo:Value} (hn:10≤n):FactsLe (idσ id) n [FB bm,FO vo] [FB bm,FO vo]:=by
 refine ⟨⟨FB bm,by simp,fun E E2 w h h0=>?_⟩,⟨FO vo,by simp,fun E E2 w h h0=>?_⟩,trivial⟩
 ·exact (h (9,0,0) (show 9<n by omega)).1.trans h0
 ·exact (h (3,0,0) (show 3<n by omega)).2.2.2.trans h0
def ir50:IR:=(.seq (.ops [⟨(some 5),(.box 70 (.t 2)),none⟩,⟨(some 6),(.mv (.k (.c (.v (.slice none 0 0))))),none⟩,⟨(some 7),(.mv (.k (.c (.v (.bool false))))),none⟩]) (.kill [2,3,4,6,7,8,9,10,11] (.seq (.seq (.ops [⟨(some 15),(.mv (.t 0)),none⟩,⟨(some 16),(.mv (.t 1)),none⟩,⟨(some 17),(.call 65 [(.t 15),(.t 16)]),none⟩]) (.kill [15,16] (.cond (.t 17) (.seq (.ops [⟨(some 18),(.mv (.t 1)),none⟩,⟨(some 6),(.mv (.t 18)),none⟩,⟨(some 7),(.mv (.k (.c (.v (.bool true))))),none⟩]) (.kill [0,1,5,17,18] .ret)) .skip))) (.kill [6,7,17] (.seq (.seq (.draw [(⟨(some 19),(.mv (.t 0)),none⟩,([],[23,24])),(⟨(some 20),(.nilck (.t 19)),none⟩,([],[23,24])),(⟨(some 21),(.fa 2 (.t 20)),none⟩,([],[23,24])),(⟨(some 22),(.ld false 1 (.t 21)),none⟩,([],[23,24])),(⟨(some 23),(.mv (.t 1)),none⟩,([0,1,2,3],[19,20,21,22])),(⟨(some 24),(.call 66 [(.t 23)]),none⟩,([0,1,2,3],[19,20,21,22])),(⟨(some 25),(.lkp (.arr 8 .i8) .i64 false (.t 22) (.t 24)),none⟩,([],[])),(⟨(some 26),(.bin .gtr (.t 25) (.k (.c (.v (.int .i64 0))))),none⟩,([],[]))]) (.kill [19,20,21,22,23,24,25] (.cond (.t 26) (.seq (.ops [⟨(some 6),(.mv (.k (.c (.v (.slice none 0 0))))),none⟩,⟨(some 7),(.mv (.k (.c (.v (.bool false))))),none⟩]) (.kill [0,1,5,26] .ret)) .skip))) (.kill [6,7,26] (.seq (.seq (.ops [⟨(some 27),(.mv (.t 0)),none⟩,⟨(some 28),(.nilck (.t 27)),none⟩,⟨(some 29),(.fa 0 (.t 28)),none⟩,⟨(some 30),(.ld false 1 (.t 29)),none⟩,⟨(some 31),(.len (.t 30)),none⟩,⟨(some 32),(.mv (.k (.c (.v (.int .i64 0))))),none⟩]) (.kill [27,28,29] (.blk 0 (.loop (.seq (.ops [⟨(some 33),(.bin .lss (.t 32) (.t 31)),none⟩]) (.kill [6,7,8,9,10,11,12,13,14,34,35,36,37,38,39,40,41,42,43,44,45,46,47,48,49,50,51,52,53,54,55,56,57,58,59,60,61,62,63,64] (.seq (.cond (.t 33) .skip (.exit 0)) (.kill [33] (.seq (.blk 1 (.seq (.ops [⟨(some 34),(.mv (.t 32)),none⟩,⟨(some 35),(.ia 9 (.t 30) (.t 32)),none⟩,⟨(some 36),(.ld true 9 (.t 35)),none⟩,⟨(some 9),(.new 53 [(.v (.int .i64 0)),(.v (.int .i64 0)),(.v (.int .i64 0)),(.v (.int .i64 0)),(.v (.int .i64 0)),(.v (.int .i64 0)),(.v (.int .i64 0)),(.v (.int .i64 0)),(.v (.int .i64 0))]),none⟩,⟨(some 8),(.mv (.t 34)),none⟩,⟨none,(.st 9 (.t 9) (.t 36)),none⟩]) (.kill [34,35,36] (.seq (.seq (.ops [⟨(some 37),(.mv (.t 0)),none⟩,⟨(some 38),(.mv (.t 1)),none⟩,⟨(some 39),(.mv (.t 8)),none⟩,⟨(some 40),(.call 67 [(.t 37),(.t 38),(.t 39)]),none⟩,⟨(some 41),(.un .not (.t 40)),none⟩]) (.kill [37,38,39,40] (.cond (.t 41) (.exit 1) .skip))) (.kill [41] (.seq (.ops [⟨(some 43),(.ld true 5 (.t 5)),none⟩,⟨(some 44),(.ld true 9 (.t 9)),none⟩,⟨(some 45),(.call 68 [(.t 43),(.t 44)]),none⟩,⟨(some 42),(.mv (.t 45)),none⟩,⟨(some 46),(.ext 0 (.t 42)),none⟩,⟨(some 47),(.ext 1 (.t 42)),none⟩,⟨(some 48),(.ext 2 (.t 42)),none⟩,⟨(some 10),(.new 70 [(.v (.slice none 0 0)),(.v (.slice none 0 0)),(.v (.slice none 0 0)),(.v (.slice none 0 0)),(.v (.slice none 0 0))]),none⟩,⟨none,(.st 5 (.t 10) (.t 46)),none⟩,⟨(some 11),(.mv (.t 47)),none⟩,⟨(some 12),(.mv (.t 48)),none⟩]) (.kill [9,12,42,43,44,45,46,47,48] (.seq (.seq (.ops [⟨(some 49),(.mv (.t 11)),none⟩,⟨(some 50),(.un .not (.t 49)),none⟩]) (.kill [11,49] (.cond (.t 50) (.exit 1) .skip))) (.kill [50] (.seq (.draw [(⟨(some 52),(.mv (.t 0)),none⟩,([],[53,54,55,56,57,58])),(⟨(some 53),(.mv (.t 1)),none⟩,([0],[52,55,56,58])),(⟨(some 54),(.call 69 [(.t 53)]),none⟩,([0],[52,55,56,58])),(⟨(some 55),(.mv (.t 8)),none⟩,([0,1,2],[52,53,54,58])),(⟨(some 56),(.mkSl 3 1 1 [(.v (.int .i64 0))] [(0,(1,(.t 55)))]),none⟩,([0,1,2],[52,53,54,58])),(⟨(some 57),(.app 3 1 8 [(.v (.int .i64 0))] (.t 54) (.t 56)),none⟩,([0],[52,58])),(⟨(some 58),(.ld true 5 (.t 10)),none⟩,([0,1,2,3,4,5],[52,53,54,55,56,57])),(⟨(some 59),(.call 50 [(.t 52),(.t 57),(.t 58)]),none⟩,([],[])),(⟨(some 51),(.mv (.t 59)),none⟩,([],[])),(⟨(some 60),(.ext 0 (.t 51)),none⟩,([],[61])),(⟨(some 61),(.ext 1 (.t 51)),none⟩,([9],[60,13])),(⟨(some 13),(.mv (.t 60)),none⟩,([10],[61])),(⟨(some 14),(.mv (.t 61)),none⟩,([],[]))]) (.kill [8,10,51,52,53,54,55,56,57,58,59,60,61] (.seq (.ops [⟨(some 62),(.mv (.t 14)),none⟩]) (.kill [14] (.cond (.t 62) (.seq (.ops [⟨(some 63),(.mv (.t 13)),none⟩,⟨(some 6),(.mv (.t 63)),none⟩,⟨(some 7),(.mv (.k (.c (.v (.bool true))))),none⟩]) (.kill [0,1,5,13,30,31,32,62,63] .ret)) .skip)))))))))))))) (.kill [6,7,8,9,10,11,12,13,14,34,35,36,37,38,39,40,41,42,43,44,45,46,47,48,49,50,51,52,53,54,55,56,57,58,59,60,61,62,63] (.ops [⟨(some 64),(.bin .add (.t 32) (.k (.c (.v (.int .i64 1))))),none⟩,⟨(some 32),(.mv (.t 64)),none⟩]))))))))))) (.kill [5,6,7,8,9,10,11,12,13,14,30,31,32,33,34,35,36,37,38,39,40,41,42,43,44,45,46,47,48,49,50,51,52,53,54,55,56,57,58,59,60,61,62,63,64] (.seq (.draw [(⟨(some 65),(.mv (.t 0)),none⟩,([],[69,70])),(⟨(some 66),(.nilck (.t 65)),none⟩,([],[69,70])),(⟨(some 67),(.fa 2 (.t 66)),none⟩,([],[69,70])),(⟨(some 68),(.ld false 1 (.t 67)),none⟩,([],[69,70])),(⟨(some 69),(.mv (.t 1)),none⟩,([0,1,2,3],[65,66,67,68])),(⟨(some 70),(.call 66 [(.t 69)]),none⟩,([0,1,2,3],[65,66,67,68])),(⟨(some 71),(.lkp (.arr 8 .i8) .i64 false (.t 68) (.t 70)),none⟩,([],[73,74])),(⟨(some 72),(.bin .add (.t 71) (.k (.c (.v (.int .i64 1))))),none⟩,([],[73,74])),(⟨(some 73),(.ent (.arr 8 .i8) .i64 (.t 68) (.t 70)),none⟩,([6,7],[71,72])),(⟨(some 74),(.ext 1 (.t 73)),none⟩,([6,7],[71,72])),(⟨none,(.ests (.arr 8 .i8) .i64 (.t 68) (.t 74) (.t 72)),none⟩,([],[]))]) (.kill [0,1,65,66,67,68,69,70,71,72,73,74] (.seq (.ops [⟨(some 6),(.mv (.k (.c (.v (.slice none 0 0))))),none⟩,⟨(some 7),(.mv (.k (.c (.v (.bool false))))),none⟩]) .ret)))))))))))
def rs50:List RS:=[(.t 6),(.t 7)]
def nt50:Nat:=75
set_option maxRecDepth 100000 in
set_option maxHeartbeats 400000 in
theorem least_calls:∀ (k:Nat) (w:World) (v vo vm:Value) (ys:List Cl) (nms:List Int) (bm:Nat) (o:List Nat) (m:MC) (f:Mem) (hk:k≤9) (h8:ys.length≤8) (hob:∀ i,i<ys.length→objOf (ys.getD i cl0).op≠0) (hS:Sr w v ys nms bm) (hf0:MapF w bm f) (h:Arr w eI 1 vo (oI o)) (hc:Cont w vm m)
  (hm:mayB m=true) (hu:m.upto o.length) (hf:ys.length+1≤k+o.length) (hn:o.Nodup) (hs:∀ i∈o,i<ys.length),Calls Try.prog 50 #[v,vo,vm] w (LsP w bm vo ((hY ys).whole (cY ys) o) ((hY ys).lstF (cY ys) wrM k o m f).1 ((hY ys).lstF (cY ys) wrM k o m f).2):=by
 intro k
 induction k with
 | zero =>
  intro w v vo vm ys nms bm o m f hk h8 hob hS hf0 h hc hm hu hf hn hs
  have:=o_len hn hs
  omega
 | succ k ih =>
  intro w v vo vm ys nms bm o m f hk h8 hob hS hf0 h hc hm hu hf hn hs
  have hol:=o_len hn hs
  have hok:MC.okR m:=hu.okR (by omega)
  refine enterLS (c:=ir50) (rs:=rs50) (nt:=nt50) hS h hc hf0 Try.func50 rfl (by kernel_rfl) (by kernel_rfl) rfl (of_decide_eq_true rfl) ?_
  simp (maxSteps:=2000000) only [ir50,nt50,rs50,go_sem,↓reduceIte,Nat.reduceLT,Nat.reduceLeDiff,Nat.reduceAdd,Nat.reduceSub,Nat.reduceMul,Nat.reduceEqDiff,reduceCtorEq,Int.reduceToNat,Int.reduceEq,Int.reduceBEq,Int.reduceBNe,Int.reduceLT,Int.reduceLE,Int.reduceNeg,Int.reduceAdd,Int.reduceSub,Int.reduceMul,Int.reduceGE,Int.reduceGT,Cl.enc,iv,endO,srA,mcS,mcA,mkW_rs,List.cons_append,List.nil_append]
  have hbm:∀ {R:Ending→World→Prop} {rs:List RS} {E:Env} {S:St} {a:Act} {w' : World},Sat (mkW Try.prog w bm rs R).B (mkW Try.prog w bm rs R).W (mkW Try.prog w bm rs R).w0 E S a w'→FB bm∈S.facts→E.ρ (9,0,0)=bm:=fun {R rs E S a w'} hs hfb=>(holds_of (C:=mkW Try.prog w bm rs R) hs).2 _ hfb
  refine callV (.c (.bo ((hY ys).whole (cY ys) o))) _ (fun E=>rfl) (fun E a w' hs=>by
   have:=whole_calls w' _ _ ys nms (oI o) _ (sr_at (m:=.mp (9,0,0)) hs rfl rfl rfl rfl) (arr_at (d:=0) hs 3 rfl)
   rw [whole_eq] at this
   exact this) ?_
  rw [lstY_succ]
  simp (maxSteps:=2000000) only [go_sem,↓reduceIte,Nat.reduceLT,Nat.reduceLeDiff,Nat.reduceAdd,Nat.reduceSub,Nat.reduceMul,Nat.reduceEqDiff,reduceCtorEq,Int.reduceToNat,Int.reduceEq,Int.reduceBEq,Int.reduceBNe,Int.reduceLT,Int.reduceLE,Int.reduceNeg,Int.reduceAdd,Int.reduceSub,Int.reduceMul,Int.reduceGE,Int.reduceGT,Cl.enc,iv,endO,mkW_rs]
  refine both (fun hw=>?_) (fun hw=>?_)
  ·rw [hw]
   simp only [if_true]
   exact ret_ls (by simp) rfl (fun _ _=>rfl) rfl (fun _=>⟨rfl,by simp⟩) (fun h=>by cases h)
  rw [hw]
  simp only [Bool.false_eq_true,if_false]
  have hoil:=oI_len o
  have hoi8:∀ x∈oI o,0≤x∧x<8:=fun x hx=>by
   obtain ⟨j,hj,rfl⟩:=List.mem_map.1 hx
   have:=hs j hj
   omega
  refine draw_vc (by kernel_rfl) (mkTab_ok _ _) (of_decide_eq_true rfl) (of_decide_eq_true rfl) ?_
  repeat (first | simp (maxSteps:=2000000) only [go_sem,↓reduceIte,Nat.reduceLT,Nat.reduceLeDiff,Nat.reduceAdd,Nat.reduceSub,Nat.reduceMul,Nat.reduceEqDiff,reduceCtorEq,Int.reduceToNat,Int.reduceEq,Int.reduceBEq,Int.reduceBNe,Int.reduceLT,Int.reduceLE,Int.reduceNeg,Int.reduceAdd,Int.reduceSub,Int.reduceMul,Int.reduceGE,Int.reduceGT,Cl.enc,iv,endO,srA] | rw [dr_cons])
  refine dcallV (.agg (picS o)) _ (picV_eq o) (fun E a w' hs2=>picture_calls w' _ (oI o) (by omega) hoi8 (arr_at (d:=0) hs2 3 rfl)) ?_
  repeat (first | simp (maxSteps:=2000000) only [go_sem,↓reduceIte,Nat.reduceLT,Nat.reduceLeDiff,Nat.reduceAdd,Nat.reduceSub,Nat.reduceMul,Nat.reduceEqDiff,reduceCtorEq,Int.reduceToNat,Int.reduceEq,Int.reduceBEq,Int.reduceBNe,Int.reduceLT,Int.reduceLE,Int.reduceNeg,Int.reduceAdd,Int.reduceSub,Int.reduceMul,Int.reduceGE,Int.reduceGT,Cl.enc,iv,endO,srA,picS,pk_pic,KK.len,pic_len] | rw [dr_cons])
  refine both (fun hv=>?_) (fun hv=>?_)
  ·rw [decide_eq_true_eq] at hv
   rw [if_pos hv]
   exact ret_ls (by simp) rfl (fun _ _=>rfl) rfl (fun h=>by cases h) (fun _=>rdN_nil)
  rw [decide_eq_false_iff_not] at hv
  rw [if_neg hv]
  repeat (with_reducible refine And.intro (by first | (simp only [maxLen];omega) | omega | decide | (simp;done) | (simp [maxLen];omega)) ?_)
  refine loopI (ι:={ i:Nat // i≤ys.length∧(gY ys k o m f i).1=none }) (fun i=>⟨75,[(0,.c (.ep (0,0,0) 3 0 0)),(1,.c (.xv (3,0,0))),(5,.c (.ptr (10,0,0) 0)),(30,.c (.xv (1,0,0))),(31,.c (.v (.int .i64 ys.length))),(32,.c (.v (.int .i64 (i.1:Nat))))],
   [(9,.one (.mp (.arr 8 .i8) .i64 (gY ys k o m f i.1).2)),(10,.one (.bk (mcS 4) 70))],(3,.one (arrOf eI 1 (oI o) 0)) :: (srA 0 ys nms (.mp (9,0,0))++mcA 4 m),[FB bm,FO vo],11⟩)
   (fun i=>ys.length - i.1) ⟨0,by omega,rfl⟩ ?_ ?_
  ·simp only [srA,mcS,mcA,List.cons_append,List.nil_append]
   exact le_tmps (by simp [TmpsSub,look])
  rintro ⟨i,hi,hgn⟩
  have hgs:=gY_succ ys k o m f i hgn
  have hgt:∀ {j},(gY ys k o m f (i+1)).1.isSome=true→i+1≤j→gY ys k o m f j=gY ys k o m f (i+1):=fun h1 h2=>gY_some h1 h2
  generalize hgi:(gY ys k o m f i).2=fi at hgs ⊢
  simp (maxSteps:=2000000) only [go_sem,↓reduceIte,Nat.reduceLT,Nat.reduceLeDiff,Nat.reduceAdd,Nat.reduceSub,Nat.reduceMul,Nat.reduceEqDiff,reduceCtorEq,Int.reduceToNat,Int.reduceEq,Int.reduceBEq,Int.reduceBNe,Int.reduceLT,Int.reduceLE,Int.reduceNeg,Int.reduceAdd,Int.reduceSub,Int.reduceMul,Int.reduceGE,Int.reduceGT,Cl.enc,iv,endO,mkW_rs,srA,mcS,mcA,List.cons_append,List.nil_append]
  refine both (fun hlt=>?_) (fun hge=>?_)
  ·rw [decide_eq_true_eq] at hlt
   have hlt:i<ys.length:=by omega
   generalize hci:ys.getD i cl0=ci
   have hal:(hY ys).al m i=allowM m ci:=by rw [← hci];rfl
   rw [hal] at hgs
   have hmn:=mayN_eq ys o i
   have hobi:=hob i hlt
   rw [hci] at hobi
   repeat (with_reducible refine And.intro (by first | (simp only [maxLen];omega) | omega | decide | (simp;done) | (simp [maxLen];omega)) ?_)
   refine callV (.c (.bo ((hY ys).mayW (cY ys) o i))) _ (fun E=>rfl) (fun E a w' hs2=>by
    have:=may_next w' _ _ ys nms (oI o) _ i hlt (sr_at (m:=.mp (9,0,0)) hs2 rfl rfl rfl rfl) (arr_at (d:=0) hs2 3 rfl)
    rw [hmn] at this
    exact this) ?_
   simp (maxSteps:=2000000) only [go_sem,↓reduceIte,Nat.reduceLT,Nat.reduceLeDiff,Nat.reduceAdd,Nat.reduceSub,Nat.reduceMul,Nat.reduceEqDiff,reduceCtorEq,Int.reduceToNat,Int.reduceEq,Int.reduceBEq,Int.reduceBNe,Int.reduceLT,Int.reduceLE,Int.reduceNeg,Int.reduceAdd,Int.reduceSub,Int.reduceMul,Int.reduceGE,Int.reduceGT,Cl.enc,iv,endO,mkW_rs]
   refine both (fun hb=>?_) (fun hb=>?_)
   ·have hb:(hY ys).mayW (cY ys) o i=false:=by simpa using hb
    rw [hb,Bool.false_and,if_neg (by simp)] at hgs
    have e2:(gY ys k o m f (i+1)).2=fi:=by rw [hgs]
    rw [wr_succ (by omega)]
    exact backI ⟨i+1,by omega,by rw [hgs]⟩ (by simp only;omega) (by simp only [srA,mcS,mcA,List.cons_append,List.nil_append];exact le_renF id rfl (fact_ls (of_decide_eq_true rfl)) (by simp [TmpsLe,look,SV.ren,SC.ren,SC.renL,ren1L,ren1,idσ,SV.okN,SC.okN,SC.okL,ok1L]) (by simp [OwnLe,BlkLeO,BlkLe,atN,look,Fm.get,idσ,SC.renL,SC.ren,SC.okL,SC.okN,renL_v,okL_v,e2]) (by simp [ArrsLe,ArrLeO,atN,look,Fm.get,idσ,arrLe_of,arrLe_0,arrLe_srm]) rfl)
   ·have hb:(hY ys).mayW (cY ys) o i=true:=by simpa using hb
    rw [hb,Bool.true_and] at hgs
    refine callB 5 (alT (allowM m ci)) (mcR (allowM m ci).1) (fun E a w' hs2=>al_Z ci (cont_at hs2 4 rfl rfl rfl rfl rfl) hok hm hobi) ?_
    simp (maxSteps:=2000000) only [go_sem,↓reduceIte,Nat.reduceLT,Nat.reduceLeDiff,Nat.reduceAdd,Nat.reduceSub,Nat.reduceMul,Nat.reduceEqDiff,reduceCtorEq,Int.reduceToNat,Int.reduceEq,Int.reduceBEq,Int.reduceBNe,Int.reduceLT,Int.reduceLE,Int.reduceNeg,Int.reduceAdd,Int.reduceSub,Int.reduceMul,Int.reduceGE,Int.reduceGT,Cl.enc,iv,endO,mkW_rs,alT,mcS,mcR,mcA]
    have hup:=allowM_upto (c:=ci) hu
    have hmy:=allowM_may (c:=ci) hm
    generalize allowM m ci=p at hgs hup hmy ⊢
    obtain ⟨m2,b⟩:=p
    simp only at hgs hup hmy
    refine both (fun hbb=>?_) (fun hbb=>?_)
    ·have hbb:b=false:=by simpa using hbb
     rw [if_neg (by simp [hbb])] at hgs
     have e2:(gY ys k o m f (i+1)).2=fi:=by rw [hgs]
     rw [wr_succ (by omega)]
     exact backI ⟨i+1,by omega,by rw [hgs]⟩ (by simp only;omega) (by simp only [srA,mcS,mcA,List.cons_append,List.nil_append];exact le_renF id rfl (fact_ls (of_decide_eq_true rfl)) (by simp [TmpsLe,look,SV.ren,SC.ren,SC.renL,ren1L,ren1,idσ,SV.okN,SC.okN,SC.okL,ok1L]) (by simp [OwnLe,BlkLeO,BlkLe,atN,look,Fm.get,idσ,SC.renL,SC.ren,SC.okL,SC.okN,renL_v,okL_v,e2]) (by simp [ArrsLe,ArrLeO,atN,look,Fm.get,idσ,arrLe_of,arrLe_0,arrLe_srm]) rfl)
    ·have hbb:b=true:=by simpa using hbb
     rw [if_pos hbb] at hgs
     subst hbb
     have hio:=(mayW_iff.1 hb).1
     have hnn:(o++[i]).Nodup:=by
      rw [List.nodup_append]
      exact ⟨hn,by simp,fun a ha b hb=>by rw [List.mem_singleton] at hb;exact fun e=>hio (by rw [← hb,← e];exact ha)⟩
     have hss:∀ j∈o++[i],j<ys.length:=fun j hj=>by
      rcases List.mem_append.1 hj with hj | hj
      ·exact hs j hj
      ·rw [List.mem_singleton] at hj;exact hj ▸ hlt
     have hll:(o++[i]).length=o.length+1:=by simp
     refine draw_vc (by kernel_rfl) (mkTab_ok _ _) (of_decide_eq_true rfl) (of_decide_eq_true rfl) ?_
     repeat (first | simp (maxSteps:=2000000) only [go_sem,↓reduceIte,Nat.reduceLT,Nat.reduceLeDiff,Nat.reduceAdd,Nat.reduceSub,Nat.reduceMul,Nat.reduceEqDiff,reduceCtorEq,Int.reduceToNat,Int.reduceEq,Int.reduceBEq,Int.reduceBNe,Int.reduceLT,Int.reduceLE,Int.reduceNeg,Int.reduceAdd,Int.reduceSub,Int.reduceMul,Int.reduceGE,Int.reduceGT,Cl.enc,iv,endO,srA,mkW_rs] | rw [dr_cons])
     refine dcall_intro (cr_valN (.c (.xs (3,0,0) 1 0 (oI o).length (some (oI o).length))) [3] (by simp [SV.okN,SC.okN]) (fun E a w' hs=>?_)) rfl trivial trivial (fun k hk=>by cases hk) ?_
     ·have hA:=arr_at (d:=0) (l:=0) (xs:=oI o) (enc:=eI) (s:=1) hs 3 rfl
      have hcl:=clip_calls w' _ (oI o) hA
      obtain ⟨ba,cap,hv,_⟩:=hA
      refine hcl.mono ?_
      rintro e w2 ⟨rfl,hb2⟩
      refine ⟨?_,hb2⟩
      rw [den_c]
      simp only [SC.den,hv,clipV]
      cases ba <;> simp [Addr.add]
     repeat (first | simp (maxSteps:=2000000) only [go_sem,↓reduceIte,Nat.reduceLT,Nat.reduceLeDiff,Nat.reduceAdd,Nat.reduceSub,Nat.reduceMul,Nat.reduceEqDiff,reduceCtorEq,Int.reduceToNat,Int.reduceEq,Int.reduceBEq,Int.reduceBNe,Int.reduceLT,Int.reduceLE,Int.reduceNeg,Int.reduceAdd,Int.reduceSub,Int.reduceMul,Int.reduceGE,Int.reduceGT,Cl.enc,iv,endO,srA,mkW_rs] | rw [dr_cons])
     have hf8:((oI o).length+1+((oI o).length+1) / 4+192) * 8≤281474976710656:=fit_app8 _ (by omega)
     have hml:(oI o).length+1≤maxLen:=by simp only [maxLen];omega
     refine And.intro (by decide) (And.intro (Or.inl trivial) (And.intro (And.intro (Nat.le_refl _) (And.intro hf8 hml)) (And.intro (Or.inl trivial) ?_)))
     clear hf8 hml
     have hol1:=o_len hnn hss
     have ihc:∀ {C:Ctx} {E:Env} {S:St} {a:Act} {w' : World},Sat C.B C.W C.w0 E S a w'→look S.own 9=some (.one (.mp (.arr 8 .i8) .i64 fi))→look S.arrs 0=some (.one ⟨1,3,fun _=>[.xv (1,0,0),.xv (2,0,0),.mp (9,0,0)],0⟩)→look S.arrs 1=some (.one (arrOf Cl.enc 9 ys cl0))→look S.arrs 2=some (.one (arrOf eI 1 nms 0)) →
       look S.own 19=some (.one (.ar ((oI o).length+1) 1 (appAt (oI o).length (fun e=>List.map SC.v (eI ((oI o).getD e 0))) fun e=>take' 1 (drop' (e * 1) [SC.v (Value.int IntKind.i64 i)])) 3))→look S.arrs 12=some (.one (arrOf eI 1 m2.cell 0))→look S.arrs 13=some (.one (arrOf eI 1 m2.stack 0))→look S.arrs 14=some (.one (arrOf eI 1 m2.queue 0))→look S.arrs 15=some (.one (arrOf eI 1 m2.set 0))→look S.arrs 16=some (.one (arrOf eP 2 m2.table (0,0))) →
       Calls Try.prog 50 #[(SC.ep (0,0,0) 3 0 0).den E,(SC.sl (19,0,0) 1 0 ((oI o).length+1) none).den E,.agg ((mcS 12).map (SC.den E)).toArray] w' (LsP w' (E.ρ (9,0,0)) ((SC.sl (19,0,0) 1 0 ((oI o).length+1) none).den E) ((hY ys).whole (cY ys) (o++[i])) ((hY ys).lstF (cY ys) wrM k (o++[i]) m2 fi).1 ((hY ys).lstF (cY ys) wrM k (o++[i]) m2 fi).2) :=
      fun {C E S a w'} hs2 l9 l0 l1 l2 l19 q0 q1 q2 q3 q4=>ih w' _ _ _ ys nms _ (o++[i]) m2 fi (by omega) h8 hob (sr_at (m:=.mp (9,0,0)) hs2 l0 l1 l2 rfl) (map_at hs2 l9).1
       (arr_own (d:=0) hs2 19 ((oI o).length+1) _ _ l19 (by rw [oI_push];simp) (by rw [oI_push];simp) (fun e he=>ats_push (oI_push o i) rfl (fun e he=>rfl) rfl e he)) (cont_at hs2 12 q0 q1 q2 q3 q4) hmy (by rw [hll];exact hup) (by rw [hll];omega) hnn hss
     by_cases hwi:(hY ys).whole (cY ys) (o++[i])=true
     ·have hlk:(hY ys).lstF (cY ys) wrM k (o++[i]) m2 fi=(some (o++[i]),fi):=by
       obtain ⟨k',rfl⟩:∃ k',k=k' + 1:=⟨k - 1,by omega⟩
       rw [lstY_succ,if_pos hwi]
      rw [hlk] at hgs ihc
      rw [hwi] at ihc
      have hG:gY ys k o m f ys.length=(some (o++[i]),fi):=(hgt (by rw [hgs];rfl) (by omega)).trans hgs
      rw [hG]
      simp only [Option.isSome_some,if_true]
      refine dcall_intro (cr_lsT (r:=some (o++[i])) (g':=fi) (c:=.sl (19,0,0) 1 0 ((oI o).length+1) none) 57 rfl rfl rfl (fun E a w' hs2=>ihc hs2 rfl rfl rfl rfl rfl rfl rfl rfl rfl rfl)) rfl trivial ?_ ?_ ?_
      ·exact ⟨Or.inr ⟨of_decide_eq_true rfl,rfl,trivial⟩,trivial⟩
      ·intro q hq _
       simp only [keysL,List.mem_cons,List.not_mem_nil,or_false] at hq
       subst hq
       rfl
      repeat (first | simp (maxSteps:=2000000) only [go_sem,↓reduceIte,Nat.reduceLT,Nat.reduceLeDiff,Nat.reduceAdd,Nat.reduceSub,Nat.reduceMul,Nat.reduceEqDiff,reduceCtorEq,Int.reduceToNat,Int.reduceEq,Int.reduceBEq,Int.reduceBNe,Int.reduceLT,Int.reduceLE,Int.reduceNeg,Int.reduceAdd,Int.reduceSub,Int.reduceMul,Int.reduceGE,Int.reduceGT,Cl.enc,iv,endO,srA,mkW_rs] | rw [dr_cons])
      exact ret_ls (by simp) rfl (fun _ _=>rfl) rfl (fun h=>by cases h) (fun _=>rdN_slW (by simp) rfl 19 rfl (by simp [oI_push]) (Nat.le_refl _) (fun e he=>ats_push (oI_push o i) rfl (fun e he=>rfl) rfl e he))
     ·have hwi:(hY ys).whole (cY ys) (o++[i])=false:=by simpa using hwi
      rw [hwi] at ihc
      generalize (hY ys).lstF (cY ys) wrM k (o++[i]) m2 fi=p at hgs ihc
      obtain ⟨r,f2⟩:=p
      simp only at ihc
      refine dcall_intro (cr_lsF (r:=r) (g':=f2) (vo:=fun E=>(SC.sl (19,0,0) 1 0 ((oI o).length+1) none).den E) rfl (fun E a w' hs2=>ihc hs2 rfl rfl rfl rfl rfl rfl rfl rfl rfl rfl)) rfl ?_ ?_ ?_ ?_
      ·simp [newOk,keysL]
      ·exact ⟨Or.inr ⟨of_decide_eq_true rfl,rfl,trivial⟩,trivial⟩
      ·intro q hq _
       simp only [keysL,List.mem_cons,List.not_mem_nil,or_false] at hq
       subst hq
       rfl
      cases r with
      | none =>
       repeat (first | simp (maxSteps:=2000000) only [go_sem,↓reduceIte,Nat.reduceLT,Nat.reduceLeDiff,Nat.reduceAdd,Nat.reduceSub,Nat.reduceMul,Nat.reduceEqDiff,reduceCtorEq,Int.reduceToNat,Int.reduceEq,Int.reduceBEq,Int.reduceBNe,Int.reduceLT,Int.reduceLE,Int.reduceNeg,Int.reduceAdd,Int.reduceSub,Int.reduceMul,Int.reduceGE,Int.reduceGT,Cl.enc,iv,endO,srA,mkW_rs,mkW_B,Option.isSome_none,Option.getD_none] | rw [dr_cons])
       have e2:(gY ys k o m f (i+1)).2=f2:=by rw [hgs]
       rw [wr_succ (by omega)]
       exact backI ⟨i+1,by omega,by rw [hgs]⟩ (by simp only;omega) (by simp only [srA,mcS,mcA,List.cons_append,List.nil_append];exact le_renF id rfl (fact_ls (of_decide_eq_true rfl)) (by simp [TmpsLe,look,SV.ren,SC.ren,SC.renL,ren1L,ren1,idσ,SV.okN,SC.okN,SC.okL,ok1L]) (by simp [OwnLe,BlkLeO,BlkLe,atN,look,Fm.get,idσ,SC.renL,SC.ren,SC.okL,SC.okN,renL_v,okL_v,e2]) (by simp [ArrsLe,ArrLeO,atN,look,Fm.get,idσ,arrLe_of,arrLe_0,arrLe_srm]) rfl)
      | some x =>
       have hG:gY ys k o m f ys.length=(some x,f2):=(hgt (by rw [hgs];rfl) (by omega)).trans hgs
       rw [hG]
       simp only [Option.isSome_some,if_true]
       repeat (first | simp (maxSteps:=2000000) only [go_sem,↓reduceIte,Nat.reduceLT,Nat.reduceLeDiff,Nat.reduceAdd,Nat.reduceSub,Nat.reduceMul,Nat.reduceEqDiff,reduceCtorEq,Int.reduceToNat,Int.reduceEq,Int.reduceBEq,Int.reduceBNe,Int.reduceLT,Int.reduceLE,Int.reduceNeg,Int.reduceAdd,Int.reduceSub,Int.reduceMul,Int.reduceGE,Int.reduceGT,Cl.enc,iv,endO,srA,mkW_rs,mkW_B,Option.isSome_some,Option.getD_some] | rw [dr_cons])
       exact ret_ls (by simp) rfl (fun _ _=>rfl) rfl (fun h=>by cases h) (fun _=>rdN_lo 20 rfl (Nat.le_refl _))
  ·rw [decide_eq_false_iff_not] at hge
   have hin:i=ys.length:=by omega
   subst hin
   rw [hgn,hgi]
   simp only [Option.isSome_none,Bool.false_eq_true,if_false]
   refine draw_vc (by kernel_rfl) (mkTab_ok _ _) (of_decide_eq_true rfl) (of_decide_eq_true rfl) ?_
   repeat (first | simp (maxSteps:=2000000) only [go_sem,↓reduceIte,Nat.reduceLT,Nat.reduceLeDiff,Nat.reduceAdd,Nat.reduceSub,Nat.reduceMul,Nat.reduceEqDiff,reduceCtorEq,Int.reduceToNat,Int.reduceEq,Int.reduceBEq,Int.reduceBNe,Int.reduceLT,Int.reduceLE,Int.reduceNeg,Int.reduceAdd,Int.reduceSub,Int.reduceMul,Int.reduceGE,Int.reduceGT,Cl.enc,iv,endO,srA,mkW_rs] | rw [dr_cons])
   refine dcallV (.agg (picS o)) _ (picV_eq o) (fun E a w' hs2=>picture_calls w' _ (oI o) (by omega) hoi8 (arr_at (d:=0) hs2 3 rfl)) ?_
   repeat (first | simp (maxSteps:=2000000) only [go_sem,↓reduceIte,Nat.reduceLT,Nat.reduceLeDiff,Nat.reduceAdd,Nat.reduceSub,Nat.reduceMul,Nat.reduceEqDiff,reduceCtorEq,Int.reduceToNat,Int.reduceEq,Int.reduceBEq,Int.reduceBNe,Int.reduceLT,Int.reduceLE,Int.reduceNeg,Int.reduceAdd,Int.reduceSub,Int.reduceMul,Int.reduceGE,Int.reduceGT,Cl.enc,iv,endO,srA,picS,pk_pic,KK.len,pic_len,mkW_rs] | rw [dr_cons])
   exact ⟨Or.inr trivial,Or.inr trivial,ret_ls (by simp) rfl (fun a _=>rfl) rfl (fun h=>by cases h) (fun _=>rdN_nil)⟩
end Go.Proofs.Ytkjeedlkkpgopaa.Z
namespace Go.Proofs.Ytkjeedlkkpgopaa.Z
open Go Go.RowKit
theorem le_nil2 {C:Ctx} {nt:Nat} {tmps:List (Nat×SV)} {own:Own} {arrs:List (Nat×Fm ArrF)} {facts:List (Env→World→Prop)} {nid:Nat} (j ty s1 t1 s2 t2:Nat) (f1 f2:Nat→List SC) (x:Nm) (hx:x.1<nid) (hj:look own j=some (.one (.bk [.v (.slice none 0 0),.v (.slice none 0 0),.mp x] ty))) (h1:look own nid=none) (h2:look own (nid+1)=none) :
  Le C ⟨nt,tmps,own,arrs,facts,nid⟩ ⟨nt,tmps,(nid,.one (.ar 0 s1 f1 t1)) :: (nid+1,.one (.ar 0 s2 f2 t2)) :: setL own j (.one (.bk [.sl (nid,0,0) s1 0 0 none,.sl (nid+1,0,0) s2 0 0 none,.mp x] ty)),arrs,facts,nid+2⟩:=by
 intro E a w hs
 refine ⟨⟨E.ρ,fun x=>if nid≤x.1 then 0 else E.κ x,fun x=>if nid≤x.1 then true else E.ν x,E.χ⟩,hs.1,fun E2 hE2 ho2=>?_⟩
 have hs2:=hs.2 E2 (fun x hx=>by
  have hx:x.1<nid:=hx
  obtain ⟨h1,h2,h3,h4⟩:=hE2 x (show x.1<nid+2 by omega)
  exact ⟨h1,by rw [h2];simp only;rw [if_neg (by omega)],by rw [h3];simp only;rw [if_neg (by omega)],h4⟩) ho2
 have hnil:∀ x:Nm,nid≤x.1→x.1<nid+2→E2.κ x=0∧E2.ν x=true:=fun x h1 h2=>by
  obtain ⟨_,h3,h4,_⟩:=hE2 x (show x.1<nid+2 from h2)
  rw [h3,h4]
  simp only
  rw [if_pos h1,if_pos h1]
  exact ⟨rfl,rfl⟩
 have hjn:j≠nid∧j≠nid+1:=⟨fun e=>(by rw [e,h1] at hj;cases hj),fun e=>(by rw [e,h2] at hj;cases hj)⟩
 obtain ⟨H,hH,hF⟩:=hs2.mem
 have hat:atN own (j,0,0)=some (.bk [.v (.slice none 0 0),.v (.slice none 0 0),.mp x] ty):=by simp [atN,hj,Fm.get]
 have hold:∀ y b,atN ((nid,.one (.ar 0 s1 f1 t1)) :: (nid+1,.one (.ar 0 s2 f2 t2)) :: setL own j (.one (.bk [.sl (nid,0,0) s1 0 0 none,.sl (nid+1,0,0) s2 0 0 none,.mp x] ty)):Own) y=some b →
   (y=(nid,0,0)∧b = .ar 0 s1 f1 t1)∨(y=(nid+1,0,0)∧b = .ar 0 s2 f2 t2)∨(y=(j,0,0)∧b = .bk [.sl (nid,0,0) s1 0 0 none,.sl (nid+1,0,0) s2 0 0 none,.mp x] ty)∨(y.1≠j∧y.1≠nid∧y.1≠nid+1∧atN own y=some b):=by
  rintro ⟨k,p,q⟩ b hy0
  rcases atN_one hy0 with hy1 | hy1
  ·exact Or.inl hy1
  rcases atN_one hy1 with hy | hy
  ·exact Or.inr (Or.inl hy)
  right;right
  clear hy0 hy1
  simp only [atN,look_setL] at hy
  by_cases e:j=k
  ·subst e
   rw [if_pos rfl] at hy
   simp only [Fm.get] at hy
   split at hy
   ·next e=>obtain ⟨rfl,rfl⟩:=e;cases hy;exact Or.inl ⟨rfl,rfl⟩
   ·cases hy
  ·rw [if_neg e] at hy
   refine Or.inr ⟨fun e2=>e e2.symm,fun e2=>?_,fun e2=>?_,hy⟩
   ·simp only at e2;rw [e2,h1] at hy;cases hy
   ·simp only at e2;rw [e2,h2] at hy;cases hy
 have hw:∀ y:Nm,y.1≠nid→y.1≠nid+1→(if y.1=nid∨y.1=nid+1 then emp else H y)=H y:=fun y g1 g2=>by rw [if_neg (by omega)]
 refine ⟨hs2.size,hs2.defers,ho2,hs2.tmps,hs2.frame,fun y=>if y.1=nid∨y.1=nid+1 then emp else H y,⟨?_,?_,?_⟩,?_⟩
 ·intro y b hy
  rcases hold y b hy with ⟨rfl,rfl⟩ | ⟨rfl,rfl⟩ | ⟨rfl,rfl⟩ | ⟨_,g1,g2,hy⟩
  ·obtain ⟨k1,k2⟩:=hnil (nid,0,0) (by simp) (by simp)
   exact Or.inl ⟨trivial,k1,rfl,by simp⟩
  ·obtain ⟨k1,k2⟩:=hnil (nid+1,0,0) (by simp) (by simp)
   exact Or.inl ⟨trivial,k1,rfl,by simp⟩
  ·have:=hH.den _ _ hat
   obtain ⟨k1,k2⟩:=hnil (nid,0,0) (by simp) (by simp)
   obtain ⟨k3,k4⟩:=hnil (nid+1,0,0) (by simp) (by simp)
   show Blk.den E2 (j,0,0) _ (if (j,0,0).1=nid∨(j,0,0).1=nid+1 then emp else H (j,0,0))
   rw [hw (j,0,0) hjn.1 hjn.2]
   simp only [Blk.den,List.map_cons,List.map_nil,SC.den] at this ⊢
   rw [this,k1,k2,k3,k4]
   simp
  ·show Blk.den E2 y _ (if y.1=nid∨y.1=nid+1 then emp else H y)
   rw [hw _ g1 g2]
   exact hH.den _ _ hy
 ·intro y z b c hy hz hne n
  have key:∀ y b,atN ((nid,.one (.ar 0 s1 f1 t1)) :: (nid+1,.one (.ar 0 s2 f2 t2)) :: setL own j (.one (.bk [.sl (nid,0,0) s1 0 0 none,.sl (nid+1,0,0) s2 0 0 none,.mp x] ty)):Own) y=some b→(if y.1=nid∨y.1=nid+1 then emp else H y)=emp∨(y.1≠nid∧y.1≠nid+1∧∃ b',atN own y=some b'):=fun y b hy=>by
   rcases hold y b hy with ⟨rfl,rfl⟩ | ⟨rfl,rfl⟩ | ⟨rfl,rfl⟩ | ⟨_,g1,g2,hy⟩
   ·exact Or.inl (by simp)
   ·exact Or.inl (by simp)
   ·exact Or.inr ⟨hjn.1,hjn.2,_,hat⟩
   ·exact Or.inr ⟨g1,g2,_,hy⟩
  rcases key y b hy with g | ⟨g1,g2,b',g3⟩
  ·left;show (if y.1=nid∨y.1=nid+1 then emp else H y) n=none;rw [g];rfl
  rcases key z c hz with k | ⟨k1,k2,c',k3⟩
  ·right;show (if z.1=nid∨z.1=nid+1 then emp else H z) n=none;rw [k];rfl
  ·show (if y.1=nid∨y.1=nid+1 then emp else H y) n=none∨(if z.1=nid∨z.1=nid+1 then emp else H z) n=none
   rw [hw _ g1 g2,hw _ k1 k2]
   exact hH.disj y z b' c' g3 k3 hne n
 ·intro y b hy n o hn
  rcases hold y b hy with ⟨rfl,rfl⟩ | ⟨rfl,rfl⟩ | ⟨rfl,rfl⟩ | ⟨_,g1,g2,hy⟩
  ·simp [emp] at hn
  ·simp [emp] at hn
  ·have hn:(if (j,0,0).1=nid∨(j,0,0).1=nid+1 then emp else H (j,0,0)) n=some o:=hn
   rw [hw (j,0,0) hjn.1 hjn.2] at hn
   exact hH.sub _ _ hat n o hn
  ·have hn:(if y.1=nid∨y.1=nid+1 then emp else H y) n=some o:=hn
   rw [hw _ g1 g2] at hn
   exact hH.sub _ _ hy n o hn
 ·intro w' hw'
  have h0:=hF w' fun n hn hfr=>hw' n hn fun y b hy=>by
   rcases hold y b hy with ⟨rfl,rfl⟩ | ⟨rfl,rfl⟩ | ⟨rfl,rfl⟩ | ⟨_,g1,g2,hy⟩
   ·simp [emp]
   ·simp [emp]
   ·show (if (j,0,0).1=nid∨(j,0,0).1=nid+1 then emp else H (j,0,0)) n=none
    rw [hw (j,0,0) hjn.1 hjn.2];exact hfr _ _ hat
   ·show (if y.1=nid∨y.1=nid+1 then emp else H y) n=none
    rw [hw _ g1 g2];exact hfr _ _ hy
  exact ⟨h0.1,h0.2⟩
def cidx (xs:List Cl) (n:Nat):List Nat:=(List.range n).filter fun i=>cntB (xs.getD i cl0)
def cys (xs:List Cl) (n:Nat):List Cl:=(cidx xs n).map fun i=>xs.getD i cl0
theorem cidx_succ (xs:List Cl) (n:Nat):cidx xs (n+1)=if cntB (xs.getD n cl0)=true then cidx xs n++[n] else cidx xs n:=by
 unfold cidx
 rw [List.range_succ,List.filter_append]
 by_cases h:cntB (xs.getD n cl0)=true
 ·rw [if_pos h,List.filter_cons_of_pos (p:=fun i=>cntB (xs.getD i cl0)) h];rfl
 ·rw [if_neg h,List.filter_cons_of_neg (p:=fun i=>cntB (xs.getD i cl0)) h];simp
theorem cidx_len (xs:List Cl) (n:Nat):(cidx xs n).length≤n:=by
 have:=List.length_filter_le (fun i=>cntB (xs.getD i cl0)) (List.range n)
 simpa [cidx] using this
theorem cys_len (xs:List Cl) (n:Nat):(cys xs n).length=(cidx xs n).length:=by simp [cys]
noncomputable def nsE (xs:List Cl):Int:=if mayQ xs=true then (if (cidx xs xs.length).length≤8 then 0 else 3) else 120
def nsT (n:Nat) (b:Nat):SV:=.tup [(false,[.ptr (b,0,0) 0]),(false,[.v (.int .i64 0)])]
def nsO (xs:List Cl) (b:Nat):Own:=[(b,.one (.bk [.sl (b+1,0,0) 9 0 (cys xs xs.length).length none,.sl (b+2,0,0) 1 0 (cys xs xs.length).length none,.mp (b+3,0,0)] 83)),(b+1,.one (.ar (cys xs xs.length).length 9 (ats Cl.enc (cys xs xs.length) cl0) 53)),(b+2,.one (.ar (cys xs xs.length).length 1 (ats eI (oI (cidx xs xs.length)) 0) 3)),(b+3,.one (.mp (.arr 8 .i8) .i64 fun _=>none))]
def ir49:IR:=(.seq (.ops [⟨(some 2),(.mv (.k (.c (.v (.pointer none))))),none⟩,⟨(some 3),(.mv (.k (.c (.v (.int .i64 0))))),none⟩]) (.kill [1,2,3,4,5,6,7,8,9,10,11] (.seq (.seq (.ops [⟨(some 7),(.mv (.t 0)),none⟩,⟨(some 8),(.call 15 [(.t 7)]),none⟩,⟨(some 9),(.un .not (.t 8)),none⟩]) (.kill [7,8] (.cond (.t 9) (.seq (.ops [⟨(some 2),(.mv (.k (.c (.v (.pointer none))))),none⟩,⟨(some 3),(.mv (.k (.c (.v (.int .i64 120))))),none⟩]) (.kill [0,9] .ret)) .skip))) (.kill [2,3,9] (.seq (.ops [⟨(some 10),(.mkm (.arr 8 .i8) .i64),none⟩,⟨(some 11),(.build [(.v (.slice none 0 0)),(.v (.slice none 0 0)),(.v (.map none))] [(2,(1,(.t 10)))]),none⟩,⟨(some 12),(.box 83 (.t 11)),none⟩,⟨(some 4),(.mv (.t 12)),none⟩]) (.kill [10,11,12] (.seq (.seq (.ops [⟨(some 13),(.mv (.t 0)),none⟩,⟨(some 14),(.len (.t 13)),none⟩,⟨(some 15),(.mv (.k (.c (.v (.int .i64 0))))),none⟩]) (.kill [0] (.blk 0 (.loop (.seq (.ops [⟨(some 16),(.bin .lss (.t 15) (.t 14)),none⟩]) (.kill [5,6,17,18,19,20,21,22,23,24,25,26,27,28,29,30,31,32,33,34,35,36,37,38,39,40,41,42] (.seq (.cond (.t 16) .skip (.exit 0)) (.kill [16] (.seq (.blk 1 (.seq (.ops [⟨(some 17),(.mv (.t 15)),none⟩,⟨(some 18),(.ia 9 (.t 13) (.t 15)),none⟩,⟨(some 19),(.ld true 9 (.t 18)),none⟩,⟨(some 6),(.new 53 [(.v (.int .i64 0)),(.v (.int .i64 0)),(.v (.int .i64 0)),(.v (.int .i64 0)),(.v (.int .i64 0)),(.v (.int .i64 0)),(.v (.int .i64 0)),(.v (.int .i64 0)),(.v (.int .i64 0))]),none⟩,⟨(some 5),(.mv (.t 17)),none⟩,⟨none,(.st 9 (.t 6) (.t 19)),none⟩]) (.kill [17,18,19] (.seq (.ops [⟨(some 20),(.ld true 9 (.t 6)),none⟩,⟨(some 21),(.call 42 [(.t 20)]),none⟩]) (.kill [20] (.cond (.t 21) (.seq (.draw [(⟨(some 22),(.mv (.t 4)),none⟩,([],[23,24,25,26,27,28,29])),(⟨(some 23),(.mv (.t 4)),none⟩,([0],[22,27,28])),(⟨(some 24),(.nilck (.t 23)),none⟩,([0],[22,27,28])),(⟨(some 25),(.fa 0 (.t 24)),none⟩,([0],[22,27,28])),(⟨(some 26),(.ld false 1 (.t 25)),none⟩,([0],[22,27,28])),(⟨(some 27),(.ld true 9 (.t 6)),none⟩,([0,1,2,3,4],[22,23,24,25,26])),(⟨(some 28),(.mkSl 53 1 9 [(.v (.int .i64 0)),(.v (.int .i64 0)),(.v (.int .i64 0)),(.v (.int .i64 0)),(.v (.int .i64 0)),(.v (.int .i64 0)),(.v (.int .i64 0)),(.v (.int .i64 0)),(.v (.int .i64 0))] [(0,(9,(.t 27)))]),none⟩,([0,1,2,3,4],[22,23,24,25,26])),(⟨(some 29),(.app 53 9 72 [(.v (.int .i64 0)),(.v (.int .i64 0)),(.v (.int .i64 0)),(.v (.int .i64 0)),(.v (.int .i64 0)),(.v (.int .i64 0)),(.v (.int .i64 0)),(.v (.int .i64 0)),(.v (.int .i64 0))] (.t 26) (.t 28)),none⟩,([0],[22])),(⟨(some 30),(.nilck (.t 22)),none⟩,([],[])),(⟨(some 31),(.fa 0 (.t 30)),none⟩,([],[])),(⟨none,(.st 1 (.t 31) (.t 29)),none⟩,([],[]))]) (.kill [6,21,22,23,24,25,26,27,28,29,30,31] (.ops [⟨(some 32),(.mv (.t 4)),none⟩,⟨(some 33),(.mv (.t 4)),none⟩,⟨(some 34),(.nilck (.t 33)),none⟩,⟨(some 35),(.fa 1 (.t 34)),none⟩,⟨(some 36),(.ld false 1 (.t 35)),none⟩,⟨(some 37),(.mv (.t 5)),none⟩,⟨(some 38),(.mkSl 3 1 1 [(.v (.int .i64 0))] [(0,(1,(.t 37)))]),none⟩,⟨(some 39),(.app 3 1 8 [(.v (.int .i64 0))] (.t 36) (.t 38)),none⟩,⟨(some 40),(.nilck (.t 32)),none⟩,⟨(some 41),(.fa 1 (.t 40)),none⟩,⟨none,(.st 1 (.t 41) (.t 39)),none⟩]))) .skip)))))) (.kill [5,6,17,18,19,20,21,22,23,24,25,26,27,28,29,30,31,32,33,34,35,36,37,38,39,40,41] (.ops [⟨(some 42),(.bin .add (.t 15) (.k (.c (.v (.int .i64 1))))),none⟩,⟨(some 15),(.mv (.t 42)),none⟩]))))))))))) (.kill [5,6,13,14,15,16,17,18,19,20,21,22,23,24,25,26,27,28,29,30,31,32,33,34,35,36,37,38,39,40,41,42] (.seq (.seq (.ops [⟨(some 43),(.mv (.t 4)),none⟩,⟨(some 44),(.nilck (.t 43)),none⟩,⟨(some 45),(.fa 0 (.t 44)),none⟩,⟨(some 46),(.ld false 1 (.t 45)),none⟩,⟨(some 47),(.len (.t 46)),none⟩,⟨(some 48),(.bin .gtr (.t 47) (.k (.c (.v (.int .i64 8))))),none⟩]) (.kill [43,44,45,46,47] (.cond (.t 48) (.seq (.ops [⟨(some 2),(.mv (.k (.c (.v (.pointer none))))),none⟩,⟨(some 3),(.mv (.k (.c (.v (.int .i64 3))))),none⟩]) (.kill [4,48] .ret)) .skip))) (.kill [2,3,48] (.seq (.ops [⟨(some 49),(.mv (.t 4)),none⟩,⟨(some 2),(.mv (.t 49)),none⟩,⟨(some 3),(.mv (.k (.c (.v (.int .i64 0))))),none⟩]) (.kill [4,49] .ret))))))))))))
def rs49:List RS:=[(.t 2),(.t 3)]
def nt49:Nat:=50
def nsEnd (xs:List Cl) (u:SV) (e:Int):St:=⟨50,[(2,u),(3,.c (.v (.int .i64 e)))],[(1,.one (.bk [.sl (2,0,0) 9 0 (cys xs xs.length).length none,.sl (3,0,0) 1 0 (cys xs xs.length).length none,.mp (4,0,0)] 83)),(2,.one (.ar (cys xs xs.length).length 9 (ats Cl.enc (cys xs xs.length) cl0) 53)),(3,.one (.ar (cys xs xs.length).length 1 (ats eI (oI (cidx xs xs.length)) 0) 3)),(4,.one (.mp (.arr 8 .i8) .i64 fun _=>none))],[(0,.one (arrOf Cl.enc 9 xs cl0))],[],5⟩
set_option maxRecDepth 100000 in
set_option maxHeartbeats 400000 in
theorem newSearch_gen {R:Ending→World→Prop} (w:World) (v:Value) (xs:List Cl) (hsz:xs.length * 72≤140737488355328) (hm:mayQ xs=true) (h:Arr w Cl.enc 9 v xs)
  (h1:8<(cys xs xs.length).length→RetVC (mkC Try.prog [] w rs49 R) (.tup [(false,[.v (.pointer none)]),(false,[.v (.int .i64 3)])]) (nsEnd xs (.c (.v (.pointer none))) 3))
  (h2:(cys xs xs.length).length≤8→RetVC (mkC Try.prog [] w rs49 R) (.tup [(false,[.ptr (1,0,0) 0]),(false,[.v (.int .i64 0)])]) (nsEnd xs (.c (.ptr (1,0,0) 0)) 0)):Calls Try.prog 49 #[v] w R:=by
 refine enter1 (A:=[]) (c:=ir49) (rs:=rs49) (nt:=nt49) cl0 cl_ok h [.c (.xv (0,0,0))] _ Try.func49 rfl (by kernel_rfl) (by kernel_rfl) rfl (fun E' h0=>by simp [SV.den,SC.den,h0]) (of_decide_eq_true rfl) ?_
 simp (maxSteps:=2000000) only [ir49,nt49,rs49,go_sem,↓reduceIte,Nat.reduceLT,Nat.reduceLeDiff,Nat.reduceAdd,Nat.reduceSub,Nat.reduceMul,Nat.reduceEqDiff,reduceCtorEq,Int.reduceToNat,Int.reduceEq,Int.reduceBEq,Int.reduceBNe,Int.reduceLT,Int.reduceLE,Int.reduceNeg,Int.reduceAdd,Int.reduceSub,Int.reduceMul,Int.reduceGE,Int.reduceGT,Cl.enc,iv,endO]
 refine callV (.c (.v (.bool true))) (.bool true) (fun E=>rfl) (fun E a w' hs=>by
  have:=mayW w' _ xs (arr_at (d:=cl0) hs 0 rfl)
  rw [hm] at this
  exact this) ?_
 simp (maxSteps:=2000000) only [go_sem,↓reduceIte,Nat.reduceLT,Nat.reduceLeDiff,Nat.reduceAdd,Nat.reduceSub,Nat.reduceMul,Nat.reduceEqDiff,reduceCtorEq,Int.reduceToNat,Int.reduceEq,Int.reduceBEq,Int.reduceBNe,Int.reduceLT,Int.reduceLE,Int.reduceNeg,Int.reduceAdd,Int.reduceSub,Int.reduceMul,Int.reduceGE,Int.reduceGT,Cl.enc,iv,endO]
 refine loopI (ι:={ i:Nat // i≤xs.length }) (fun i=>⟨50,[(4,.c (.ptr (1,0,0) 0)),(13,.c (.xv (0,0,0))),(14,.c (.v (.int .i64 xs.length))),(15,.c (.v (.int .i64 (i.1:Nat))))],
  [(1,.one (.bk [.sl (2,0,0) 9 0 (cys xs i.1).length none,.sl (3,0,0) 1 0 (cys xs i.1).length none,.mp (4,0,0)] 83)),(2,.one (.ar (cys xs i.1).length 9 (ats Cl.enc (cys xs i.1) cl0) 53)),(3,.one (.ar (cys xs i.1).length 1 (ats eI (oI (cidx xs i.1)) 0) 3)),(4,.one (.mp (.arr 8 .i8) .i64 fun _=>none))],[(0,.one (arrOf Cl.enc 9 xs cl0))],[],5⟩)
  (fun i=>xs.length - i.1) ⟨0,by omega⟩ ?_ ?_
 ·refine le_tr (le_nil2 2 83 9 53 1 3 (ats Cl.enc [] cl0) (ats eI [] 0) (1,0,0) (by decide) rfl rfl rfl) ?_
  simp only [setL]
  exact le_ren (fun i=>if i=1 then 2 else if i=2 then 3 else if i=3 then 4 else if i=4 then 1 else i) rfl rfl (by simp [TmpsLe,look,SV.ren,SC.ren,SC.renL,ren1L,ren1,idσ,SV.okN,SC.okN,SC.okL,ok1L]) (by simp [OwnLe,BlkLeO,BlkLe,atN,look,Fm.get,idσ,SC.renL,SC.ren,SC.okL,SC.okN,cys,cidx,oI]) (by simp [ArrsLe,ArrLeO,atN,look,Fm.get,idσ,arrLe_of,arrLe_0]) rfl
 rintro ⟨i,hi⟩
 simp (maxSteps:=2000000) only [go_sem,↓reduceIte,Nat.reduceLT,Nat.reduceLeDiff,Nat.reduceAdd,Nat.reduceSub,Nat.reduceMul,Nat.reduceEqDiff,reduceCtorEq,Int.reduceToNat,Int.reduceEq,Int.reduceBEq,Int.reduceBNe,Int.reduceLT,Int.reduceLE,Int.reduceNeg,Int.reduceAdd,Int.reduceSub,Int.reduceMul,Int.reduceGE,Int.reduceGT,Cl.enc,iv,endO]
 refine both (fun hlt=>?_) (fun hge=>?_)
 ·rw [decide_eq_true_eq] at hlt
  have hlt:i<xs.length:=by omega
  have hcl:=cidx_len xs i
  have hyl:=cys_len xs i
  have hcs:=cidx_succ xs i
  generalize hci:xs.getD i cl0=ci at hcs
  repeat (with_reducible refine And.intro (by first | (simp only [maxLen];omega) | omega | decide | (simp;done) | (simp [maxLen];omega)) ?_)
  refine callV (.c (.bo (cntB ci))) _ (fun E=>rfl) (fun E a w' _=>counts_calls w' ci) ?_
  simp (maxSteps:=2000000) only [go_sem,↓reduceIte,Nat.reduceLT,Nat.reduceLeDiff,Nat.reduceAdd,Nat.reduceSub,Nat.reduceMul,Nat.reduceEqDiff,reduceCtorEq,Int.reduceToNat,Int.reduceEq,Int.reduceBEq,Int.reduceBNe,Int.reduceLT,Int.reduceLE,Int.reduceNeg,Int.reduceAdd,Int.reduceSub,Int.reduceMul,Int.reduceGE,Int.reduceGT,Cl.enc,iv,endO]
  refine both (fun hb=>?_) (fun hb=>?_)
  ·rw [if_pos hb] at hcs
   have hys:cys xs (i+1)=cys xs i++[ci]:=by simp [cys,hcs,← hci]
   have hoi:oI (cidx xs (i+1))=oI (cidx xs i)++[(i:Int)]:=by rw [hcs,oI_push]
   refine draw_vc (by kernel_rfl) (mkTab_ok _ _) (of_decide_eq_true rfl) (of_decide_eq_true rfl) ?_
   repeat (first | simp (maxSteps:=2000000) only [go_sem,↓reduceIte,Nat.reduceLT,Nat.reduceLeDiff,Nat.reduceAdd,Nat.reduceSub,Nat.reduceMul,Nat.reduceEqDiff,reduceCtorEq,Int.reduceToNat,Int.reduceEq,Int.reduceBEq,Int.reduceBNe,Int.reduceLT,Int.reduceLE,Int.reduceNeg,Int.reduceAdd,Int.reduceSub,Int.reduceMul,Int.reduceGE,Int.reduceGT,Cl.enc,iv,endO] | rw [dr_cons])
   have hcl':=cidx_len xs i
   have hf9:=fit_app ((cys xs i).length+1) (by omega)
   have hf8:=fit_app8 ((cys xs i).length+1) (by omega)
   have hml:(cys xs i).length+1≤maxLen:=by simp only [maxLen];omega
   have hone:1≤maxLen:=by decide
   refine And.intro hone (And.intro (Or.inl trivial) (And.intro ⟨Nat.le_refl _,hf9,hml⟩ (And.intro ⟨Or.inl trivial,Or.inr trivial⟩ (And.intro (Or.inr trivial) (And.intro hone (And.intro ⟨Nat.le_refl _,hf8,hml⟩ ?_))))))
   clear hf9 hf8 hml hone
   rw [wr_succ (by omega)]
   refine backI ⟨i+1,by omega⟩ (by simp only;omega) (le_ren (fun k=>if k=2 then 7 else if k=3 then 9 else k) rfl rfl (by simp [TmpsLe,look,SV.ren,SC.ren,SC.renL,ren1L,ren1,idσ,SV.okN,SC.okN,SC.okL,ok1L]) ⟨⟨of_decide_eq_true rfl,by simp [BlkLeO,BlkLe,atN,look,Fm.get,idσ,SC.renL,SC.ren,SC.okL,SC.okN,hys]⟩,⟨of_decide_eq_true rfl,arLe_of (by simp [hys]) (ats_push hys rfl (fun e he=>rfl) rfl)⟩,
    ⟨of_decide_eq_true rfl,?_⟩,⟨of_decide_eq_true rfl,by simp [BlkLeO,BlkLe,atN,look,Fm.get,idσ]⟩,trivial⟩ (by simp [ArrsLe,ArrLeO,atN,look,Fm.get,idσ,arrLe_of,arrLe_0]) rfl)
   have hlo:(cys xs (i+1)).length=(oI (cidx xs (i+1))).length:=by rw [oI_len,cys_len]
   refine ⟨by simp [hys],rfl,rfl,fun e he=>?_⟩
   have he:e<(cys xs (i+1)).length:=he
   have:=ats_push (d:=0) (enc:=eI) hoi (show (cys xs i).length=(oI (cidx xs i)).length by rw [oI_len,cys_len]) (f:=ats eI (oI (cidx xs i)) 0) (g:=fun e=>take' 1 (drop' (e * 1) [.v (.int .i64 i)])) (fun e he=>rfl) rfl e (by omega)
   rw [this]
   exact ⟨(renL_v _ _).symm,okL_v _ _⟩
  ·rw [if_neg (by simp [hb])] at hcs
   have hys:cys xs (i+1)=cys xs i:=by simp [cys,hcs]
   rw [wr_succ (by omega)]
   exact backI ⟨i+1,by omega⟩ (by simp only;omega) (le_ren id rfl rfl (by simp [TmpsLe,look,SV.ren,SC.ren,SC.renL,ren1L,ren1,idσ,SV.okN,SC.okN,SC.okL,ok1L]) (by simp [OwnLe,BlkLeO,BlkLe,atN,look,Fm.get,idσ,SC.renL,SC.ren,SC.okL,SC.okN,ren_ats,ok_ats,hys,hcs]) (by simp [ArrsLe,ArrLeO,atN,look,Fm.get,idσ,arrLe_of,arrLe_0]) rfl)
 ·rw [decide_eq_false_iff_not] at hge
  have hin:i=xs.length:=by omega
  subst hin
  refine both (fun hb=>?_) (fun hb=>?_)
  ·rw [decide_eq_true_eq] at hb
   exact h1 (by omega)
  ·rw [decide_eq_false_iff_not] at hb
   exact h2 (by omega)
theorem newSearch_ok (w:World) (v:Value) (xs:List Cl) (hsz:xs.length * 72≤140737488355328) (he:nsE xs=0) (h:Arr w Cl.enc 9 v xs):Calls Try.prog 49 #[v] w (RetN w 4 (nsT 0) (nsO xs)):=by
 have hm:mayQ xs=true:=by
  unfold nsE at he
  by_cases e:mayQ xs=true
  ·exact e
  ·rw [if_neg e] at he;cases he
 have h8:(cidx xs xs.length).length≤8:=by
  unfold nsE at he
  rw [if_pos hm] at he
  split at he
  ·assumption
  ·cases he
 have hyl:=cys_len xs xs.length
 refine newSearch_gen w v xs hsz hm h (fun hb=>by omega) fun _=>?_
 refine retN (fun i=>i+1) (fun b=>?_) (fun b=>?_) (fun b=>?_)
 ·simp [nsT,SV.ren,ren1L,ren1,SC.renL,SC.ren,fromσ,SV.okN,ok1L,SC.okL,SC.okN,NewIds]
 ·simp [nsEnd,OwnLe,nsO,BlkLeO,BlkLe,fromσ,atN,look,Fm.get,SC.renL,SC.ren,SC.okL,SC.okN,NewIds,ren_ats,ok_ats]
 ·exact injN_from fun i hi j hj h=>by simp [nsO,keysL] at hi hj;omega
set_option maxRecDepth 100000 in
set_option maxHeartbeats 400000 in
theorem newSearch_no (w:World) (v:Value) (xs:List Cl) (hsz:xs.length * 72≤140737488355328) (he:nsE xs≠0) (h:Arr w Cl.enc 9 v xs):Calls Try.prog 49 #[v] w (RetV w (.tuple #[.pointer none,.int .i64 (nsE xs)])):=by
 have hyl:=cys_len xs xs.length
 by_cases hm:mayQ xs=true
 ·refine newSearch_gen w v xs hsz hm h (fun hb=>?_) (fun hb=>?_)
  ·refine retV fun E=>?_
   have:nsE xs=3:=by unfold nsE;rw [if_pos hm,if_neg (by omega)]
   rw [this]
   simp [SV.den,den1,SC.den]
  ·exact absurd (by unfold nsE;rw [if_pos hm,if_pos (by omega)]) he
 ·have hm:mayQ xs=false:=by simpa using hm
  have:nsE xs=120:=by unfold nsE;rw [if_neg (by simp [hm])]
  rw [this]
  refine enter1 (A:=[]) (c:=ir49) (rs:=rs49) (nt:=nt49) cl0 cl_ok h [.c (.xv (0,0,0))] _ Try.func49 rfl (by kernel_rfl) (by kernel_rfl) rfl (fun E' h0=>by simp [SV.den,SC.den,h0]) (of_decide_eq_true rfl) ?_
  simp (maxSteps:=2000000) only [ir49,nt49,rs49,go_sem,↓reduceIte,Nat.reduceLT,Nat.reduceLeDiff,Nat.reduceAdd,Nat.reduceSub,Nat.reduceMul,Nat.reduceEqDiff,reduceCtorEq,Int.reduceToNat,Int.reduceEq,Int.reduceBEq,Int.reduceBNe,Int.reduceLT,Int.reduceLE,Int.reduceNeg,Int.reduceAdd,Int.reduceSub,Int.reduceMul,Int.reduceGE,Int.reduceGT,Cl.enc,iv,endO]
  refine callV (.c (.v (.bool false))) (.bool false) (fun E=>rfl) (fun E a w' hs=>by
   have:=mayW w' _ xs (arr_at (d:=cl0) hs 0 rfl)
   rw [hm] at this
   exact this) ?_
  simp (maxSteps:=2000000) only [go_sem,↓reduceIte,Nat.reduceLT,Nat.reduceLeDiff,Nat.reduceAdd,Nat.reduceSub,Nat.reduceMul,Nat.reduceEqDiff,reduceCtorEq,Int.reduceToNat,Int.reduceEq,Int.reduceBEq,Int.reduceBNe,Int.reduceLT,Int.reduceLE,Int.reduceNeg,Int.reduceAdd,Int.reduceSub,Int.reduceMul,Int.reduceGE,Int.reduceGT,Cl.enc,iv,endO]
  exact retV fun E=>by simp [SV.den,den1,SC.den]
end Go.Proofs.Ytkjeedlkkpgopaa.Z
namespace Go.Proofs.Ytkjeedlkkpgopaa.Z
open Go Go.RowKit
def cyA (xs:List Cl):List Cl:=cys xs xs.length
def nmA (xs:List Cl):List Nat:=cidx xs xs.length
theorem cyA_len (xs:List Cl):(cyA xs).length=(nmA xs).length:=cys_len xs xs.length
theorem cyA_at (xs:List Cl) {i:Nat} (h:i<(nmA xs).length):(cyA xs).getD i cl0=xs.getD ((nmA xs).getD i 0) cl0:=by
 simp only [cyA,cys,nmA] at h ⊢
 rw [List.getD_eq_getElem?_getD,List.getElem?_map,List.getElem?_eq_getElem h,List.getD_eq_getElem?_getD (l:=cidx xs xs.length),List.getElem?_eq_getElem h]
 rfl
theorem nmA_mem {xs:List Cl} {j:Nat} (h:j∈nmA xs):j<xs.length∧cntB (xs.getD j cl0)=true:=by
 have:=List.mem_filter.1 h
 exact ⟨List.mem_range.1 this.1,this.2⟩
theorem cyA_op (xs:List Cl):∀ i,i<(cyA xs).length→objOf ((cyA xs).getD i cl0).op≠0:=fun i hi=>by
 rw [cyA_len] at hi
 rw [cyA_at xs hi]
 have:=(nmA_mem (getD_mem (d:=0) hi)).2
 simpa [cntB] using this
theorem nsE_0 {xs:List Cl} (h:nsE xs=0):(cyA xs).length≤8:=by
 unfold nsE at h
 split at h
 ·split at h
  ·rw [cyA_len];assumption
  ·cases h
 ·cases h
def allY (xs:List Cl):List (List Nat):=(hY (cyA xs)).srch (cY (cyA xs)) ((hY (cyA xs)).mayW (cY (cyA xs))) 9 [] mc0
noncomputable def cntW (xs:List Cl):Int:=if nsE xs=0 then ((allY xs).length:Nat) else 0
noncomputable def findE (xs:List Cl):Int:=if nsE xs=0 then (if (allY xs).head?.isSome=true then 0 else 124) else nsE xs
def nmL (xs:List Cl) (x:List Nat):List Int:=oI (x.map fun i=>(nmA xs).getD i 0)
noncomputable def findL (xs:List Cl):List Int:=if nsE xs=0 then (match (allY xs).head? with | some x=>nmL xs x | none=>[]) else []
theorem call_nid {C:Ctx} {f:Nat} {vs:List SV} {dst:Option Nat} {K:St→Prop} {nt:Nat} {tmps:List (Nat×SV)} {own:Own} {arrs:List (Nat×Fm ArrF)} {facts:List (Env→World→Prop)} {nid:Nat} (nid' : Nat) (h:nid≤nid') (hk:CallVC C f vs dst ⟨nt,tmps,own,arrs,facts,nid'⟩ K):CallVC C f vs dst ⟨nt,tmps,own,arrs,facts,nid⟩ K:=fun E a w hs =>
 hk E a w ⟨hs.1,fun E' hE' ho'=>by
  have q:=hs.2 E' (fun x hx=>hE' x (Nat.lt_of_lt_of_le hx h)) ho'
  exact ⟨q.size,q.defers,q.one,q.tmps,q.frame,q.mem⟩⟩
theorem sr_own {C:Ctx} {S:St} {E:Env} {a:Act} {w:World} {ys:List Cl} {nms:List Int} {ty n i:Nat} (hs:Sat C.B C.W C.w0 E S a w) (h0:look S.own i=some (.one (.bk [.sl (i+1,0,0) 9 0 n none,.sl (i+2,0,0) 1 0 n none,.mp (i+3,0,0)] ty))) (t1 t2:Nat) (h1:look S.own (i+1)=some (.one (.ar n 9 (ats Cl.enc ys cl0) t1))) (h2:look S.own (i+2)=some (.one (.ar n 1 (ats eI nms 0) t2)))
  (hy:ys.length=n) (hn:nms.length=n):Sr w ((SC.ptr (i,0,0) 0).den E) ys nms (E.ρ (i+3,0,0)):=by
 obtain ⟨H,hH,_⟩:=hs.mem
 have hat:atN S.own (i,0,0)=some (.bk [.sl (i+1,0,0) 9 0 n none,.sl (i+2,0,0) 1 0 n none,.mp (i+3,0,0)] ty):=by simp [atN,h0,Fm.get]
 have hc:=bk_cell hH hat
 refine ⟨⟨E.ρ (i,0,0),0,(SC.sl (i+1,0,0) 9 0 n none).den E,(SC.sl (i+2,0,0) 1 0 n none).den E,by simp [SC.den],?_,?_,?_,?_,?_⟩⟩
 ·rw [hc];rfl
 ·rw [hc];rfl
 ·rw [hc];simp [SC.den]
 ·exact arr_own (d:=cl0) hs (i+1) n n _ h1 hy.symm (by omega) fun e he=>rfl
 ·exact arr_own (d:=0) hs (i+2) n n _ h2 hn.symm (by omega) fun e he=>rfl
def ir28:IR:=(.seq (.ops [⟨(some 2),(.mv (.k (.c (.v (.int .i64 0))))),none⟩,⟨(some 3),(.mv (.k (.c (.v (.int .i64 0))))),none⟩]) (.kill [1,2,3,4,5,6,7,8,9,10,11] (.seq (.ops [⟨(some 7),(.mv (.t 0)),none⟩,⟨(some 8),(.call 49 [(.t 7)]),none⟩,⟨(some 6),(.mv (.t 8)),none⟩,⟨(some 9),(.ext 0 (.t 6)),none⟩,⟨(some 10),(.ext 1 (.t 6)),none⟩,⟨(some 4),(.mv (.t 9)),none⟩,⟨(some 5),(.mv (.t 10)),none⟩]) (.kill [0,6,7,8,9,10] (.seq (.seq (.ops [⟨(some 11),(.mv (.t 5)),none⟩,⟨(some 12),(.bin .neq (.t 11) (.k (.c (.v (.int .i64 0))))),none⟩]) (.kill [11] (.cond (.t 12) (.seq (.ops [⟨(some 13),(.mv (.t 5)),none⟩,⟨(some 2),(.mv (.k (.c (.v (.int .i64 0))))),none⟩,⟨(some 3),(.mv (.t 13)),none⟩]) (.kill [4,5,12,13] .ret)) .skip))) (.kill [2,3,5,12] (.seq (.ops [⟨(some 14),(.mv (.t 4)),none⟩,⟨(some 15),(.build [(.v (.slice none 0 0)),(.v (.slice none 0 0)),(.v (.slice none 0 0)),(.v (.slice none 0 0)),(.v (.slice none 0 0))] []),none⟩,⟨(some 16),(.call 53 [(.t 14),(.k (.c (.v (.slice none 0 0)))),(.t 15)]),none⟩,⟨(some 2),(.mv (.t 16)),none⟩,⟨(some 3),(.mv (.k (.c (.v (.int .i64 0))))),none⟩]) (.kill [4,14,15,16] .ret))))))))
def rs28:List RS:=[(.t 2),(.t 3)]
def nt28:Nat:=17
def ir26:IR:=(.seq (.ops [⟨(some 2),(.mv (.k (.c (.v (.slice none 0 0))))),none⟩,⟨(some 3),(.mv (.k (.c (.v (.int .i64 0))))),none⟩]) (.kill [1,2,3,4,5,6,7,8,9,10,11] (.seq (.ops [⟨(some 12),(.mv (.t 0)),none⟩,⟨(some 13),(.call 49 [(.t 12)]),none⟩,⟨(some 11),(.mv (.t 13)),none⟩,⟨(some 14),(.ext 0 (.t 11)),none⟩,⟨(some 15),(.ext 1 (.t 11)),none⟩,⟨(some 4),(.mv (.t 14)),none⟩,⟨(some 5),(.mv (.t 15)),none⟩]) (.kill [0,11,12,13,14,15] (.seq (.seq (.ops [⟨(some 16),(.mv (.t 5)),none⟩,⟨(some 17),(.bin .neq (.t 16) (.k (.c (.v (.int .i64 0))))),none⟩]) (.kill [16] (.cond (.t 17) (.seq (.ops [⟨(some 18),(.mv (.t 5)),none⟩,⟨(some 2),(.mv (.k (.c (.v (.slice none 0 0))))),none⟩,⟨(some 3),(.mv (.t 18)),none⟩]) (.kill [4,5,17,18] .ret)) .skip))) (.kill [2,3,5,17] (.seq (.ops [⟨(some 20),(.mv (.t 4)),none⟩,⟨(some 21),(.build [(.v (.slice none 0 0)),(.v (.slice none 0 0)),(.v (.slice none 0 0)),(.v (.slice none 0 0)),(.v (.slice none 0 0))] []),none⟩,⟨(some 22),(.call 50 [(.t 20),(.k (.c (.v (.slice none 0 0)))),(.t 21)]),none⟩,⟨(some 19),(.mv (.t 22)),none⟩,⟨(some 23),(.ext 0 (.t 19)),none⟩,⟨(some 24),(.ext 1 (.t 19)),none⟩,⟨(some 6),(.mv (.t 23)),none⟩,⟨(some 7),(.mv (.t 24)),none⟩]) (.kill [19,20,21,22,23,24] (.seq (.seq (.ops [⟨(some 25),(.mv (.t 7)),none⟩,⟨(some 26),(.un .not (.t 25)),none⟩]) (.kill [7,25] (.cond (.t 26) (.seq (.ops [⟨(some 2),(.mv (.k (.c (.v (.slice none 0 0))))),none⟩,⟨(some 3),(.mv (.k (.c (.v (.int .i64 124))))),none⟩]) (.kill [4,6,26] .ret)) .skip))) (.kill [2,3,26] (.seq (.ops [⟨(some 8),(.mv (.k (.c (.v (.slice none 0 0))))),none⟩]) (.seq (.seq (.ops [⟨(some 27),(.mv (.t 6)),none⟩,⟨(some 28),(.len (.t 27)),none⟩,⟨(some 29),(.mv (.k (.c (.v (.int .i64 0))))),none⟩]) (.kill [6] (.blk 0 (.loop (.seq (.ops [⟨(some 30),(.bin .lss (.t 29) (.t 28)),none⟩]) (.kill [10,31,32,33,34,35,36,37,38,39,40,41,42,43] (.seq (.cond (.t 30) .skip (.exit 0)) (.kill [30] (.seq (.blk 1 (.seq (.ops [⟨(some 31),(.ia 1 (.t 27) (.t 29)),none⟩,⟨(some 32),(.ld false 1 (.t 31)),none⟩,⟨(some 10),(.mv (.t 32)),none⟩]) (.kill [31,32] (.ops [⟨(some 33),(.mv (.t 8)),none⟩,⟨(some 34),(.mv (.t 4)),none⟩,⟨(some 35),(.nilck (.t 34)),none⟩,⟨(some 36),(.fa 1 (.t 35)),none⟩,⟨(some 37),(.ld false 1 (.t 36)),none⟩,⟨(some 38),(.mv (.t 10)),none⟩,⟨(some 39),(.ia 1 (.t 37) (.t 38)),none⟩,⟨(some 40),(.ld false 1 (.t 39)),none⟩,⟨(some 41),(.mkSl 3 1 1 [(.v (.int .i64 0))] [(0,(1,(.t 40)))]),none⟩,⟨(some 42),(.app 3 1 8 [(.v (.int .i64 0))] (.t 33) (.t 41)),none⟩,⟨(some 8),(.mv (.t 42)),none⟩])))) (.kill [10,31,32,33,34,35,36,37,38,39,40,41,42] (.ops [⟨(some 43),(.bin .add (.t 29) (.k (.c (.v (.int .i64 1))))),none⟩,⟨(some 29),(.mv (.t 43)),none⟩]))))))))))) (.kill [4,10,27,28,29,30,31,32,33,34,35,36,37,38,39,40,41,42,43] (.seq (.ops [⟨(some 44),(.mv (.t 8)),none⟩,⟨(some 2),(.mv (.t 44)),none⟩,⟨(some 3),(.mv (.k (.c (.v (.int .i64 0))))),none⟩]) (.kill [8,44] .ret)))))))))))))))
def rs26:List RS:=[(.t 2),(.t 3)]
def nt26:Nat:=45
set_option maxRecDepth 100000 in
set_option maxHeartbeats 400000 in
theorem countW_calls (w:World) (v:Value) (xs:List Cl) (hsz:xs.length * 72≤140737488355328) (h:Arr w Cl.enc 9 v xs):Calls Try.prog 28 #[v] w (RetV w (.tuple #[.int .i64 (cntW xs),.int .i64 (nsE xs)])):=by
 refine enter1 (A:=[]) (c:=ir28) (rs:=rs28) (nt:=nt28) cl0 cl_ok h [.c (.xv (0,0,0))] _ Try.func28 rfl (by kernel_rfl) (by kernel_rfl) rfl (fun E' h0=>by simp [SV.den,SC.den,h0]) (of_decide_eq_true rfl) ?_
 simp (maxSteps:=2000000) only [ir28,nt28,rs28,go_sem,↓reduceIte,Nat.reduceLT,Nat.reduceLeDiff,Nat.reduceAdd,Nat.reduceSub,Nat.reduceMul,Nat.reduceEqDiff,reduceCtorEq,Int.reduceToNat,Int.reduceEq,Int.reduceBEq,Int.reduceBNe,Int.reduceLT,Int.reduceLE,Int.reduceNeg,Int.reduceAdd,Int.reduceSub,Int.reduceMul,Int.reduceGE,Int.reduceGT,Cl.enc,iv,endO]
 by_cases he:nsE xs=0
 ·refine callN 4 (nsT 0) (nsO xs) (fun E a w' hs=>newSearch_ok w' _ xs hsz he (arr_at (d:=cl0) hs 0 rfl)) ?_
  simp (maxSteps:=2000000) only [go_sem,↓reduceIte,Nat.reduceLT,Nat.reduceLeDiff,Nat.reduceAdd,Nat.reduceSub,Nat.reduceMul,Nat.reduceEqDiff,reduceCtorEq,Int.reduceToNat,Int.reduceEq,Int.reduceBEq,Int.reduceBNe,Int.reduceLT,Int.reduceLE,Int.reduceNeg,Int.reduceAdd,Int.reduceSub,Int.reduceMul,Int.reduceGE,Int.reduceGT,Cl.enc,iv,endO,nsT,nsO]
  have h8:=nsE_0 he
  refine callV (.c (.v (.int .i64 ((allY xs).length:Nat)))) _ (fun E=>rfl) (fun E a w' hs=>by
   have hsr:=sr_own (ys:=cyA xs) (nms:=oI (nmA xs)) hs (i:=1) rfl _ _ rfl rfl rfl (by rw [oI_len];exact (cyA_len xs).symm)
   have:=count_calls 9 w' _ (.slice none 0 0) _ (cyA xs) (oI (nmA xs)) _ [] mc0 (by omega) h8 (cyA_op xs) hsr (Arr.nil _ _ _) (cont_0 w') mc0_may (by simp [MC.upto,mc0]) (by simp;omega) List.nodup_nil (fun i hi=>by cases hi)
   show Calls Try.prog _ _ _ _
   simpa [SV.den,SC.den,allY] using this) ?_
  simp (maxSteps:=2000000) only [go_sem,↓reduceIte,Nat.reduceLT,Nat.reduceLeDiff,Nat.reduceAdd,Nat.reduceSub,Nat.reduceMul,Nat.reduceEqDiff,reduceCtorEq,Int.reduceToNat,Int.reduceEq,Int.reduceBEq,Int.reduceBNe,Int.reduceLT,Int.reduceLE,Int.reduceNeg,Int.reduceAdd,Int.reduceSub,Int.reduceMul,Int.reduceGE,Int.reduceGT,Cl.enc,iv,endO]
  exact retV fun E=>by simp [SV.den,den1,SC.den,cntW,he]
 ·refine callV (.tup [(false,[.v (.pointer none)]),(false,[.v (.int .i64 (nsE xs))])]) _ (fun E=>rfl) (fun E a w' hs=>newSearch_no w' _ xs hsz he (arr_at (d:=cl0) hs 0 rfl)) ?_
  simp (maxSteps:=2000000) only [go_sem,↓reduceIte,Nat.reduceLT,Nat.reduceLeDiff,Nat.reduceAdd,Nat.reduceSub,Nat.reduceMul,Nat.reduceEqDiff,reduceCtorEq,Int.reduceToNat,Int.reduceEq,Int.reduceBEq,Int.reduceBNe,Int.reduceLT,Int.reduceLE,Int.reduceNeg,Int.reduceAdd,Int.reduceSub,Int.reduceMul,Int.reduceGE,Int.reduceGT,Cl.enc,iv,endO]
  refine both (fun hb=>?_) (fun hb=>?_)
  ·exact retV fun E=>by simp [SV.den,den1,SC.den,cntW,he]
  ·simp at hb;exact absurd hb he
theorem cr_lsC {C:Ctx} {S:St} {f:Nat} {vs:List SV} {u:Value} {r:Option (List Nat)} {g g' : Mem} (h9:look S.own 9=some (.one (.mp (.arr 8 .i8) .i64 g))) (hr:r.isSome=true)
  (hc:∀ E a w,Sat C.B C.W C.w0 E S a w→Calls C.P f (vs.map (SV.den E)).toArray w (LsP w (E.ρ (9,0,0)) u true r g')):CR C f vs S [9] (.tup [(false,[.v u]),(false,[.v (.bool true)])]) 0 [(9,.one (.mp (.arr 8 .i8) .i64 g'))] []:=by
 intro E a w hs
 refine (hc E a w hs).mono ?_
 rintro e w' ⟨v,rfl,hb,hm,hv,_⟩
 refine ⟨_,rfl,E,hs.one,fun E2 hs2 hk _=>⟨?_,?_⟩⟩
 ·rw [hv rfl,hr]
  simp only [SV.den,den1,List.map_cons,List.map_nil,SC.den]
 ·have e9:=(hk (9,0,0) (by simp)).1
  exact fits_map h9 (by rw [e9];exact hb) (by rw [e9];exact hm) fun w'' _ x A hA=>(atN_nil hA).elim
theorem hY_ended (ys:List Cl):∀ i j,(hY ys).ah i j=true→(hY ys).ended i=true:=fun i j h=>by
 simp only [hY,aheadB] at h ⊢
 split at h
 ·assumption
 ·cases h
theorem closed_nil {σ:Type} {h:Hist σ} {cand:List Nat}:h.Closed cand []:=fun i hi=>by cases hi
theorem lst_all {xs:List Cl} (h8:(cyA xs).length≤8):((hY (cyA xs)).lstF (cY (cyA xs)) wrM 9 [] mc0 fun _=>none).1=(allY xs).head? :=
 (lstF_ok wrM (by simpa [cY] using h8) (hY_ended _) 9 [] mc0 _ (Hist.Pre.nil mc0) closed_nil (by simp [cY];omega) (inv_nil (s0:=mc0))).1
theorem all_expl {xs:List Cl} (h8:(cyA xs).length≤8) {x:List Nat}:x∈allY xs↔(hY (cyA xs)).Expl (cY (cyA xs)) mc0 x:=by
 unfold allY
 rw [srch_eq (hY_ended _) 9 [] mc0 (Hist.Pre.nil mc0) closed_nil (by simp [cY];omega),mem_srchR 9 [] mc0 (Hist.Pre.nil mc0) (by simp [cY];omega)]
 exact ⟨fun h=>h.1,fun h=>⟨h,List.nil_prefix⟩⟩
theorem head_mem {α:Type} {l:List α} {x:α} (h:l.head? = some x):x∈l:=by
 cases l with
 | nil=>cases h
 | cons a l=>simp at h;simp [h]
set_option maxRecDepth 100000 in
set_option maxHeartbeats 400000 in
theorem find_calls (w:World) (v:Value) (xs:List Cl) (hsz:xs.length * 72≤140737488355328) (h:Arr w Cl.enc 9 v xs):Calls Try.prog 26 #[v] w (RetN w 1 (leT 1 (findL xs).length (findE xs)) (lsO 3 1 eI (findL xs) 0)):=by
 refine enter1 (A:=[]) (c:=ir26) (rs:=rs26) (nt:=nt26) cl0 cl_ok h [.c (.xv (0,0,0))] _ Try.func26 rfl (by kernel_rfl) (by kernel_rfl) rfl (fun E' h0=>by simp [SV.den,SC.den,h0]) (of_decide_eq_true rfl) ?_
 simp (maxSteps:=2000000) only [ir26,nt26,rs26,go_sem,↓reduceIte,Nat.reduceLT,Nat.reduceLeDiff,Nat.reduceAdd,Nat.reduceSub,Nat.reduceMul,Nat.reduceEqDiff,reduceCtorEq,Int.reduceToNat,Int.reduceEq,Int.reduceBEq,Int.reduceBNe,Int.reduceLT,Int.reduceLE,Int.reduceNeg,Int.reduceAdd,Int.reduceSub,Int.reduceMul,Int.reduceGE,Int.reduceGT,Cl.enc,iv,endO]
 by_cases he:nsE xs=0
 ·refine call_nid 6 (by decide) ?_
  refine callN 4 (nsT 0) (nsO xs) (fun E a w' hs=>newSearch_ok w' _ xs hsz he (arr_at (d:=cl0) hs 0 rfl)) ?_
  simp (maxSteps:=2000000) only [go_sem,↓reduceIte,Nat.reduceLT,Nat.reduceLeDiff,Nat.reduceAdd,Nat.reduceSub,Nat.reduceMul,Nat.reduceEqDiff,reduceCtorEq,Int.reduceToNat,Int.reduceEq,Int.reduceBEq,Int.reduceBNe,Int.reduceLT,Int.reduceLE,Int.reduceNeg,Int.reduceAdd,Int.reduceSub,Int.reduceMul,Int.reduceGE,Int.reduceGT,Cl.enc,iv,endO,nsT,nsO]
  have h8:=nsE_0 he
  have hl9:=cyA_len xs
  have hls:=lst_all h8
  have hex:=fun x=>all_expl (x:=x) h8
  have hlc:∀ {C:Ctx} {E:Env} {S:St} {a:Act} {w' : World},Sat C.B C.W C.w0 E S a w'→look S.own 6=some (.one (.bk [.sl (7,0,0) 9 0 (cys xs xs.length).length none,.sl (8,0,0) 1 0 (cys xs xs.length).length none,.mp (9,0,0)] 83))→look S.own 7=some (.one (.ar (cys xs xs.length).length 9 (ats Cl.enc (cys xs xs.length) cl0) 53))→look S.own 8=some (.one (.ar (cys xs xs.length).length 1 (ats eI (oI (cidx xs xs.length)) 0) 3))→look S.own 9=some (.one (.mp (.arr 8 .i8) .i64 fun _=>none)) →
    Calls Try.prog 50 #[(SC.ptr (6,0,0) 0).den E,.slice none 0 0,.agg #[.slice none 0 0,.slice none 0 0,.slice none 0 0,.slice none 0 0,.slice none 0 0]] w' (LsP w' (E.ρ (9,0,0)) (.slice none 0 0) ((hY (cyA xs)).whole (cY (cyA xs)) []) ((hY (cyA xs)).lstF (cY (cyA xs)) wrM 9 [] mc0 fun _=>none).1 ((hY (cyA xs)).lstF (cY (cyA xs)) wrM 9 [] mc0 fun _=>none).2):=fun {C E S a w'} hs l6 l7 l8 l9=>by
   have hsr:=sr_own (ys:=cyA xs) (nms:=oI (nmA xs)) hs (i:=6) l6 _ _ l7 l8 rfl (by rw [oI_len];exact (cyA_len xs).symm)
   exact least_calls 9 w' _ (.slice none 0 0) _ (cyA xs) (oI (nmA xs)) _ [] mc0 _ (by omega) h8 (cyA_op xs) hsr (map_at hs l9).1 (Arr.nil _ _ _) (cont_0 w') mc0_may (by simp [MC.upto,mc0]) (by simp;omega) List.nodup_nil (fun i hi=>by cases hi)
  by_cases hw:(hY (cyA xs)).whole (cY (cyA xs)) []=true
  ·have hlk:(hY (cyA xs)).lstF (cY (cyA xs)) wrM 9 [] mc0 (fun _=>none)=(some [],fun _=>none):=by rw [lstY_succ,if_pos hw]
   rw [hlk] at hls hlc
   rw [hw] at hlc
   refine call_intro (cr_lsC (u:=.slice none 0 0) (r:=some []) (g':=fun _=>none) rfl rfl (fun E a w' hs=>by
    have:=hlc hs rfl rfl rfl rfl
    show Calls Try.prog _ _ _ _
    simpa [SV.den,SC.den] using this)) (fun k hk=>by rw [List.mem_singleton] at hk;subst hk;exact Nat.lt_succ_self 9) ?_
   simp (maxSteps:=2000000) only [go_sem,↓reduceIte,Nat.reduceLT,Nat.reduceLeDiff,Nat.reduceAdd,Nat.reduceSub,Nat.reduceMul,Nat.reduceEqDiff,reduceCtorEq,Int.reduceToNat,Int.reduceEq,Int.reduceBEq,Int.reduceBNe,Int.reduceLT,Int.reduceLE,Int.reduceNeg,Int.reduceAdd,Int.reduceSub,Int.reduceMul,Int.reduceGE,Int.reduceGT,Cl.enc,iv,endO]
   refine loop_unr 1 ?_
   intro ι I μ i hb
   simp (maxSteps:=2000000) only [go_sem,↓reduceIte,Nat.reduceLT,Nat.reduceLeDiff,Nat.reduceAdd,Nat.reduceSub,Nat.reduceMul,Nat.reduceEqDiff,reduceCtorEq,Int.reduceToNat,Int.reduceEq,Int.reduceBEq,Int.reduceBNe,Int.reduceLT,Int.reduceLE,Int.reduceNeg,Int.reduceAdd,Int.reduceSub,Int.reduceMul,Int.reduceGE,Int.reduceGT,Cl.enc,iv,endO]
   have e1:findL xs=[]:=by unfold findL;rw [if_pos he,← hls];rfl
   have e2:findE xs=0:=by unfold findE;rw [if_pos he,← hls];rfl
   rw [e1,e2]
   exact retNE
  ·have hw:(hY (cyA xs)).whole (cY (cyA xs)) []=false:=by simpa using hw
   rw [hw] at hlc
   generalize (hY (cyA xs)).lstF (cY (cyA xs)) wrM 9 [] mc0 (fun _=>none)=p at hls hlc
   obtain ⟨r,f2⟩:=p
   simp only at hls hlc
   refine call_intro (cr_lsF (r:=r) (g':=f2) (vo:=fun _=>.slice none 0 0) rfl (fun E a w' hs=>by
    have:=hlc hs rfl rfl rfl rfl
    show Calls Try.prog _ _ _ _
    simpa [SV.den,SC.den] using this)) (fun k hk=>by rw [List.mem_singleton] at hk;subst hk;exact Nat.lt_succ_self 9) ?_
   cases r with
   | none =>
    simp (maxSteps:=2000000) only [go_sem,↓reduceIte,Nat.reduceLT,Nat.reduceLeDiff,Nat.reduceAdd,Nat.reduceSub,Nat.reduceMul,Nat.reduceEqDiff,reduceCtorEq,Int.reduceToNat,Int.reduceEq,Int.reduceBEq,Int.reduceBNe,Int.reduceLT,Int.reduceLE,Int.reduceNeg,Int.reduceAdd,Int.reduceSub,Int.reduceMul,Int.reduceGE,Int.reduceGT,Cl.enc,iv,endO,mkC_B,Option.isSome_none,Option.getD_none]
    have e1:findL xs=[]:=by unfold findL;rw [if_pos he,← hls]
    have e2:findE xs=124:=by unfold findE;rw [if_pos he,← hls];rfl
    rw [e1,e2]
    exact retNE
   | some x =>
    simp (maxSteps:=2000000) only [go_sem,↓reduceIte,Nat.reduceLT,Nat.reduceLeDiff,Nat.reduceAdd,Nat.reduceSub,Nat.reduceMul,Nat.reduceEqDiff,reduceCtorEq,Int.reduceToNat,Int.reduceEq,Int.reduceBEq,Int.reduceBNe,Int.reduceLT,Int.reduceLE,Int.reduceNeg,Int.reduceAdd,Int.reduceSub,Int.reduceMul,Int.reduceGE,Int.reduceGT,Cl.enc,iv,endO,mkC_B,Option.isSome_some,Option.getD_some]
    have e1:findL xs=nmL xs x:=by unfold findL;rw [if_pos he,← hls]
    have e2:findE xs=0:=by unfold findE;rw [if_pos he,← hls];rfl
    rw [e1,e2]
    have hx:=(hex x).1 (head_mem hls.symm)
    have hxn:∀ i∈x,i<(nmA xs).length:=fun i hi=>by
     have:=hx.sub i hi
     rw [← hl9]
     simpa [cY] using this
    have hx8:x.length≤(nmA xs).length:=o_len hx.nodup hxn
    have hol:=oI_len x
    have hcl:(cys xs xs.length).length=(nmA xs).length:=cys_len xs xs.length
    refine loopI (ι:={ i:Nat // i≤x.length }) (fun i=>⟨45,[(4,.c (.ptr (6,0,0) 0)),(8,.c (.sl (11,0,0) 1 0 i.1 none)),(27,.c (.xv (10,0,0))),(28,.c (.v (.int .i64 (oI x).length))),(29,.c (.v (.int .i64 (i.1:Nat))))],
     [(6,.one (.bk [.sl (7,0,0) 9 0 (cys xs xs.length).length none,.sl (8,0,0) 1 0 (cys xs xs.length).length none,.mp (9,0,0)] 83)),(8,.one (.ar (cys xs xs.length).length 1 (ats eI (oI (cidx xs xs.length)) 0) 3)),(11,.one (.ar i.1 1 (ats eI (nmL xs (x.take i.1)) 0) 3))],[(10,.one (arrOf eI 1 (oI x) 0))],[],12⟩)
     (fun i=>x.length - i.1) ⟨0,by omega⟩ ?_ ?_
    ·refine le_tr (le_nilown (tmps':=[(4,.c (.ptr (6,0,0) 0)),(8,.c (.sl (11,0,0) 1 0 0 none)),(27,.c (.xv (10,0,0))),(28,.c (.v (.int .i64 (oI x).length))),(29,.c (.v (.int .i64 0)))]) 1 3 (ats eI [] 0) (by simp [TmpsNil,look]) rfl) ?_
     exact le_ren id rfl rfl (by simp [TmpsLe,look,SV.ren,SC.ren,SC.renL,ren1L,ren1,idσ,SV.okN,SC.okN,SC.okL,ok1L]) (by simp [OwnLe,BlkLeO,BlkLe,atN,look,Fm.get,idσ,SC.renL,SC.ren,SC.okL,SC.okN,ren_ats,ok_ats,renL_v,okL_v]) (by simp [ArrsLe,ArrLeO,atN,look,Fm.get,idσ,arrLe_of,arrLe_0]) rfl
    rintro ⟨i,hi⟩
    simp (maxSteps:=2000000) only [go_sem,↓reduceIte,Nat.reduceLT,Nat.reduceLeDiff,Nat.reduceAdd,Nat.reduceSub,Nat.reduceMul,Nat.reduceEqDiff,reduceCtorEq,Int.reduceToNat,Int.reduceEq,Int.reduceBEq,Int.reduceBNe,Int.reduceLT,Int.reduceLE,Int.reduceNeg,Int.reduceAdd,Int.reduceSub,Int.reduceMul,Int.reduceGE,Int.reduceGT,Cl.enc,iv,endO,eI,ats]
    refine both (fun hlt=>?_) (fun hge=>?_)
    ·rw [decide_eq_true_eq] at hlt
     have hlt:i<x.length:=by omega
     have hxi:(oI x).getD i 0=((x.getD i 0:Nat):Int):=by simp [oI,List.getD_eq_getElem?_getD,List.getElem?_eq_getElem hlt]
     have hxm:=hxn _ (getD_mem (d:=0) hlt)
     simp (maxSteps:=2000000) only [hxi,Int.toNat_natCast]
     have hf8:=fit_app8 (i+1) (by omega)
     have hml:i+1≤maxLen:=by simp only [maxLen];omega
     have hone:1≤maxLen:=by decide
     refine And.intro (by omega) (And.intro (by omega) (And.intro ⟨by omega,by omega,Nat.le_refl _⟩ (And.intro (by omega) (And.intro hone (And.intro ⟨Nat.le_refl _,hf8,hml⟩ ?_)))))
     clear hf8 hml hone
     have hnx:(oI (cidx xs xs.length)).getD (x.getD i 0) 0=(((nmA xs).getD (x.getD i 0) 0:Nat):Int):=by
      simp only [nmA] at hxm ⊢
      generalize x.getD i 0=q at hxm ⊢
      rw [List.getD_eq_getElem?_getD,List.getD_eq_getElem?_getD,oI,List.getElem?_map,List.getElem?_eq_getElem hxm]
      rfl
     have hpush:nmL xs (x.take (i+1))=nmL xs (x.take i)++[(((nmA xs).getD (x.getD i 0) 0:Nat):Int)]:=by
      rw [List.take_succ_eq_append_getElem hlt,nmL,List.map_append,oI,List.map_append]
      simp [nmL,oI,List.getD_eq_getElem?_getD,List.getElem?_eq_getElem hlt]
     have hli:i=(nmL xs (x.take i)).length:=by simp [nmL,oI];omega
     rw [wr_succ (by omega)]
     refine backI ⟨i+1,by omega⟩ (by simp only;omega) (le_ren (fun k=>if k=11 then 13 else k) rfl rfl (by simp [TmpsLe,look,SV.ren,SC.ren,SC.renL,ren1L,ren1,idσ,SV.okN,SC.okN,SC.okL,ok1L]) ⟨⟨of_decide_eq_true rfl,by simp [BlkLeO,BlkLe,atN,look,Fm.get,idσ,SC.renL,SC.ren,SC.okL,SC.okN]⟩,⟨of_decide_eq_true rfl,by simp [BlkLeO,BlkLe,atN,look,Fm.get,idσ,ren_ats,ok_ats,ats,renL_v,okL_v]⟩,
      ⟨of_decide_eq_true rfl,?_⟩,trivial⟩ (by simp [ArrsLe,ArrLeO,atN,look,Fm.get,idσ,arrLe_of,arrLe_0]) rfl)
     refine ⟨Nat.le_refl _,rfl,rfl,fun e he=>?_⟩
     have he:e<i+1:=he
     have:=ats_push (d:=0) (enc:=eI) hpush hli (f:=ats eI (nmL xs (x.take i)) 0) (g:=fun e=>take' 1 (drop' (e * 1) [.v (.int .i64 ((oI (cidx xs xs.length)).getD (x.getD i 0) 0))])) (fun e he=>rfl) (by rw [hnx];rfl) e (by rw [hpush];simp;omega)
     refine ⟨?_,okL_v _ _⟩
     show _=SC.renL _ ((eI ((nmL xs (x.take (i+1))).getD e 0)).map .v)
     rw [renL_v]
     exact this
    ·rw [decide_eq_false_iff_not] at hge
     have hin:i=x.length:=by omega
     subst hin
     rw [List.take_length]
     have hli:x.length=(nmL xs x).length:=by simp [nmL,oI]
     exact retLE 11 _ _ rfl hli (by omega) (fun e he=>rfl)
 ·refine callV (.tup [(false,[.v (.pointer none)]),(false,[.v (.int .i64 (nsE xs))])]) _ (fun E=>rfl) (fun E a w' hs=>newSearch_no w' _ xs hsz he (arr_at (d:=cl0) hs 0 rfl)) ?_
  simp (maxSteps:=2000000) only [go_sem,↓reduceIte,Nat.reduceLT,Nat.reduceLeDiff,Nat.reduceAdd,Nat.reduceSub,Nat.reduceMul,Nat.reduceEqDiff,reduceCtorEq,Int.reduceToNat,Int.reduceEq,Int.reduceBEq,Int.reduceBNe,Int.reduceLT,Int.reduceLE,Int.reduceNeg,Int.reduceAdd,Int.reduceSub,Int.reduceMul,Int.reduceGE,Int.reduceGT,Cl.enc,iv,endO]
  have e1:findL xs=[]:=by unfold findL;rw [if_neg he]
  have e2:findE xs=nsE xs:=by unfold findE;rw [if_neg he]
  rw [e1,e2]
  refine both (fun hb=>?_) (fun hb=>?_)
  ·exact retNE
  ·simp at hb;exact absurd hb he
end Go.Proofs.Ytkjeedlkkpgopaa.Z
namespace Go.Proofs.Ytkjeedlkkpgopaa.Z
open Go Go.RowKit
theorem nmA_nodup (xs:List Cl):(nmA xs).Nodup:=(List.nodup_range).sublist (List.filter_sublist)
theorem nmA_inj {xs:List Cl} {i j:Nat} (hi:i<(nmA xs).length) (hj:j<(nmA xs).length) (h:(nmA xs).getD i 0=(nmA xs).getD j 0):i=j:=by
 rw [List.getD_eq_getElem?_getD,List.getD_eq_getElem?_getD,List.getElem?_eq_getElem hi,List.getElem?_eq_getElem hj] at h
 exact (List.getElem_inj (nmA_nodup xs)).1 h
theorem cAt_nm {xs:List Cl} {i:Nat} (hi:i<(nmA xs).length):cAt xs (((nmA xs).getD i 0:Nat):Int)=(cyA xs).getD i cl0:=by
 rw [cAt,Int.toNat_natCast,cyA_at xs hi]
theorem nmL_eq (xs:List Cl) (x:List Nat):nmL xs x=x.map fun i=>(((nmA xs).getD i 0:Nat):Int):=by simp [nmL,oI]
theorem line_nm {xs:List Cl} {x:List Nat} (hx:∀ i∈x,i<(nmA xs).length):lineO xs (nmL xs x)=x.map fun i=>(cyA xs).getD i cl0:=by
 rw [nmL_eq,lineO,List.map_map]
 exact List.map_congr_left fun i hi=>cAt_nm (hx i hi)
theorem play_iff {ys:List Cl}:∀ (x:List Nat) (m:MC) (i:Nat),(playM m i (x.map fun i=>ys.getD i cl0)).2 = -1↔((hY ys).play m x).isSome=true
 | [],m,i=>by simp [playM,Hist.play]
 | j :: x,m,i=>by
  have ih:=fun m' i'=>play_iff (ys:=ys) x m' i'
  have e:(hY ys).al m j=allowM m (ys.getD j cl0):=rfl
  rw [List.map_cons]
  unfold playM Hist.play
  rw [e]
  generalize allowM m (ys.getD j cl0)=a
  by_cases h:a.2=true
  ·rw [if_pos h,if_pos h]
   exact ih _ _
  ·rw [if_neg h,if_neg h]
   simp;try omega
theorem mem_nmL {xs:List Cl} {x:List Nat} (hx:∀ i∈x,i<(nmA xs).length) {i:Nat} (hi:i<(nmA xs).length):(((nmA xs).getD i 0:Nat):Int)∈nmL xs x↔i∈x:=by
 rw [nmL_eq,List.mem_map]
 constructor
 ·rintro ⟨j,hj,h⟩
  have:=nmA_inj (hx j hj) hi (by omega)
  exact this ▸ hj
 ·intro h;exact ⟨i,h,rfl⟩
theorem nodup_map {α β:Type} {f:α→β}:∀ {l:List α},(∀ a∈l,∀ b∈l,f a=f b→a=b)→l.Nodup→(l.map f).Nodup
 | [],_,_=>List.nodup_nil
 | a :: l,hi,hn=>by
  rw [List.nodup_cons] at hn
  rw [List.map_cons,List.nodup_cons]
  refine ⟨fun hm=>?_,nodup_map (fun a ha b hb=>hi a (by simp [ha]) b (by simp [hb])) hn.2⟩
  obtain ⟨b,hb,h⟩:=List.mem_map.1 hm
  exact hn.1 ((hi b (by simp [hb]) a (by simp) h) ▸ hb)
theorem chk_iff {xs:List Cl} {x:List Nat} (hm:mayQ xs=true) (hx:∀ i∈x,i<(nmA xs).length):chkE xs (nmL xs x)=0↔(hY (cyA xs)).Expl (cY (cyA xs)) mc0 x:=by
 have hl:=cyA_len xs
 have hsub:∀ i∈x,i∈cY (cyA xs):=fun i hi=>by simp only [cY,List.mem_range];rw [hl];exact hx i hi
 have hO:IsO xs (nmL xs x)↔x.Nodup∧(hY (cyA xs)).whole (cY (cyA xs)) x=true:=by
  rw [whole_iff]
  constructor
  ·intro h
   refine ⟨?_,fun i hi he=>?_⟩
   ·have:=h.nodup
    rw [nmL_eq] at this
    exact (List.pairwise_map.1 this).imp fun h e=>h (by rw [e])
   ·have hi:i<(nmA xs).length:=by rw [← hl];simpa [cY] using hi
    have hj:=nmA_mem (getD_mem (l:=nmA xs) (d:=0) hi)
    refine (mem_nmL hx hi).1 (h.all _ hj.1 hj.2 ?_)
    simp only [hY,cyA_at xs hi] at he
    simpa using he
  ·rintro ⟨h1,h2⟩
   refine ⟨fun n hn=>?_,?_,fun j hj hc hf=>?_⟩
   ·rw [nmL_eq] at hn
    obtain ⟨i,hi,rfl⟩:=List.mem_map.1 hn
    have:=nmA_mem (getD_mem (l:=nmA xs) (d:=0) (hx i hi))
    refine ⟨by omega,by omega,?_⟩
    rw [cAt,Int.toNat_natCast]
    exact this.2
   ·rw [nmL_eq]
    exact nodup_map (fun a ha b hb h=>nmA_inj (hx a ha) (hx b hb) (by omega)) h1
   ·have hjm:j∈nmA xs:=List.mem_filter.2 ⟨List.mem_range.2 hj,hc⟩
    obtain ⟨i,hi,rfl⟩:=List.getElem_of_mem hjm
    have hg:(nmA xs).getD i 0=(nmA xs)[i]:=by rw [List.getD_eq_getElem?_getD,List.getElem?_eq_getElem hi];rfl
    rw [← hg] at hf ⊢
    refine (mem_nmL hx hi).2 (h2 i (by simp only [cY,List.mem_range];rw [hl];exact hi) ?_)
    simp only [hY,cyA_at xs hi]
    simpa using hf
 have hT:InT xs (nmL xs x)↔(hY (cyA xs)).inTime x:=by
  unfold InT Hist.inTime
  rw [nmL_eq,List.pairwise_map]
  constructor
  ·intro h
   refine h.imp_of_mem fun {a b} ha hb hab=>?_
   rw [cAt_nm (hx a ha),cAt_nm (hx b hb)] at hab
   exact hab
  ·intro h
   refine h.imp_of_mem fun {a b} ha hb hab=>?_
   rw [cAt_nm (hx a ha),cAt_nm (hx b hb)]
   exact hab
 have hP:(playM mc0 0 (lineO xs (nmL xs x))).2 = -1↔((hY (cyA xs)).play mc0 x).isSome=true:=by
  rw [line_nm hx]
  exact play_iff x mc0 0
 have hM:pB (mayP xs)=true:=by rw [← mayQ_pB];exact hm
 unfold chkE
 rw [if_pos hM]
 constructor
 ·intro h
  split at h
  ·next h1 =>
   split at h
   ·next h2 =>
    split at h
    ·next h3 =>
     obtain ⟨g1,g2⟩:=hO.1 (pB_t.1 h1)
     exact ⟨g1,hsub,g2,hT.1 (pB_t.1 h2),hP.1 h3⟩
    ·cases h
   ·cases h
  ·cases h
 ·intro h
  rw [if_pos (pB_t.2 (hO.2 ⟨h.nodup,h.whole⟩)),if_pos (pB_t.2 (hT.2 h.inTime)),if_pos (hP.2 h.plays)]
theorem find_chk {xs:List Cl} (he:nsE xs=0) (hf:findE xs=0):chkE xs (findL xs)=0∧1≤(allY xs).length:=by
 have h8:=nsE_0 he
 have hm:mayQ xs=true:=by
  unfold nsE at he
  by_cases e:mayQ xs=true
  ·exact e
  ·rw [if_neg e] at he;cases he
 unfold findE at hf
 rw [if_pos he] at hf
 split at hf
 ·next h1 =>
  obtain ⟨x,hx⟩:=Option.isSome_iff_exists.1 h1
  have hE:=(all_expl h8).1 (head_mem hx)
  have e1:findL xs=nmL xs x:=by unfold findL;rw [if_pos he,hx]
  rw [e1]
  refine ⟨(chk_iff hm fun i hi=>?_).2 hE,List.length_pos_of_mem (head_mem hx)⟩
  have:=hE.sub i hi
  rw [← cyA_len];simpa [cY] using this
 ·cases hf
end Go.Proofs.Ytkjeedlkkpgopaa.Z
namespace Go.Proofs.Ytkjeedlkkpgopaa.Z
open Go Go.RowKit
def nil5:List SC:=[.v (.slice none 0 0),.v (.slice none 0 0),.v (.slice none 0 0),.v (.slice none 0 0),.v (.slice none 0 0)]
theorem line_at {xs:List Cl} {o:List Int} {k:Nat} (h:k<o.length):(lineO xs o).getD k cl0=cAt xs (o.getD k 0):=by
 simp [lineO,List.getD_eq_getElem?_getD,List.getElem?_eq_getElem h]
theorem line_len {xs:List Cl} {o:List Int}:(lineO xs o).length=o.length:=by simp [lineO]
def plM (p:MC×Int):MC:=if p.2 = -1 then p.1 else mc0
end Go.Proofs.Ytkjeedlkkpgopaa.Z
