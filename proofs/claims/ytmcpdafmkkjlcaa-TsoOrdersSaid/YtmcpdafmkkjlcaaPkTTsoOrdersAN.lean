/- TsoOrdersSaid: what its proof is made of. No condition. -/
import Derived.Test.YtmcpdafmkkjlcaaPkTTsoOrdersAM
set_option linter.unusedSimpArgs false
set_option linter.unusedVariables false
namespace Go.Proofs.Ytmcpdafmkkjlcaa.Z
open Go Go.RowKit
structure BelowD (w w' : World):Prop where
 b:Below w.heap.size w w'
 d:w.drawn≤w'.drawn
theorem BelowD.refl (w:World):BelowD w w:=⟨Below.refl _ _,Nat.le_refl _⟩
theorem BelowD.grow {w w' : World} (h:BelowD w w'):∃ q os,w' = Go.Sort.grow (w.drewN q) os:=by
 refine ⟨w'.drawn - w.drawn,w'.heap.extract w.heap.size w'.heap.size,?_⟩
 have h1:=h.b.os;have h2:=h.b.tape;have h3:=h.b.output;have h4:=h.d;have h5:=h.b.size;have h6:=h.b.block
 cases w with | mk hp tp dr os out =>
 cases w' with | mk hp' tp' dr' os' out' =>
 simp only at h1 h2 h3 h4 h5 h6
 subst h1;subst h2;subst h3
 simp only [Go.Sort.grow,World.drewN,World.mk.injEq,true_and,and_true]
 refine ⟨?_,by omega⟩
 refine Array.ext_getElem? fun i=>?_
 rw [Array.getElem?_append]
 split
 ·next hi=>rw [h6 i hi]
 ·next hi =>
  rw [Array.getElem?_extract]
  split
  ·next hj=>rw [show hp.size+(i - hp.size)=i by omega]
  ·next hj=>rw [Array.getElem?_eq_none (by omega)]
set_option maxHeartbeats 400000 in
theorem nanW (x:Int) (w:World):Calls Try.prog 113 #[.int .i64 x] w fun e w'=>e = .returned (.bool false)∧w' = w:=by
 go_enter Try.func113,Try.ntmps113
 go_wp2
 go_ret
 exact ⟨by simp,rfl⟩
set_option maxHeartbeats 400000 in
theorem cmpW (x y:Int) (w:World):Calls Try.prog 107 #[.int .i64 x,.int .i64 y] w fun e w'=>e = .returned (.int .i64 (cmp1 x y))∧w' = w:=by
 have NX:=Lib.hid (nanW x w)
 have NY:=Lib.hid (nanW y w)
 go_enter Try.func107,Try.ntmps107
 go_wp2_with fail
 refine (NX.out).mono ?_
 rintro e w2 ⟨rfl,rfl⟩
 go_wp2_with fail
 refine (NY.out).mono ?_
 rintro e w2 ⟨rfl,rfl⟩
 go_wp2_with fail
 all_goals go_ret
 all_goals refine ⟨?_,rfl⟩
 all_goals unfold cmp1
 ·rw [if_pos (by assumption)];rfl
 ·rw [if_neg (by omega),if_pos (by omega)];rfl
 ·rw [if_neg (by omega),if_neg (by omega)];rfl
theorem cmp_step {xs ys:List Int} {k:Nat} {x y:Int} (hx:xs[k]? = some x) (hy:ys[k]? = some y):cmpL (xs.drop k) (ys.drop k)=if cmp1 x y=0 then cmpL (xs.drop (k+1)) (ys.drop (k+1)) else cmp1 x y:=by
 have h1:=(List.getElem?_eq_some_iff.1 hx).1
 have h2:=(List.getElem?_eq_some_iff.1 hy).1
 have e1:xs.getD k 0=x:=by rw [List.getD_eq_getElem?_getD,hx];rfl
 have e2:ys.getD k 0=y:=by rw [List.getD_eq_getElem?_getD,hy];rfl
 rw [drop_at h1,drop_at h2,e1,e2]
 simp only [cmpL,cmp1]
 by_cases a:x<y
 ·simp [a]
 ·by_cases b:y<x
  ·simp [a,b]
  ·simp [a,b]
set_option maxHeartbeats 1000000 in
theorem compareW (ba bb:Option Addr) (n m c c' : Nat) (xs ys:List Int) (w:World) (hn:n=xs.length) (hm:m=ys.length) (hnc:n≤9223372036854775807) (hmc:m≤9223372036854775807)
  (hx:∀ k x,xs[k]? = some x→∃ b off,ba=some ⟨b,off,none⟩∧b<w.heap.size∧w.cell? ⟨b,off+k,none⟩=some (.int .i64 x))
  (hy:∀ k x,ys[k]? = some x→∃ b off,bb=some ⟨b,off,none⟩∧b<w.heap.size∧w.cell? ⟨b,off+k,none⟩=some (.int .i64 x)) :
  Calls Try.prog 87 #[.slice ba n c,.slice bb m c'] w fun e w'=>e = .returned (.int .i64 (cmpL xs ys))∧w' = w:=by
 have HX:=Lib.hid hx;clear hx
 have HY:=Lib.hid hy;clear hy
 have HN:=Lib.hid hn;clear hn
 have HM:=Lib.hid hm;clear hm
 go_enter Try.func87,Try.ntmps87
 go_wp2
 go_loopw [11] (fun i wr=>∃ k:Nat,k≤n∧i = .int .i64 k∧Hid (cmpL xs ys=cmpL (xs.drop k) (ys.drop k)∧k≤m)∧wr=w) (fun i _=>n - (intOf i).toNat)
 case atStart=>exact ⟨0,Nat.zero_le _,rfl,⟨by simp,Nat.zero_le _⟩,rfl⟩
 case round =>
  obtain ⟨k,hk,rfl,hkk,rfl⟩:=hrel
  by_cases hlt:k<n
  ·obtain ⟨x,hxk⟩:∃ x,xs[k]? = some x:=⟨_,List.getElem?_eq_getElem (by rw [← HN.out];exact hlt)⟩
   obtain ⟨b1,o1,rfl,hb1,c1⟩:=HX.out k x hxk
   by_cases hlm:k<m
   ·obtain ⟨y,hyk⟩:∃ x,ys[k]? = some x:=⟨_,List.getElem?_eq_getElem (by rw [← HM.out];exact hlm)⟩
    obtain ⟨b2,o2,rfl,hb2,c2⟩:=HY.out k y hyk
    clear hb1 hb2
    have HXK:=Lib.hid hxk;clear hxk
    have HYK:=Lib.hid hyk;clear hyk
    have hI:(k:Int)<(n:Int):=by omega
    have hJ:(k:Int)<(m:Int):=by omega
    have CW:=Lib.hid (cmpW x y wr)
    go_wp2_with fail
    refine (CW.out).mono ?_
    rintro e w2 ⟨rfl,rfl⟩
    clear CW
    have hcc:Hid (cmp1 x y=cmp1 x y):=Lib.hid rfl
    generalize hcv:cmp1 x y=cv at *
    by_cases hz:cv=0
    ·subst hz
     go_wp2_with fail
     go_roundw
     case rel =>
      refine ⟨k+1,by omega,by go_num,⟨?_,by omega⟩,by first | rfl | trivial⟩
      rw [hkk.out.1,cmp_step HXK.out HYK.out,if_pos hcv]
     case measure=>simp [intOf];omega
    ·go_wp2_with fail
     go_ret
     refine ⟨?_,rfl⟩
     rw [hkk.out.1,cmp_step HXK.out HYK.out,hcv,if_neg hz];rfl
   ·have hI:(k:Int)<(n:Int):=by omega
    have hJ:¬ (k:Int)<(m:Int):=by omega
    clear hb1
    have HXK:=Lib.hid hxk;clear hxk
    go_wp2_with fail
    go_ret
    refine ⟨?_,rfl⟩
    have h1:=(List.getElem?_eq_some_iff.1 HXK.out).1
    rw [hkk.out.1,show ys.drop k=[] from List.drop_eq_nil_of_le (by rw [← HM.out];omega),drop_at h1]
    rfl
  ·have hkn:k=n:=by omega
   subst hkn
   by_cases hlm:k<m
   ·have hJ:(k:Int)<(m:Int):=by omega
    go_wp2_with fail
    go_ret
    refine ⟨?_,rfl⟩
    rw [hkk.out.1,show xs.drop k=[] from List.drop_eq_nil_of_le (by rw [← HN.out];exact Nat.le_refl _),drop_at (show k<ys.length by rw [← HM.out];exact hlm)]
    rfl
   ·have hJ:¬ (k:Int)<(m:Int):=by omega
    go_wp2_with fail
    go_ret
    refine ⟨?_,rfl⟩
    rw [hkk.out.1,show xs.drop k=[] from List.drop_eq_nil_of_le (by rw [← HN.out];exact Nat.le_refl _),show ys.drop k=[] from List.drop_eq_nil_of_le (by rw [← HM.out];omega)]
    rfl
def Dr (W w:World):Prop:=∃ q,w=W.drewN q
theorem Dr.drewN {W w:World} (h:Dr W w) (n:Nat):Dr W (w.drewN n):=by
 obtain ⟨q,rfl⟩:=h
 exact ⟨q+n,by simp only [World.drewN,Nat.add_assoc]⟩
theorem Dr.drew {W w:World} (h:Dr W w):Dr W w.drew:=h.drewN 1
theorem cell_lt {w:World} {b o:Nat} {u:Value} (h:w.cell? ⟨b,o,none⟩=some u):b<w.heap.size:=by
 unfold World.cell? at h
 cases e:w.heap[b]? with
 | none=>simp only [e] at h;cases h
 | some x=>exact (Array.getElem?_eq_some_iff.1 e).1
theorem compareA {w:World} {v v' : Value} {xs ys:List Int} (h:Arr w eI 1 v xs) (h' : Arr w eI 1 v' ys):Calls Try.prog 87 #[v,v'] w fun e w'=>e = .returned (.int .i64 (cmpL xs ys))∧w' = w:=by
 have l1:=h.len
 have l2:=h'.len
 obtain ⟨ba,c,rfl,h1,h2,h3⟩:=h
 obtain ⟨bb,c',rfl,h1',h2',h3'⟩:=h'
 refine compareW ba bb _ _ c c' xs ys w rfl rfl l1 l2 (fun k x hk=>?_) (fun k x hk=>?_)
 ·rcases h3 with rfl | ⟨b,off,rfl,h3⟩
  ·simp at hk
  ·have:=h3 k x hk 0 (.int .i64 x) rfl
   simp only [Nat.mul_one,Nat.add_zero] at this
   exact ⟨b,off,rfl,cell_lt this,this⟩
 ·rcases h3' with rfl | ⟨b,off,rfl,h3⟩
  ·simp at hk
  ·have:=h3 k x hk 0 (.int .i64 x) rfl
   simp only [Nat.mul_one,Nat.add_zero] at this
   exact ⟨b,off,rfl,cell_lt this,this⟩
theorem rowA {w:World} {b off t:Nat} {l:List R4} (ht:t<l.length) (h:∀ k x,l[k]? = some x→∀ j u,(R4.enc x)[j]? = some u→w.cell? ⟨b,off+k * 4+j,none⟩=some u):Arr w eI 1 (.slice (some ⟨b,off+t * 4,none⟩) 4 4) (r4L (l.getD t r40)):=by
 refine ⟨_,4,rfl,Nat.le_refl _,by simp [maxLen],Or.inr ⟨b,_,rfl,fun k x hk j u hu=>?_⟩⟩
 have hl:l[t]? = some (l.getD t r40):=by rw [List.getD_eq_getElem?_getD,List.getElem?_eq_getElem ht];rfl
 have hj:j=0:=by
  cases j with
  | zero=>rfl
  | succ j=>simp [eI] at hu
 subst hj
 simp only [eI,List.getElem?_cons_zero,Option.some.injEq] at hu
 subst hu
 rw [Nat.mul_one,Nat.add_zero]
 refine h t _ hl k _ ?_
 have:R4.enc (l.getD t r40)=(r4L (l.getD t r40)).map (Value.int .i64):=rfl
 rw [this,List.getElem?_map,hk];rfl
theorem ordR_step {l m:List R4} {k:Nat} (h1:k<l.length) (h2:k<m.length):ordR (l.drop k) (m.drop k)=if cmpL (r4L (l.getD k r40)) (r4L (m.getD k r40))=0 then ordR (l.drop (k+1)) (m.drop (k+1)) else cmpL (r4L (l.getD k r40)) (r4L (m.getD k r40)):=by
 rw [drop_r4 h1,drop_r4 h2]
 simp only [ordR]
 by_cases e:cmpL (r4L (l.getD k r40)) (r4L (m.getD k r40))=0
 ·rw [if_neg (fun q=>q e),if_pos e]
 ·rw [if_pos e,if_neg e]
set_option maxHeartbeats 1000000 in
theorem orderW (vw vw' : Value) (ba bb:Option Addr) (c c' n n' : Nat) (w:World) (a b:Fn) (hw:Arr w eI 1 vw a.words) (hw' : Arr w eI 1 vw' b.words) (hr:Arr w R4.enc 4 (.slice ba n c) a.regs) (hr' : Arr w R4.enc 4 (.slice bb n' c') b.regs) (hn:n=a.regs.length) (hn' : n' = b.regs.length) (he:n=n') :
  Calls Try.prog 52 #[.agg #[vw,.slice ba n c],.agg #[vw',.slice bb n' c']] w fun e w'=>e = .returned (.int .i64 (ordF a b))∧BelowD w w':=by
 subst he
 have HW:=Lib.hid hw;clear hw
 have HW':=Lib.hid hw';clear hw'
 have HR:=Lib.hid hr;clear hr
 have HR':=Lib.hid hr';clear hr'
 have HN:=Lib.hid hn;clear hn
 have HN':=Lib.hid hn';clear hn'
 have hnl:n≤9223372036854775807:=by rw [HN.out];exact HR.out.len
 go_enter Try.func52,Try.ntmps52
 go_wp2_with fail
 have hb0:Below w.heap.size w ((w.alloc (.cells #[vw,.slice ba n c] 67)).alloc (.cells #[vw',.slice bb n c'] 67)):=(below_box _ _).trans ((below_box _ _).mono (by simp))
 have X:Hid (∀ j u,#[vw,Value.slice ba n c][j]? = some u→((w.alloc (.cells #[vw,.slice ba n c] 67)).alloc (.cells #[vw',.slice bb n c'] 67)).cell? ⟨w.heap.size,j,none⟩=some u) :=
  fun j u h=>((below_box _ _).cell (by simp)).trans (box_cell w _ _ j u h)
 have X' : Hid (∀ j u,#[vw',Value.slice bb n c'][j]? = some u→((w.alloc (.cells #[vw,.slice ba n c] 67)).alloc (.cells #[vw',.slice bb n c'] 67)).cell? ⟨w.heap.size+1,j,none⟩=some u) :=
  fun j u h=>box_cell' _ _ (by simp) j u h
 have hD:BelowD w ((w.alloc (.cells #[vw,.slice ba n c] 67)).alloc (.cells #[vw',.slice bb n c'] 67)):=⟨hb0,Nat.le_refl _⟩
 have CW:=Lib.hid (compareA (HW.out.below hb0) (HW'.out.below hb0))
 have HR1:=Lib.hid (HR.out.below hb0)
 have HR1':=Lib.hid (HR'.out.below hb0)
 clear HR HR' HW HW'
 refine (CW.out).mono ?_
 rintro e w2 ⟨rfl,rfl⟩
 clear CW
 generalize (w.alloc (.cells #[vw,.slice ba n c] 67)).alloc (.cells #[vw',.slice bb n c'] 67)=W1 at *
 have HO:Hid (ordF a b=if cmpL a.words b.words≠0 then cmpL a.words b.words else ordR a.regs b.regs):=rfl
 generalize cmpL a.words b.words=cw at *
 have x1:=X.out 1 _ rfl
 have x1':=X'.out 1 _ rfl
 by_cases hz:cw=0
 ·subst hz
  go_wp2_with fail
  go_loopw [19] (fun i wr=>∃ k:Nat,k≤n∧i = .int .i64 k∧Hid (ordR a.regs b.regs=ordR (a.regs.drop k) (b.regs.drop k))∧Hid (Dr W1 wr)) (fun i _=>n - (intOf i).toNat)
  case atStart=>exact ⟨0,Nat.zero_le _,rfl,Lib.hid (by simp),Lib.hid ⟨0,rfl⟩⟩
  case round =>
   obtain ⟨k,hk,rfl,hkk,HQ⟩:=hrel
   have y1:wr.cell? ⟨w.heap.size,1,none⟩=some (Value.slice ba n c):=by obtain ⟨q,rfl⟩:=HQ.out;exact x1
   have y1' : wr.cell? ⟨w.heap.size+1,1,none⟩=some (Value.slice bb n c'):=by obtain ⟨q,rfl⟩:=HQ.out;exact x1'
   clear x1 x1'
   by_cases hlt:k<n
   ·have hI:(k:Int)<(n:Int):=by omega
    obtain ⟨b1,o1,rfl,e3⟩:∃ b1 o1,ba=some ⟨b1,o1,none⟩∧∀ k x,a.regs[k]? = some x→∀ j u,(R4.enc x)[j]? = some u→W1.cell? ⟨b1,o1+k * 4+j,none⟩=some u:=by
     obtain ⟨ba',cap,e1,_,_,e3⟩:=HR1.out
     simp only [Value.slice.injEq] at e1
     obtain ⟨rfl,_,rfl⟩:=e1
     rcases e3 with e3 | ⟨b1,o1,e3,e4⟩
     ·have:=HN.out;rw [e3] at this;simp at this;omega
     ·exact ⟨b1,o1,e3,e4⟩
    obtain ⟨b2,o2,rfl,e3'⟩:∃ b1 o1,bb=some ⟨b1,o1,none⟩∧∀ k x,b.regs[k]? = some x→∀ j u,(R4.enc x)[j]? = some u→W1.cell? ⟨b1,o1+k * 4+j,none⟩=some u:=by
     obtain ⟨ba',cap,e1,_,_,e3⟩:=HR1'.out
     simp only [Value.slice.injEq] at e1
     obtain ⟨rfl,_,rfl⟩:=e1
     rcases e3 with e3 | ⟨b1,o1,e3,e4⟩
     ·have:=HN'.out;rw [e3] at this;simp at this;omega
     ·exact ⟨b1,o1,e3,e4⟩
    have RA:=Lib.hid (rowA (t:=k) (by rw [← HN.out];exact hlt) e3)
    have RB:=Lib.hid (rowA (t:=k) (by rw [← HN'.out];exact hlt) e3')
    have HS:=Lib.hid (ordR_step (l:=a.regs) (m:=b.regs) (k:=k) (by rw [← HN.out];exact hlt) (by rw [← HN'.out];exact hlt))
    clear e3 e3' HR1 HR1'
    generalize r4L (a.regs.getD k r40)=ra at *
    generalize r4L (b.regs.getD k r40)=rb at *
    have CW:Hid (∀ wx,Dr W1 wx→Calls Try.prog 87 #[.slice (some ⟨b1,o1+k * 4,none⟩) 4 4,.slice (some ⟨b2,o2+k * 4,none⟩) 4 4] wx fun e w'=>e = .returned (.int .i64 (cmpL ra rb))∧w' = wx):=fun wx hwx=>by
     obtain ⟨q,rfl⟩:=hwx
     exact compareA (w:=W1.drewN q) RA.out RB.out
    clear RA RB
    generalize cmpL ra rb=cr at *
    by_cases hz:cr=0
    ·subst hz
     go_wp2_with fail
     go_region_held3 (fun w'=>w'.cell? ⟨w.heap.size,1,none⟩=some (Value.slice (some ⟨b1,o1,none⟩) n c)∧w'.cell? ⟨w.heap.size+1,1,none⟩=some (Value.slice (some ⟨b2,o2,none⟩) n c'))
      (first | (exact ⟨y1,y1'⟩))
      (first | (go_at_call 87;refine (CW.out _ (by first | exact HQ.out | exact HQ.out.drewN _ | exact HQ.out.drew)).mono ?_;rintro r w6 ⟨rfl,rfl⟩))
     go_wp2_with fail
     go_roundw
     case rel=>exact ⟨k+1,by omega,by go_num,Lib.hid (by rw [hkk.out,HS.out];simp),Lib.hid HQ.out.drew⟩
     case measure=>simp [intOf];omega
    ·go_wp2_with fail
     go_region_held3 (fun w'=>w'.cell? ⟨w.heap.size,1,none⟩=some (Value.slice (some ⟨b1,o1,none⟩) n c)∧w'.cell? ⟨w.heap.size+1,1,none⟩=some (Value.slice (some ⟨b2,o2,none⟩) n c'))
      (first | (exact ⟨y1,y1'⟩))
      (first | (go_at_call 87;refine (CW.out _ (by first | exact HQ.out | exact HQ.out.drewN _ | exact HQ.out.drew)).mono ?_;rintro r w6 ⟨rfl,rfl⟩))
     go_wp2_with fail
     go_ret
     obtain ⟨q,rfl⟩:=HQ.out
     refine ⟨?_,⟨below_drewN (below_drewN hD.b _) 1,?_⟩⟩
     ·rw [HO.out,if_neg (fun q=>q rfl),hkk.out,HS.out,if_neg hz];rfl
     ·have:=hD.d;show w.drawn≤W1.drawn+q+1;omega
   ·have hI:¬ (k:Int)<(n:Int):=by omega
    have hkn:k=n:=by omega
    go_wp2_with fail
    go_ret
    obtain ⟨q,rfl⟩:=HQ.out
    refine ⟨?_,⟨below_drewN hD.b _,?_⟩⟩
    ·rw [HO.out,if_neg (by simp),hkk.out,hkn,show a.regs.drop n=[] from List.drop_eq_nil_of_le (by rw [← HN.out];exact Nat.le_refl _)];rfl
    ·have:=hD.d;show w.drawn≤W1.drawn+q;omega
 ·go_wp2_with fail
  go_ret
  exact ⟨by rw [HO.out,if_pos hz];rfl,hD⟩
end Go.Proofs.Ytmcpdafmkkjlcaa.Z
namespace Go.Proofs
open Go.Shelf Go.RowKit Go.Lib Go.Sort
def Ytmcpdafmkkjlcaa.sortFin_ren:Go.Shelf.Ren:=⟨fun | 6=>51 | 15=>86 | 14=>85 | 28=>105 | 29=>106 | 20=>97 | 21=>98 | 22=>99 | 23=>100 | 24=>101 | 25=>102 | 26=>103 | 27=>104 | 46=>108 | 47=>109 | 48=>110 | 49=>111 | 50=>112 | 57=>114 | n=>n,fun | 22=>58 | 24=>67 | 25=>101 | 3=>3 | 39=>138 | 0=>0 | 53=>162 | 55=>164 | 4=>4 | 46=>156 | 45=>155 | 50=>144 | 5=>5 | 9=>9 | 66=>166 | 70=>151 | 76=>172 | 77=>173 | n=>n,fun | n=>n⟩
theorem Ytmcpdafmkkjlcaa.sortFin:Go.Proofs.SlLaysF0.n6 Try.prog Ytmcpdafmkkjlcaa.sortFin_ren where
 mixed:=by kernel_rfl
 f6:=⟨"slices.SortFunc[[]reclaim/api.Final,reclaim/api.Final]",by decide,Try.func51.trans (congrArg some (by kernel_rfl))⟩
 f14:=⟨"slices.pdqsortCmpFunc[reclaim/api.Final]",by decide,Try.func85.trans (congrArg some (by kernel_rfl))⟩
 f15:=Try.func86.trans (congrArg some (by kernel_rfl))
 f20:=⟨"slices.insertionSortCmpFunc[reclaim/api.Final]",by decide,Try.func97.trans (congrArg some (by kernel_rfl))⟩
 f21:=⟨"slices.heapSortCmpFunc[reclaim/api.Final]",by decide,Try.func98.trans (congrArg some (by kernel_rfl))⟩
 f22:=⟨"slices.breakPatternsCmpFunc[reclaim/api.Final]",by decide,Try.func99.trans (congrArg some (by kernel_rfl))⟩
 f23:=⟨"slices.choosePivotCmpFunc[reclaim/api.Final]",by decide,Try.func100.trans (congrArg some (by kernel_rfl))⟩
 f24:=⟨"slices.reverseRangeCmpFunc[reclaim/api.Final]",by decide,Try.func101.trans (congrArg some (by kernel_rfl))⟩
 f25:=⟨"slices.partialInsertionSortCmpFunc[reclaim/api.Final]",by decide,Try.func102.trans (congrArg some (by kernel_rfl))⟩
 f26:=⟨"slices.partitionEqualCmpFunc[reclaim/api.Final]",by decide,Try.func103.trans (congrArg some (by kernel_rfl))⟩
 f27:=⟨"slices.partitionCmpFunc[reclaim/api.Final]",by decide,Try.func104.trans (congrArg some (by kernel_rfl))⟩
 f28:=Try.func105.trans (congrArg some (by kernel_rfl))
 f29:=Try.func106.trans (congrArg some (by kernel_rfl))
 f46:=⟨"slices.siftDownCmpFunc[reclaim/api.Final]",by decide,Try.func108.trans (congrArg some (by kernel_rfl))⟩
 f47:=Try.func109.trans (congrArg some (by kernel_rfl))
 f48:=Try.func110.trans (congrArg some (by kernel_rfl))
 f49:=⟨"slices.medianAdjacentCmpFunc[reclaim/api.Final]",by decide,Try.func111.trans (congrArg some (by kernel_rfl))⟩
 f50:=⟨"slices.medianCmpFunc[reclaim/api.Final]",by decide,Try.func112.trans (congrArg some (by kernel_rfl))⟩
 f57:=⟨"slices.order2CmpFunc[reclaim/api.Final]",by decide,Try.func114.trans (congrArg some (by kernel_rfl))⟩
 t0:=Try.underlying0
 a0:=Try.isAgg0
 z0:=Try.sizeOf0
 v0:=Try.zeroValue0
 t3:=Try.underlying3
 a3:=Try.isAgg3
 z3:=Try.sizeOf3
 v3:=Try.zeroValue3
 t4:=Try.underlying4
 a4:=Try.isAgg4
 z4:=Try.sizeOf4
 v4:=Try.zeroValue4
 t5:=Try.underlying5
 a5:=Try.isAgg5
 z5:=Try.sizeOf5
 v5:=Try.zeroValue5
 t9:=Try.underlying9
 a9:=Try.isAgg9
 z9:=Try.sizeOf9
 v9:=Try.zeroValue9
 t22:=Try.underlying58
 a22:=Try.isAgg58
 z22:=Try.sizeOf58
 v22:=Try.zeroValue58
 t25:=Try.underlying101
 a25:=Try.isAgg101
 z25:=Try.sizeOf101
 v25:=Try.zeroValue101
 t39:=Try.underlying138
 a39:=Try.isAgg138
 z39:=Try.sizeOf138
 v39:=Try.zeroValue138
 t45:=Try.underlying155
 a45:=Try.isAgg155
 z45:=Try.sizeOf155
 v45:=Try.zeroValue155
 t46:=Try.underlying156
 a46:=Try.isAgg156
 z46:=Try.sizeOf156
 v46:=Try.zeroValue156
 t50:=Try.underlying144
 a50:=Try.isAgg144
 z50:=Try.sizeOf144
 v50:=Try.zeroValue144
 t53:=Try.underlying162
 a53:=Try.isAgg162
 z53:=Try.sizeOf162
 v53:=Try.zeroValue162
 t55:=Try.underlying164
 a55:=Try.isAgg164
 z55:=Try.sizeOf164
 v55:=Try.zeroValue164
 t66:=Try.underlying166
 a66:=Try.isAgg166
 z66:=Try.sizeOf166
 v66:=Try.zeroValue166
 t70:=Try.underlying151
 a70:=Try.isAgg151
 z70:=Try.sizeOf151
 v70:=Try.zeroValue151
 t76:=Try.underlying172
 a76:=Try.isAgg172
 z76:=Try.sizeOf172
 v76:=Try.zeroValue172
 t77:=Try.underlying173
 a77:=Try.isAgg173
 z77:=Try.sizeOf173
 v77:=Try.zeroValue173
namespace Ytmcpdafmkkjlcaa.Z
open Go Go.RowKit
def cmpI (l:List Sp) (a b:Nat):Int:=cmpL (numF (endF (l.getD a sp0).s)) (numF (endF (l.getD b sp0).s))
theorem cmp_letrans {a b c:List Int} (h1:cmpL a b≤0) (h2:cmpL b c≤0):cmpL a c≤0:=by
 by_cases e1:cmpL a b=0
 ·rw [(cmp_zero a b).1 e1];exact h2
 ·by_cases e2:cmpL b c=0
  ·rw [← (cmp_zero b c).1 e2];exact h1
  ·have:=(cmp_less a c).2 (less_trans ((cmp_less a b).1 (by omega)) ((cmp_less b c).1 (by omega)))
   omega
theorem map_inj {L:Lt} {o:Int} {l:List Sp} (h:WkNd L o l):∀ {m m' : List Nat},(∀ x∈m,x∈idxL L l)→(∀ x∈m',x∈idxL L l)→m.map (fun k=>endF (l.getD k sp0).s)=m'.map (fun k=>endF (l.getD k sp0).s)→m=m'
 | [],[],_,_,_=>rfl
 | [],_ :: _,_,_,e=>by simp at e
 | _ :: _,[],_,_,e=>by simp at e
 | a :: m,b :: m',h1,h2,e=>by
  simp only [List.map_cons,List.cons.injEq] at e
  rw [idx_inj h (h1 a List.mem_cons_self) (h2 b List.mem_cons_self) e.1,map_inj h (fun x hx=>h1 x (List.mem_cons_of_mem _ hx)) (fun x hx=>h2 x (List.mem_cons_of_mem _ hx)) e.2]
theorem srt_ex {L:Lt} {o:Int} {l:List Sp} (h:WkNd L o l):∃ zs:List Nat,zs.Perm (idxL L l)∧zs.map (fun k=>endF (l.getD k sp0).s)=finsL L (l.map (·.s))∧∀ m:List Nat,m.Perm (idxL L l)→m.Pairwise (fun a b=>¬ ordI l b a<0)→m=zs:=by
 have hle:∀ a b,a∈idxL L l→b∈idxL L l→(¬ ordI l b a<0↔ordI l a b≤0):=fun a b ha hb=>by
  rw [ordI_eq h (idx_lt ha).1 (idx_lt hb).1,ordI_eq h (idx_lt hb).1 (idx_lt ha).1,cmp_anti]
  omega
 have hp:=List.mergeSort_perm (idxL L l) fun a b=>decide (cmpI l a b≤0)
 have hs:=List.pairwise_mergeSort (le:=fun a b=>decide (cmpI l a b≤0)) (fun a b c h1 h2=>by
  simp only [decide_eq_true_eq] at h1 h2 ⊢
  exact cmp_letrans h1 h2) (fun a b=>by
  simp only [Bool.or_eq_true,decide_eq_true_eq]
  unfold cmpI
  rw [cmp_anti (numF (endF (l.getD a sp0).s)) (numF (endF (l.getD b sp0).s))]
  omega) (idxL L l)
 have hs2:((idxL L l).mergeSort fun a b=>decide (cmpI l a b≤0)).Pairwise fun a b=>ordI l a b≤0:=List.Pairwise.imp_of_mem (fun {a b} ha hb hab=>by
  rw [ordI_eq h (idx_lt (hp.mem_iff.1 ha)).1 (idx_lt (hp.mem_iff.1 hb)).1]
  exact of_decide_eq_true hab) hs
 have hm:=srt_idx h hp hs2
 refine ⟨_,hp,hm,fun m hmp hms=>?_⟩
 refine map_inj h (fun x hx=>hmp.mem_iff.1 hx) (fun x hx=>hp.mem_iff.1 hx) ?_
 rw [hm]
 exact srt_idx h hmp (List.Pairwise.imp_of_mem (fun {a b} ha hb hab=>(hle a b (hmp.mem_iff.1 ha) (hmp.mem_iff.1 hb)).1 hab) hms)
theorem swo_idx {L:Lt} {o:Int} {l:List Sp} (h:WkNd L o l):Go.Sort.SWO (ltOf fun x y:{x:Nat // x∈idxL L l}=>ordI l x.1 y.1):=by
 have e:∀ x y:{x:Nat // x∈idxL L l},ordI l x.1 y.1=cmpI l x.1 y.1:=fun x y=>ordI_eq h (idx_lt x.2).1 (idx_lt y.2).1
 refine ⟨fun x=>?_,fun x y z=>?_,fun x y z=>?_⟩ <;> simp only [ltOf,decide_eq_true_eq,decide_eq_false_iff_not,e]
 ·unfold cmpI;rw [(cmp_zero _ _).2 rfl];omega
 ·unfold cmpI
  intro h1 h2
  exact (cmp_less _ _).2 (less_trans ((cmp_less _ _).1 h1) ((cmp_less _ _).1 h2))
 ·intro h1 h2 h3
  unfold cmpI at h1 h2 h3
  have a1:=cmp_anti (numF (endF (l.getD x.1 sp0).s)) (numF (endF (l.getD y.1 sp0).s))
  have a2:=cmp_anti (numF (endF (l.getD y.1 sp0).s)) (numF (endF (l.getD z.1 sp0).s))
  have a3:=cmp_anti (numF (endF (l.getD x.1 sp0).s)) (numF (endF (l.getD z.1 sp0).s))
  have:=cmp_letrans (a:=numF (endF (l.getD z.1 sp0).s)) (b:=numF (endF (l.getD y.1 sp0).s)) (c:=numF (endF (l.getD x.1 sp0).s)) (by omega) (by omega)
  omega
theorem arr_ownW {C:Ctx} {E:Env} {S:St} {a:Act} {w W:World} (hs:Sat C.B C.W C.w0 E S a w) {α:Type} {ty s:Nat} {enc:α→List Value} {ys:List α} {d:α} (x y:Nm) (k n k' s' ty' : Nat) (at_ at' : Nat→List SC) (hat:atN S.own x=some (.ar k s at_ ty)) (hay:atN S.own y=some (.ar k' s' at' ty')) (hne:x≠y) (hk' : 0<k') (hn:n=ys.length) (hk:ys.length≤k)
  (ha:∀ e,e<ys.length→at_ e=ats enc ys d e) (hW:∀ n,n<w.heap.size→n≠E.ρ y→W.heap[n]? = w.heap[n]?):Arr W enc s ((SC.sl x s 0 n none).den E) ys:=by
 subst hn
 obtain ⟨H,hH,_⟩:=hs.mem
 rcases ar_heap hH hat with ⟨h1,h2,h3,_⟩ | ⟨h1,h2,h3,cells,h4,h5,h6,h7⟩
 ·have h0:ys=[]:=List.eq_nil_of_length_eq_zero (by omega)
  subst h0
  exact ⟨if E.ν x=true then none else some ⟨E.ρ x,0,none⟩,0,by simp [SC.den,h2],Nat.le_refl _,by simp [maxLen],Or.inl rfl⟩
 ·refine ⟨some ⟨E.ρ x,0,none⟩,E.κ x,by simp [SC.den,h1],by omega,h3,Or.inr ⟨_,_,rfl,fun e y' hy j u hu=>?_⟩⟩
  have hxy:E.ρ x≠E.ρ y:=fun q=>by
   rcases ar_heap hH hay with ⟨_,_,g3,_⟩ | ⟨_,_,_,cells2,g4,_,_,_⟩
   ·omega
   ·have:=hH.disj x y _ _ hat hay hne (E.ρ x)
    rw [h4,g4,q] at this
    simp [sing] at this
  have hlt:E.ρ x<w.heap.size:=(Array.getElem?_eq_some_iff.1 h5).1
  rw [cell_of_row W _ _ _ ty (0,0) (by rw [hW _ hlt hxy];exact h5),Nat.zero_add]
  have he:e<ys.length:=(List.getElem?_eq_some_iff.1 hy).1
  have:=((h7 e (by omega)).2 j (.v u) (by
   rw [ha e he]
   have:ys.getD e d=y':=by rw [List.getD_eq_getElem?_getD,hy];rfl
   simp only [ats,this,List.getElem?_map,hu];rfl)).1
  rw [den_v] at this
  exact this
theorem retNm {P:Program} {A:List Nat} {w:World} {rs:List RS} {nx:Nat} {T:Nat→SV} {O:Nat→Own} {v:SV} {S:St} (σ:Nat→Nm→Nm) (hv:∀ b,v=(T b).ren (σ b)∧(T b).okN (NewIds b nx))
  (ho:∀ b,OwnLe (NewIds b nx) (σ b) S.own (O b)) (hi:∀ b,InjN (σ b) (O b)):RetVC (mkC P A w rs (RetN w nx T O)) v S:=by
 intro E a w' hs
 have hs:=hs.sat
 refine ⟨_,rfl,below_of hs,fun b=>⟨E.via (σ b),fun x=>hs.one _,fun E2 hE2=>?_⟩⟩
 have hR:∀ x:Nm,NewIds b nx x.1→SameR (σ b) E E2 x:=fun x hx=>hE2 x hx
 obtain ⟨H,hH,_⟩:=hs.mem
 have hat:∀ x c,atN (O b) x=some c→NewIds b nx x.1∧∃ d,atN S.own (σ b x)=some d∧BlkLe (NewIds b nx) (σ b) d c:=fun x c hx=>ownLe_at (ho b) hx
 refine ⟨?_,fun x=>H (σ b x),?_,?_,?_⟩
 ·rw [sv_ren hR _ (hv b).2,← (hv b).1]
 ·intro x c hx
  obtain ⟨h1,d,h2,h3⟩:=hat x c hx
  exact blk_le hR h1 h3 (hH.den _ _ h2)
 ·intro x y c d hx hy hne n
  obtain ⟨_,c',h2,_⟩:=hat x c hx
  obtain ⟨_,d',g2,_⟩:=hat y d hy
  exact hH.disj _ _ c' d' h2 g2 (fun e=>hne (hi b x y c d hx hy e)) n
 ·intro x c hx n o hn
  obtain ⟨_,c',h2,_⟩:=hat x c hx
  obtain ⟨h3,h4⟩:=hH.sub _ c' h2 n o hn
  exact ⟨h3,h4.resolve_right fun h=>h.elim⟩
def esF (l:List Sp) (k:Nat):List SC:=[.sl (5,k,0) 1 0 (l.getD k sp0).s.words.length none,.sl (6,k,0) 4 0 (l.getD k sp0).s.regs.length none]
def idxT (L:Lt) (l:List Sp) (i:Nat):List Nat:=(List.range i).filter fun k=>finB L (l.getD k sp0).s
theorem idxT_succ {L:Lt} {l:List Sp} {i:Nat}:idxT L l (i+1)=if finB L (l.getD i sp0).s=true then idxT L l i++[i] else idxT L l i:=by
 unfold idxT
 rw [List.range_succ,List.filter_append]
 by_cases h:finB L (l.getD i sp0).s=true
 ·rw [if_pos h,List.filter_cons,if_pos h];rfl
 ·rw [if_neg h,List.filter_cons,if_neg h];simp
theorem idxT_len {L:Lt} {l:List Sp} (i:Nat):(idxT L l i).length≤i:=by
 have:=List.length_filter_le (fun k=>finB L (l.getD k sp0).s) (List.range i)
 rwa [List.length_range] at this
def ffL (l:List Sp) (ys:List Nat) (n:Nat):Blk:=.ar n 2 (fun e=>esF l (ys.getD e 0)) 67
def ffS (L:Lt) (l:List Sp) (i:Nat):Own:=(3,.one (.bk [.xv (0,0,0),.xv (1,0,0)] 25)) :: wlO 4 l++[(10,.one (ffL l (idxT L l i) (idxT L l i).length))]
def ffTm (L:Lt) (l:List Sp) (i:Nat):List (Nat×SV):=[(2,.c (.ptr (3,0,0) 0)),(8,.c (.sl (10,0,0) 2 0 (idxT L l i).length none)),(20,.c (.sl (4,0,0) 8 0 l.length none)),(21,.c (.v (.int .i64 l.length))),(22,.c (.v (.int .i64 i)))]
theorem ff_same {q:Nat→Prop} {τ:Nat→Nat} {own:Own} {l:List Sp} {ys:List Nat} {m:Nat} {at_:Nat→List SC} (c:Nat) (hq:∀ i,i<11→q i) (hτ:∀ i,i<10→τ i=i) (h10:τ 10=c) (h3:look own 3=some (.one (.bk [.xv (0,0,0),.xv (1,0,0)] 25)))
  (g4:look own 4=some (.one (.ar l.length 8 (wlC 4 l) 98))) (g5:look own 5=some (.fam l.length (wlW l))) (g6:look own 6=some (.fam l.length (wlR l))) (g7:look own 7=some (.fam l.length (wlP l))) (g8:look own 8=some (.fam l.length (wlB 9 l))) (g9:look own 9=some (.fam2 l.length (wlN l) (wlF l)))
  (hc:look own c=some (.one (.ar m 2 at_ 67))) (hm:ys.length≤m) (ha:∀ e,e<ys.length→at_ e=esF l (ys.getD e 0)):OwnLe q (idσ τ) own ((3,.one (.bk [.xv (0,0,0),.xv (1,0,0)] 25)) :: wlO 4 l++[(10,.one (ffL l ys ys.length))]):=by
 have t0:=hτ 0 (by decide);have t1:=hτ 1 (by decide);have t3:=hτ 3 (by decide);have t4:=hτ 4 (by decide);have t5:=hτ 5 (by decide);have t6:=hτ 6 (by decide);have t7:=hτ 7 (by decide);have t8:=hτ 8 (by decide);have t9:=hτ 9 (by decide)
 have q0:=hq 0 (by decide);have q1:=hq 1 (by decide);have q5:=hq 5 (by decide);have q6:=hq 6 (by decide);have q7:=hq 7 (by decide);have q8:=hq 8 (by decide);have q9:=hq 9 (by decide)
 refine ⟨⟨hq 3 (by decide),?_⟩,⟨hq 4 (by decide),?_⟩,⟨hq 5 (by decide),fun k hk=>?_⟩,⟨hq 6 (by decide),fun k hk=>?_⟩,⟨hq 7 (by decide),fun k hk=>?_⟩,⟨hq 8 (by decide),fun k hk=>?_⟩,⟨hq 9 (by decide),fun k e hk he=>?_⟩,⟨hq 10 (by decide),?_⟩,trivial⟩
 ·simp only [idσ,t3,atN,h3,Fm.get,and_self,if_true]
  exact ⟨by simp only [SC.renL,SC.ren,idσ,t0,t1],rfl,by simp [SC.okL,SC.okN,q0,q1]⟩
 ·simp only [idσ,t4,atN,g4,Fm.get,and_self,if_true]
  exact ⟨Nat.le_refl _,rfl,rfl,fun e _=>⟨by simp only [wlC,SC.renL,SC.ren,idσ,Nat.reduceAdd,t5,t6,t7,t8],by simp [wlC,SC.okL,SC.okN,q5,q6,q7,q8]⟩⟩
 ·simp only [idσ,Nat.reduceAdd,t5,atN,g5,Fm.get,hk,and_self,if_true];exact arLe_same
 ·simp only [idσ,Nat.reduceAdd,t6,atN,g6,Fm.get,hk,and_self,if_true];exact arLe_same
 ·simp only [idσ,Nat.reduceAdd,t7,atN,g7,Fm.get,hk,and_self,if_true];exact arLe_same
 ·simp only [idσ,Nat.reduceAdd,t8,atN,g8,Fm.get,hk,and_self,if_true]
  exact ⟨Nat.le_refl _,rfl,rfl,fun e _=>⟨by simp only [SC.renL,SC.ren,idσ,t9],by simp [SC.okL,SC.okN,q9]⟩⟩
 ·simp only [idσ,Nat.reduceAdd,t9,atN,g9,Fm.get,hk,he,and_self,if_true];exact arLe_same
 ·simp only [idσ,h10,atN,hc,Fm.get,and_self,if_true]
  exact ⟨hm,rfl,rfl,fun e he=>⟨by rw [ha e he];simp only [esF,SC.renL,SC.ren,idσ,t5,t6],by simp [esF,SC.okL,SC.okN,q5,q6]⟩⟩
end Ytmcpdafmkkjlcaa.Z
end Go.Proofs
namespace Go.Proofs.Ytmcpdafmkkjlcaa.Z
open Go Go.RowKit
def FinR (L:Lt) (o:Int) (w:World) (e:Ending) (w' : World):Prop:=match bfs L o with
 | some l=>RetN w 3 (leT 2 (finsL L (l.map (·.s))).length 0) (fun b=>foO b (finsL L (l.map (·.s)))) e w'
 | none=>RetV w (.tuple #[.slice none 0 0,.int .i64 192]) e w'
theorem arr_ltσ {q:Nat→Prop} {σ:Nm→Nm} {L:Lt} {arrs:List (Nat×Fm ArrF)} (hq:∀ i,i<3→q i) (hσ:∀ i k e,i<3→σ (i,k,e)=(i,k,e)) (h0:look arrs 0=some (.one (arrOf eI 1 L.words 0))) (h1:look arrs 1=some (.one (nestF 2 L.thr.length))) (h2:look arrs 2=some (.fam L.thr.length fun k=>arrOf Ins.enc 7 (L.thr.getD k []) in0)):ArrsLe q σ arrs (ltA 0 L):=by
 have e:∀ {α:Type} {enc:α→List Value} {s:Nat} {xs:List α} {d:α},ArrLe q σ (arrOf enc s xs d) (arrOf enc s xs d):=fun {α enc s xs d}=>⟨rfl,rfl,fun e _=>⟨(renL_v _ _).symm,okL_v _ _⟩,Nat.le_refl _⟩
 refine ⟨⟨hq 0 (by decide),?_⟩,⟨hq 1 (by decide),?_⟩,⟨hq 2 (by decide),fun k hk=>?_⟩,trivial⟩
 ·rw [hσ _ _ _ (by decide)];simp only [atN,h0,Fm.get,and_self,if_true];exact e
 ·rw [hσ _ _ _ (by decide)];simp only [atN,Nat.zero_add,h1,Fm.get,and_self,if_true]
  exact ⟨rfl,rfl,fun e _=>⟨by simp only [nestF,SC.renL,SC.ren];rw [hσ 2 _ _ (by decide)],by simp [nestF,SC.okL,SC.okN,hq 2]⟩,Nat.le_refl _⟩
 ·rw [hσ _ _ _ (by decide)];simp only [atN,Nat.zero_add,h2,Fm.get,hk,and_self,if_true];exact e
end Go.Proofs.Ytmcpdafmkkjlcaa.Z
namespace Go.Proofs.Ytmcpdafmkkjlcaa.Z
open Go Go.RowKit
def srσ (zs:List Nat) (b:Nat) (x:Nm):Nm:=if x.1=b then (10,0,0) else if x.1=b+1 then (5,zs.getD x.2.1 0,0) else (6,zs.getD x.2.1 0,0)
theorem ff_ret {P:Program} {A:List Nat} {w:World} {rs:List RS} {l:List Sp} {zs:List Nat} {fs:List Fn} {S:St} {m:Nat} (hm:m=fs.length) (hzl:zs.length=fs.length) (hnd:zs.Nodup) (hzt:∀ k∈zs,k<l.length) (hz:∀ k,k<zs.length→fs.getD k fn0=endF (l.getD (zs.getD k 0) sp0).s) (h10:look S.own 10=some (.one (ffL l zs m))) (h5:look S.own 5=some (.fam l.length (wlW l))) (h6:look S.own 6=some (.fam l.length (wlR l))) :
  RetVC (mkC P A w rs (RetN w 3 (leT 2 fs.length 0) (fun b=>foO b fs))) (.tup [(false,[.sl (10,0,0) 2 0 m none]),(false,[.v (.int .i64 0)])]) S:=by
 subst hm
 have hlt:∀ k,k<fs.length→zs.getD k 0<l.length:=fun k hk=>hzt _ (by rw [List.getD_eq_getElem?_getD,List.getElem?_eq_getElem (by omega)];exact List.getElem_mem _)
 have s0:∀ b,srσ zs b (b,0,0)=(10,0,0):=fun b=>by simp [srσ]
 have s1:∀ b k,srσ zs b (b+1,k,0)=(5,zs.getD k 0,0):=fun b k=>by simp [srσ]
 have s2:∀ b k,srσ zs b (b+2,k,0)=(6,zs.getD k 0,0):=fun b k=>by simp [srσ]
 refine retNm (srσ zs) (fun b=>⟨by simp [leT,SV.ren,SC.renL,SC.ren,ren1L,ren1,s0],by simp [leT,SV.okN,SC.okL,SC.okN,ok1L,NewIds]⟩) (fun b=>?_) (fun b=>?_)
 ·refine ⟨⟨⟨by omega,by omega⟩,?_⟩,⟨⟨by omega,by omega⟩,fun k hk=>?_⟩,⟨⟨by omega,by omega⟩,fun k hk=>?_⟩,trivial⟩
  ·rw [s0];simp only [atN,h10,ffL,if_true,Fm.get,and_self]
   exact ⟨Nat.le_refl _,rfl,rfl,fun e he=>⟨by simp only [esF,foC,SC.renL,SC.ren,s1,s2,hz e (by omega)];rfl,by simp [foC,SC.okL,SC.okN,NewIds]⟩⟩
  ·rw [s1];simp only [atN,h5,if_true,Fm.get,hlt k hk,and_self,foW,hz k (by omega)];exact arLe_same
  ·rw [s2];simp only [atN,h6,if_true,Fm.get,hlt k hk,and_self,foR,hz k (by omega)];exact arLe_same
 ·intro x y c d hx hy e
  have hi:∀ k k',k<fs.length→k' < fs.length→zs.getD k 0=zs.getD k' 0→k=k':=fun k k' h1 h2 q=>by
   rw [List.getD_eq_getElem?_getD,List.getD_eq_getElem?_getD,List.getElem?_eq_getElem (show k<zs.length by omega),List.getElem?_eq_getElem (show k' < zs.length by omega)] at q
   have hp:=List.pairwise_iff_getElem.1 (List.nodup_iff_pairwise_ne.1 hnd)
   rcases Nat.lt_trichotomy k k' with g | g | g
   ·exact absurd q (hp k k' (by omega) (by omega) g)
   ·exact g
   ·exact absurd q.symm (hp k' k (by omega) (by omega) g)
  rcases fo_keys hx with rfl | ⟨k,hk,rfl⟩ | ⟨k,hk,rfl⟩ <;> rcases fo_keys hy with rfl | ⟨k',hk',rfl⟩ | ⟨k',hk',rfl⟩
  ·rfl
  ·rw [s0,s1] at e;simp at e
  ·rw [s0,s2] at e;simp at e
  ·rw [s0,s1] at e;simp at e
  ·rw [s1,s1] at e;rw [hi k k' hk hk' (by simpa using e)]
  ·rw [s1,s2] at e;simp at e
  ·rw [s0,s2] at e;simp at e
  ·rw [s1,s2] at e;simp at e
  ·rw [s2,s2] at e;rw [hi k k' hk hk' (by simpa using e)]
def ir26:IR:=(.seq (.ops [⟨(some 2),(.box 25 (.t 0)),none⟩,⟨(some 4),(.mv (.k (.c (.v (.slice none 0 0))))),none⟩,⟨(some 5),(.mv (.k (.c (.v (.int .i64 0))))),none⟩]) (.kill [0,3,4,5,6,7,8,9,10,11] (.seq (.ops [⟨(some 12),(.ld true 2 (.t 2)),none⟩,⟨(some 13),(.mv (.t 1)),none⟩,⟨(some 14),(.call 49 [(.t 12),(.t 13)]),none⟩,⟨(some 11),(.mv (.t 14)),none⟩,⟨(some 15),(.ext 0 (.t 11)),none⟩,⟨(some 16),(.ext 1 (.t 11)),none⟩,⟨(some 6),(.mv (.t 15)),none⟩,⟨(some 7),(.mv (.t 16)),none⟩]) (.kill [1,11,12,13,14,15,16] (.seq (.seq (.ops [⟨(some 17),(.mv (.t 7)),none⟩,⟨(some 18),(.bin .neq (.t 17) (.k (.c (.v (.int .i64 0))))),none⟩]) (.kill [17] (.cond (.t 18) (.seq (.ops [⟨(some 19),(.mv (.t 7)),none⟩,⟨(some 4),(.mv (.k (.c (.v (.slice none 0 0))))),none⟩,⟨(some 5),(.mv (.t 19)),none⟩]) (.kill [2,6,7,18,19] .ret)) .skip))) (.kill [4,5,7,18] (.seq (.ops [⟨(some 8),(.mv (.k (.c (.v (.slice none 0 0))))),none⟩]) (.seq (.seq (.ops [⟨(some 20),(.mv (.t 6)),none⟩,⟨(some 21),(.len (.t 20)),none⟩,⟨(some 22),(.mv (.k (.c (.v (.int .i64 0))))),none⟩]) (.kill [6] (.blk 0 (.loop (.seq (.ops [⟨(some 23),(.bin .lss (.t 22) (.t 21)),none⟩]) (.kill [10,24,25,26,27,28,29,30,31,32,33,34,35,36,37,38,39,40] (.seq (.cond (.t 23) .skip (.exit 0)) (.kill [23] (.seq (.blk 1 (.seq (.ops [⟨(some 24),(.ia 8 (.t 20) (.t 22)),none⟩,⟨(some 25),(.ld true 8 (.t 24)),none⟩,⟨(some 10),(.new 98 [(.v (.slice none 0 0)),(.v (.slice none 0 0)),(.v (.slice none 0 0)),(.v (.slice none 0 0)),(.v (.int .i64 0)),(.v (.int .i64 0)),(.v (.bool false)),(.v (.int .i64 0))]),none⟩,⟨none,(.st 8 (.t 10) (.t 25)),none⟩]) (.kill [24,25] (.seq (.ops [⟨(some 26),(.ld true 2 (.t 2)),none⟩,⟨(some 27),(.fa 0 (.t 10)),none⟩,⟨(some 28),(.ld true 4 (.t 27)),none⟩,⟨(some 29),(.call 50 [(.t 26),(.t 28)]),none⟩]) (.kill [26,27,28] (.cond (.t 29) (.ops [⟨(some 30),(.mv (.t 8)),none⟩,⟨(some 31),(.fa 0 (.t 10)),none⟩,⟨(some 32),(.fa 0 (.t 31)),none⟩,⟨(some 33),(.ld false 1 (.t 32)),none⟩,⟨(some 34),(.fa 0 (.t 10)),none⟩,⟨(some 35),(.fa 1 (.t 34)),none⟩,⟨(some 36),(.ld false 1 (.t 35)),none⟩,⟨(some 37),(.build [(.v (.slice none 0 0)),(.v (.slice none 0 0))] [(0,(1,(.t 33))),(1,(1,(.t 36)))]),none⟩,⟨(some 38),(.mkSl 67 1 2 [(.v (.slice none 0 0)),(.v (.slice none 0 0))] [(0,(2,(.t 37)))]),none⟩,⟨(some 39),(.app 67 2 48 [(.v (.slice none 0 0)),(.v (.slice none 0 0))] (.t 30) (.t 38)),none⟩,⟨(some 8),(.mv (.t 39)),none⟩]) .skip)))))) (.kill [10,24,25,26,27,28,29,30,31,32,33,34,35,36,37,38,39] (.ops [⟨(some 40),(.bin .add (.t 22) (.k (.c (.v (.int .i64 1))))),none⟩,⟨(some 22),(.mv (.t 40)),none⟩]))))))))))) (.kill [2,10,20,21,22,23,24,25,26,27,28,29,30,31,32,33,34,35,36,37,38,39,40] (.seq (.ops [⟨(some 41),(.mv (.t 8)),none⟩,⟨(some 42),(.call 51 [(.t 41),(.k (.c (.fn (.func 52) [] [])))]),none⟩]) (.kill [41,42] (.seq (.ops [⟨(some 43),(.mv (.t 8)),none⟩,⟨(some 4),(.mv (.t 43)),none⟩,⟨(some 5),(.mv (.k (.c (.v (.int .i64 0))))),none⟩]) (.kill [8,43] .ret)))))))))))))
def rs26:List RS:=[(.t 4),(.t 5)]
def nt26:Nat:=44
set_option maxRecDepth 100000 in
set_option maxHeartbeats 2000000 in
theorem ifin_calls (w:World) (v:Value) (L:Lt) (o:Int) (hL:checkB L=true) (ho:1≤o∧o≤3) (hok:LtOk L) (h:LtR w v L):Calls Try.prog 26 #[v,.int .i64 o] w (FinR L o w):=by
 refine enterLt (A:=[]) (c:=ir26) (rs:=rs26) (nt:=nt26) h [.agg (ltS 0),.c (.v (.int .i64 o))] _ Try.func26 rfl (by kernel_rfl) (by kernel_rfl) rfl (fun E' h0=>by simp only [List.map_cons,List.map_nil,h0];rfl) (of_decide_eq_true rfl) ?_
 generalize hR:FinR L o w=R
 simp (maxSteps:=2000000) only [ir26,nt26,rs26,go_sem,↓reduceIte,Nat.reduceLT,Nat.reduceLeDiff,Nat.reduceAdd,Nat.reduceSub,Nat.reduceMul,Nat.reduceEqDiff,reduceCtorEq,Int.reduceToNat,Int.reduceEq,Int.reduceBEq,Int.reduceBNe,Int.reduceLT,Int.reduceLE,Int.reduceNeg,Int.reduceAdd,Int.reduceSub,Int.reduceMul,Int.reduceGE,Int.reduceGT,endO,ltA,ltS]
 cases hb:bfs L o with
 | none =>
  refine callV (.tup [(false,[.v (.slice none 0 0)]),(false,[.v (.int .i64 192)])]) _ (fun E=>rfl) (fun E a w' hs=>by
   have:=walk_calls w' _ L o hL ho hok (ltL_at hs rfl rfl rfl)
   unfold WalkR at this
   rw [hb] at this
   exact this) ?_
  simp (maxSteps:=2000000) only [go_sem,↓reduceIte,Nat.reduceLT,Nat.reduceLeDiff,Nat.reduceAdd,Nat.reduceSub,Nat.reduceMul,Nat.reduceEqDiff,reduceCtorEq,Int.reduceToNat,Int.reduceEq,Int.reduceBEq,Int.reduceBNe,Int.reduceLT,Int.reduceLE,Int.reduceNeg,Int.reduceAdd,Int.reduceSub,Int.reduceMul,Int.reduceGE,Int.reduceGT,endO]
  rw [← hR]
  unfold FinR
  rw [hb]
  exact retV fun E=>by simp [SV.den,SC.den,den1]
 | some l =>
  have hnd:=bfs_ok hL hb
  have hw:=hnd.toWkOk
  have hln:=hw.len
  have hF:FinR L o w=RetN w 3 (leT 2 (finsL L (l.map (·.s))).length 0) (fun b=>foO b (finsL L (l.map (·.s)))):=by
   funext e w'
   unfold FinR
   rw [hb]
  refine callN 6 (wlT l) (fun b=>wlO b l) (fun E a w' hs=>by
   have:=walk_calls w' _ L o hL ho hok (ltL_at hs rfl rfl rfl)
   unfold WalkR at this
   rw [hb] at this
   exact this) ?_
  simp (maxSteps:=2000000) only [go_sem,↓reduceIte,Nat.reduceLT,Nat.reduceLeDiff,Nat.reduceAdd,Nat.reduceSub,Nat.reduceMul,Nat.reduceEqDiff,reduceCtorEq,Int.reduceToNat,Int.reduceEq,Int.reduceBEq,Int.reduceBNe,Int.reduceLT,Int.reduceLE,Int.reduceNeg,Int.reduceAdd,Int.reduceSub,Int.reduceMul,Int.reduceGE,Int.reduceGT,endO,wlT,wlO]
  refine loopI (ι:={ i:Nat // i≤l.length }) (fun i=>⟨44,ffTm L l i.1,ffS L l i.1,ltA 0 L,[],11⟩) (fun i=>l.length - i.1) ⟨0,by omega⟩ ?_ ?_
  ·refine le_tr (le_nilown (tmps':=ffTm L l 0) 2 67 (fun e=>esF l (([]:List Nat).getD e 0)) (by simp [TmpsNil,look,ffTm,idxT]) rfl) ?_
   exact le_ren id rfl rfl (by simp [ffTm,TmpsLe,look,SV.ren,SC.ren,idσ,SV.okN,SC.okN]) (ff_same (ys:=idxT L l 0) 10 (fun i h=>h) (fun _ _=>rfl) rfl rfl rfl rfl rfl rfl rfl rfl rfl (by simp [idxT]) (fun e he=>by simp [idxT] at he)) (arr_ltσ (fun i h=>Nat.lt_trans h (show 3<11 by decide)) (fun _ _ _ _=>rfl) rfl rfl rfl) rfl
  rintro ⟨i,hi⟩
  have hsu:=idxT_succ (L:=L) (l:=l) (i:=i)
  have hil:=idxT_len (L:=L) (l:=l) i
  generalize hys:idxT L l i=ys at hsu hil ⊢
  simp (maxSteps:=2000000) only [go_sem,↓reduceIte,Nat.reduceLT,Nat.reduceLeDiff,Nat.reduceAdd,Nat.reduceSub,Nat.reduceMul,Nat.reduceEqDiff,reduceCtorEq,Int.reduceToNat,Int.reduceEq,Int.reduceBEq,Int.reduceBNe,Int.reduceLT,Int.reduceLE,Int.reduceNeg,Int.reduceAdd,Int.reduceSub,Int.reduceMul,Int.reduceGE,Int.reduceGT,endO,ffTm,ffS,hys,ffL,wlO,wlC,ltA]
  refine both (fun hlt=>?_) (fun hge=>?_)
  ·rw [decide_eq_true_eq] at hlt
   have hlt:i<l.length:=by omega
   have hwi:=hw.at hlt
   refine And.intro ⟨hlt,Nat.le_refl _⟩ (And.intro hlt ?_)
   refine callV (.c (.bo (finB L (l.getD i sp0).s))) _ (fun E=>rfl) (fun E a w' hs=>final_calls w' _ _ L o _ hL hwi (ltL_at hs rfl rfl rfl) (st_ownL hs 4 i hlt rfl rfl rfl rfl rfl)) ?_
   simp (maxSteps:=2000000) only [go_sem,↓reduceIte,Nat.reduceLT,Nat.reduceLeDiff,Nat.reduceAdd,Nat.reduceSub,Nat.reduceMul,Nat.reduceEqDiff,reduceCtorEq,Int.reduceToNat,Int.reduceEq,Int.reduceBEq,Int.reduceBNe,Int.reduceLT,Int.reduceLE,Int.reduceNeg,Int.reduceAdd,Int.reduceSub,Int.reduceMul,Int.reduceGE,Int.reduceGT,endO]
   rw [wr_succ (by omega)]
   refine both (fun hf=>?_) (fun hf=>?_)
   ·rw [if_pos hf] at hsu
    refine And.intro (by decide) (And.intro ⟨Nat.le_refl _,by omega,by simp only [maxLen];omega⟩ ?_)
    refine backI ⟨i+1,by omega⟩ (by simp only;omega) (le_ren (fun j=>if j=10 then 13 else j) rfl rfl (by simp [ffTm,TmpsLe,look,SV.ren,SC.ren,idσ,SV.okN,SC.okN,hsu]) ?_ (arr_ltA (p:=(· < 11)) (fun i h=>Nat.lt_trans h (show 3<11 by decide)) (fun i h=>by rw [if_neg (by omega)]) rfl rfl rfl) rfl)
    show OwnLe (· < 11) _ _ (ffS L l (i+1))
    unfold ffS
    rw [hsu]
    refine ff_same (ys:=ys++[i]) 13 (fun i h=>h) (fun i h=>by rw [if_neg (by omega)]) rfl rfl rfl rfl rfl rfl rfl rfl rfl (by simp) (fun e he=>?_)
    rcases Nat.lt_or_ge e ys.length with h1 | h1
    ·simp only [appAt,if_pos h1]
     rw [List.getD_eq_getElem?_getD,List.getD_eq_getElem?_getD,List.getElem?_append_left h1]
    ·have h2:e=ys.length:=by simp at he;omega
     subst h2
     simp only [appAt,Nat.lt_irrefl,if_false,Nat.sub_self]
     rw [List.getD_eq_getElem?_getD (l:=ys++[i]),List.getElem?_append_right (Nat.le_refl _),Nat.sub_self]
     rfl
   ·rw [if_neg (by rw [hf];exact Bool.false_ne_true)] at hsu
    refine backI ⟨i+1,by omega⟩ (by simp only;omega) (le_ren id rfl rfl (by simp [ffTm,TmpsLe,look,SV.ren,SC.ren,idσ,SV.okN,SC.okN,hsu]) ?_ (arr_ltA (p:=(· < 11)) (fun i h=>Nat.lt_trans h (show 3<11 by decide)) (fun i h=>rfl) rfl rfl rfl) rfl)
    show OwnLe (· < 11) _ _ (ffS L l (i+1))
    unfold ffS
    rw [hsu]
    exact ff_same (ys:=ys) 10 (fun i h=>h) (fun _ _=>rfl) rfl rfl rfl rfl rfl rfl rfl rfl rfl (Nat.le_refl _) (fun _ _=>rfl)
  ·rw [decide_eq_false_iff_not] at hge
   have hin:i=l.length:=by omega
   subst hin
   have hys2:ys=idxL L l:=hys.symm
   subst hys2
   obtain ⟨zs,hzp,hzm,hzu⟩:=srt_ex hnd
   refine call_intro (f:=51) (cr_sortK (ρ:=sortFin_ren) (C:=mkC Try.prog [] w rs26 R) (i:=10) (ty:=67) (g:=52) (k:=2) (cap:=none) (cl:=[]) (ys:=idxL L l) (zs:=zs) sortFin 0 (esF l) (ordI l) (by decide) (fun w=>by kernel_rfl) (fun w=>by kernel_rfl) rfl (by omega) (enters_of Try.func52 (by kernel_rfl) rfl) (swo_idx hnd) hzu (fun E a w' hs W hW x hx y hy=>?_)) (fun k hk=>by rw [List.mem_singleton] at hk;subst hk;exact Nat.lt_succ_self 10) ?_
   ·have hx1:=(idx_lt hx).1
    have hy1:=(idx_lt hy).1
    have hpos:0<(idxL L l).length:=List.length_pos_of_mem hx
    have W1:∀ k,k<l.length→Arr W eI 1 ((SC.sl (5,k,0) 1 0 (l.getD k sp0).s.words.length none).den E) (endF (l.getD k sp0).s).words:=fun k hk =>
     arr_ownW (d:=0) hs (5,k,0) (10,0,0) _ _ _ _ _ _ _ (by simp only [atN,look,Nat.reduceEqDiff,reduceIte,Fm.get,hk,and_self];rfl) (by simp only [atN,look,Nat.reduceEqDiff,reduceIte,Fm.get,and_self];rfl) (by simp) hpos rfl (Nat.le_refl _) (fun _ _=>rfl) hW
    have W2:∀ k,k<l.length→Arr W R4.enc 4 ((SC.sl (6,k,0) 4 0 (l.getD k sp0).s.regs.length none).den E) (endF (l.getD k sp0).s).regs:=fun k hk =>
     arr_ownW (d:=r40) hs (6,k,0) (10,0,0) _ _ _ _ _ _ _ (by simp only [atN,look,Nat.reduceEqDiff,reduceIte,Fm.get,hk,and_self];rfl) (by simp only [atN,look,Nat.reduceEqDiff,reduceIte,Fm.get,and_self];rfl) (by simp) hpos rfl (Nat.le_refl _) (fun _ _=>rfl) hW
    have X1:=W1 x hx1;have X2:=W2 x hx1;have Y1:=W1 y hy1;have Y2:=W2 y hy1
    clear W1 W2
    have hsh:=shp_idx hnd hx1 hy1
    obtain ⟨ba,c,e1,_⟩:=id X2
    obtain ⟨bb,c',e2,_⟩:=id Y2
    have hg:(#[Value.agg (List.map (SC.den E) (esF l x)).toArray,Value.agg (List.map (SC.den E) (esF l y)).toArray]++(SC.denL E []).toArray) = #[.agg #[(SC.sl (5,x,0) 1 0 (l.getD x sp0).s.words.length none).den E,.slice ba (endF (l.getD x sp0).s).regs.length c],.agg #[(SC.sl (5,y,0) 1 0 (l.getD y sp0).s.words.length none).den E,.slice bb (endF (l.getD y sp0).s).regs.length c']]:=by
     rw [← e1,← e2];simp [esF,SC.denL]
    rw [hg]
    rw [e1] at X2
    rw [e2] at Y2
    refine (orderW _ _ ba bb c c' _ _ W (endF (l.getD x sp0).s) (endF (l.getD y sp0).s) X1 Y1 X2 Y2 rfl rfl hsh.2).mono ?_
    rintro e w2 ⟨rfl,hb2⟩
    exact ⟨rfl,hb2.grow⟩
   simp (maxSteps:=2000000) only [go_sem,↓reduceIte,Nat.reduceLT,Nat.reduceLeDiff,Nat.reduceAdd,Nat.reduceSub,Nat.reduceMul,Nat.reduceEqDiff,reduceCtorEq,Int.reduceToNat,Int.reduceEq,Int.reduceBEq,Int.reduceBNe,Int.reduceLT,Int.reduceLE,Int.reduceNeg,Int.reduceAdd,Int.reduceSub,Int.reduceMul,Int.reduceGE,Int.reduceGT,endO]
   rw [← hR,hF]
   have hzl:zs.length=(finsL L (l.map (·.s))).length:=by rw [← hzm,List.length_map]
   refine ff_ret (zs:=zs) (l:=l) ?_ hzl (hzp.nodup_iff.2 (List.nodup_range.filter _)) (fun k hk=>(idx_lt (hzp.mem_iff.1 hk)).1) (fun k hk=>?_) rfl rfl rfl
   ·rw [← hzl,hzp.length_eq]
   ·have e1:zs.getD k 0=zs[k]:=by rw [List.getD_eq_getElem?_getD,List.getElem?_eq_getElem hk];rfl
    rw [e1,← hzm,List.getD_eq_getElem?_getD,List.getElem?_map,List.getElem?_eq_getElem hk]
    rfl
end Go.Proofs.Ytmcpdafmkkjlcaa.Z
namespace Go.Proofs.Ytmcpdafmkkjlcaa.Z
open Go Go.RowKit
def prE (p:Value×Value):List Value:=[p.1,p.2]
def pr0:Value×Value:=(nest0,nest0)
def FnsR (w:World) (v:Value) (l:List Fn):Prop :=
 ∃ ws:List (Value×Value),Arr w prE 2 v ws∧ws.length=l.length∧∀ k,k<l.length→Arr w eI 1 (ws.getD k pr0).1 (l.getD k fn0).words∧Arr w R4.enc 4 (ws.getD k pr0).2 (l.getD k fn0).regs
def fsF (i n:Nat) (low:Nat:=0):ArrF:=⟨n,2,fun k=>[.xv (i,k,0),.xv (i+1,k,0)],low⟩
theorem fsF_len (i n low:Nat):(fsF i n low).len=n:=rfl
theorem fsF_size (i n low:Nat):(fsF i n low).size=2:=rfl
theorem fsF_at (i n low k:Nat):(fsF i n low).at_ k=[.xv (i,k,0),.xv (i+1,k,0)]:=rfl
def fsA (i:Nat) (l:List Fn):List (Nat×Fm ArrF):=[(i,.one (fsF (i+1) l.length)),(i+1,.fam l.length fun k=>arrOf eI 1 (l.getD k fn0).words 0),(i+2,.fam l.length fun k=>arrOf R4.enc 4 (l.getD k fn0).regs r40)]
theorem arrLe_fs {q:Nat→Prop} {τ:Nat→Nat} {i n lw:Nat} (hp:q i) (hp1:q (i+1)) (hτ:τ i=i) (hτ1:τ (i+1)=i+1):ArrLe q (idσ τ) (fsF i n lw) (fsF i n lw) :=
 ⟨rfl,rfl,fun e _=>⟨by simp [fsF,SC.renL,SC.ren,idσ,hτ,hτ1],by simp [fsF,SC.okL,SC.okN,hp,hp1]⟩,Nat.le_refl _⟩
theorem rd_fns {w:World} {vals:List (Nat→Value)} {r:List (Nat×Fm ArrF)} {l:List Fn} {v:Value} {ws:List (Value×Value)} (j:Nat) (h:Arr w prE 2 v ws) (hl:ws.length=l.length) (hk:∀ k,k<l.length→Arr w eI 1 (ws.getD k pr0).1 (l.getD k fn0).words∧Arr w R4.enc 4 (ws.getD k pr0).2 (l.getD k fn0).regs)
  (hj:j+2<vals.length) (hv:(vals.getD j fun _=>nest0) 0=v) (hv1:∀ k,(vals.getD (j+1) fun _=>nest0) k=(ws.getD k pr0).1) (hv2:∀ k,(vals.getD (j+2) fun _=>nest0) k=(ws.getD k pr0).2) (hr:Reads w vals r):Reads w vals (fsA j l++r):=by
 intro E hE x A hA
 simp only [fsA,List.cons_append,List.nil_append] at hA
 rcases atN_one hA with ⟨rfl,rfl⟩ | hA
 ·obtain ⟨ba,cap,h1,h2,h3,h4⟩:=h
  refine ⟨ba,cap,by rw [hE j 0 0 (by omega),hv,h1,hl];rfl,by rw [← hl] at *;exact h2,h3,?_⟩
  rcases h4 with h4 | ⟨b,off,g1,g2⟩
  ·left;rw [h4] at hl;exact hl.symm
  ·right
   refine ⟨b,off,g1,Nat.zero_le _,fun k hk'=>⟨rfl,fun q u hu=>?_⟩⟩
   have hk' : k<l.length:=hk'
   have e1:(SC.xv (j+1,k,0)).den E=(ws.getD k pr0).1:=by simp only [SC.den];rw [hE (j+1) k 0 (by omega),hv1]
   have e2:(SC.xv (j+2,k,0)).den E=(ws.getD k pr0).2:=by simp only [SC.den];rw [hE (j+2) k 0 (by omega),hv2]
   have hwk:ws[k]? = some (ws.getD k pr0):=by rw [List.getD_eq_getElem?_getD,List.getElem?_eq_getElem (by omega)];rfl
   match q,hu with
   | 0,hu =>
    simp only [fsF,List.getElem?_cons_zero,Option.some.injEq] at hu
    subst hu
    rw [e1]
    exact ⟨g2 k _ hwk 0 _ rfl,arr_one (hk k hk').1⟩
   | 1,hu =>
    simp only [fsF,List.getElem?_cons_succ,List.getElem?_cons_zero,Option.some.injEq] at hu
    subst hu
    rw [e2]
    exact ⟨g2 k _ hwk 1 _ rfl,arr_one (hk k hk').2⟩
   | q+2,hu=>simp [fsF] at hu
 rcases atN_fam hA with ⟨k,hkn,rfl,rfl⟩ | hA
 ·exact arrAt_of eI_ok (by rw [hE (j+1) k 0 (by omega),hv1];exact (hk k hkn).1)
 rcases atN_fam hA with ⟨k,hkn,rfl,rfl⟩ | hA
 ·exact arrAt_of r4_ok (by rw [hE (j+2) k 0 (by omega),hv2];exact (hk k hkn).2)
 ·exact hr E hE x A hA
theorem prE_ones {w:World} {l:List Fn} {ws:List (Value×Value)} (hl:ws.length=l.length) (hk:∀ k,k<l.length→Arr w eI 1 (ws.getD k pr0).1 (l.getD k fn0).words∧Arr w R4.enc 4 (ws.getD k pr0).2 (l.getD k fn0).regs) (k:Nat):(ws.getD k pr0).1.oneCell' = true∧(ws.getD k pr0).2.oneCell' = true:=by
 by_cases h:k<l.length
 ·exact ⟨arr_one (hk k h).1,arr_one (hk k h).2⟩
 ·rw [List.getD_eq_getElem?_getD,List.getElem?_eq_none (by omega)]
  exact ⟨rfl,rfl⟩
theorem prE_one {w:World} {v:Value} {ws:List (Value×Value)} (h:Arr w prE 2 v ws):v.oneCell' = true:=by
 obtain ⟨ba,cap,rfl,_⟩:=h;rfl
theorem enterFns2 {P:Program} {A:List Nat} {f nt:Nat} {fn:Func} {x:Code} {c:IR} {w:World} {rs:List RS} {R:Ending→World→Prop} {v v' : Value} {a b:List Fn} (h:FnsR w v a) (h' : FnsR w v' b)
  (hf:P.funcs[f]? = some fn) (hb:fn.body=some x) (hc:compC (mkTab P A) x=some c.strip) (hrs:compR (mkTab P A).T fn.results.toList=some rs) (hn:fn.ntmps=nt) (hnt:2≤nt)
  (hex:exec (mkC P A w rs R) 1000 [.code c] ⟨nt,enumT 0 [.c (.xv (0,0,0)),.c (.xv (3,0,0))],[],fsA 0 a++(fsA 3 b++[]),[],6⟩):Calls P f #[v,v'] w R:=by
 obtain ⟨ws,h1,h2,h3⟩:=h
 obtain ⟨ws',h1',h2',h3'⟩:=h'
 refine enterL [fun _=>v,fun k=>(ws.getD k pr0).1,fun k=>(ws.getD k pr0).2,fun _=>v',fun k=>(ws'.getD k pr0).1,fun k=>(ws'.getD k pr0).2]
  ⟨fun _=>prE_one h1,fun k=>(prE_ones h2 h3 k).1,fun k=>(prE_ones h2 h3 k).2,fun _=>prE_one h1',fun k=>(prE_ones h2' h3' k).1,fun k=>(prE_ones h2' h3' k).2,trivial⟩
  (rd_fns 0 h1 h2 h3 (by simp) rfl (fun _=>rfl) (fun _=>rfl) (rd_fns 3 h1' h2' h3' (by simp) rfl (fun _=>rfl) (fun _=>rfl) rd_nil))
  [.c (.xv (0,0,0)),.c (.xv (3,0,0))] _ hf hb hc hrs hn (fun E' hE'=>?_) hnt hex
 have e:=fun i hi=>hE' i 0 0 hi
 simp only [List.map_cons,List.map_nil,SV.den,SC.den,e 0 (by simp),e 3 (by simp)]
 rfl
theorem fns_len {w:World} {v:Value} {l:List Fn} (h:FnsR w v l):l.length≤9223372036854775807:=by
 obtain ⟨ws,⟨ba,cap,_,h2,h3,_⟩,hl,_⟩:=h
 simp only [maxLen] at h3
 omega
theorem fn_fs {C:Ctx} {E:Env} {S:St} {a:Act} {w:World} (hs:Sat C.B C.W C.w0 E S a w) {l:List Fn} (i k:Nat) (hk:k<l.length) (h1:look S.arrs i=some (.fam l.length fun k=>arrOf eI 1 (l.getD k fn0).words 0)) (h2:look S.arrs (i+1)=some (.fam l.length fun k=>arrOf R4.enc 4 (l.getD k fn0).regs r40)) :
  FnR w ((SV.agg [.xv (i,k,0),.xv (i+1,k,0)]).den E) (l.getD k fn0) :=
 ⟨_,_,by simp [SV.den,SC.den],arr_of (d:=0) ((holds_of hs).1 (i,k,0) _ (by simp only [atN,h1,Fm.get,hk,and_self,if_true];rfl)),arr_of (d:=r40) ((holds_of hs).1 (i+1,k,0) _ (by simp only [atN,h2,Fm.get,hk,and_self,if_true];rfl))⟩
theorem fns_own {C:Ctx} {E:Env} {S:St} {a:Act} {w:World} (hs:Sat C.B C.W C.w0 E S a w) {l:List Fn} (b:Nat) (h0:look S.own b=some (.one (.ar l.length 2 (foC b l) 67))) (h1:look S.own (b+1)=some (.fam l.length (foW l))) (h2:look S.own (b+2)=some (.fam l.length (foR l))):FnsR w ((SC.sl (b,0,0) 2 0 l.length none).den E) l:=by
 have hm:∀ k,k<l.length→((List.range l.length).map fun k=>((SC.sl (b+1,k,0) 1 0 (l.getD k fn0).words.length none).den E,(SC.sl (b+2,k,0) 4 0 (l.getD k fn0).regs.length none).den E)).getD k pr0=((SC.sl (b+1,k,0) 1 0 (l.getD k fn0).words.length none).den E,(SC.sl (b+2,k,0) 4 0 (l.getD k fn0).regs.length none).den E):=fun k hk=>by
  rw [List.getD_eq_getElem?_getD,List.getElem?_map,List.getElem?_range hk];rfl
 refine ⟨(List.range l.length).map fun k=>((SC.sl (b+1,k,0) 1 0 (l.getD k fn0).words.length none).den E,(SC.sl (b+2,k,0) 4 0 (l.getD k fn0).regs.length none).den E),?_,by simp,fun k hk=>?_⟩
 ·obtain ⟨H,hH,_⟩:=hs.mem
  rcases ar_heap hH (show atN S.own (b,0,0)=some (.ar l.length 2 (foC b l) 67) by simp [atN,h0,Fm.get]) with ⟨g1,g2,g3,_⟩ | ⟨g1,g2,g3,cells,g4,g5,g6,g7⟩
  ·have h0:l=[]:=List.eq_nil_of_length_eq_zero g3
   subst h0
   exact ⟨if E.ν (b,0,0)=true then none else some ⟨E.ρ (b,0,0),0,none⟩,0,by simp [SC.den,g2],Nat.le_refl _,by simp [maxLen],Or.inl rfl⟩
  ·refine ⟨some ⟨E.ρ (b,0,0),0,none⟩,E.κ (b,0,0),by simp [SC.den,g1],by simpa using g2.1,g3,Or.inr ⟨_,_,rfl,fun e y hy q u hu=>?_⟩⟩
   rw [cell_of_row w _ _ _ _ (0,0) g5,Nat.zero_add]
   have he:e<l.length:=by
    have:=(List.getElem?_eq_some_iff.1 hy).1
    simpa using this
   have hy2:y=((SC.sl (b+1,e,0) 1 0 (l.getD e fn0).words.length none).den E,(SC.sl (b+2,e,0) 4 0 (l.getD e fn0).regs.length none).den E):=by
    rw [List.getElem?_map,List.getElem?_range he] at hy
    exact (Option.some.inj hy).symm
   subst hy2
   match q,hu with
   | 0,hu =>
    simp only [prE,List.getElem?_cons_zero,Option.some.injEq] at hu
    subst hu
    exact ((g7 e he).2 0 _ rfl).1
   | 1,hu =>
    simp only [prE,List.getElem?_cons_succ,List.getElem?_cons_zero,Option.some.injEq] at hu
    subst hu
    exact ((g7 e he).2 1 _ rfl).1
   | q+2,hu=>simp [prE] at hu
 ·rw [hm k hk]
  exact ⟨arr_ownX (d:=0) hs (b+1,k,0) _ _ _ (by simp only [atN,h1,Fm.get,hk,and_self,if_true];rfl) rfl (Nat.le_refl _) (fun _ _=>rfl),arr_ownX (d:=r40) hs (b+2,k,0) _ _ _ (by simp only [atN,h2,Fm.get,hk,and_self,if_true];rfl) rfl (Nat.le_refl _) (fun _ _=>rfl)⟩
def ir60:IR:=(.seq (.ops [⟨(some 2),(.box 67 (.t 0)),none⟩,⟨(some 3),(.box 67 (.t 1)),none⟩,⟨(some 4),(.mv (.k (.c (.v (.bool false))))),none⟩]) (.kill [0,1,4,5,6,7,8,9,10,11] (.seq (.seq (.ops [⟨(some 6),(.fa 0 (.t 2)),none⟩,⟨(some 7),(.ld false 1 (.t 6)),none⟩,⟨(some 8),(.fa 0 (.t 3)),none⟩,⟨(some 9),(.ld false 1 (.t 8)),none⟩,⟨(some 10),(.call 41 [(.t 7),(.t 9)]),none⟩,⟨(some 11),(.un .not (.t 10)),none⟩,⟨(some 12),(.mv (.t 11)),none⟩,⟨(some 13),(.fa 1 (.t 2)),(some (12,false))⟩,⟨(some 14),(.ld false 1 (.t 13)),(some (12,false))⟩,⟨(some 15),(.len (.t 14)),(some (12,false))⟩,⟨(some 16),(.fa 1 (.t 3)),(some (12,false))⟩,⟨(some 17),(.ld false 1 (.t 16)),(some (12,false))⟩,⟨(some 18),(.len (.t 17)),(some (12,false))⟩,⟨(some 19),(.bin .neq (.t 15) (.t 18)),(some (12,false))⟩,⟨(some 20),(.pick (.t 12) (.k (.c (.v (.bool true)))) (.t 19)),none⟩]) (.kill [6,7,8,9,10,11,12,13,14,15,16,17,18,19] (.cond (.t 20) (.seq (.ops [⟨(some 4),(.mv (.k (.c (.v (.bool false))))),none⟩]) (.kill [2,3,20] .ret)) .skip))) (.kill [4,20] (.seq (.seq (.ops [⟨(some 5),(.mv (.k (.c (.v (.int .i64 0))))),none⟩]) (.blk 0 (.loop (.seq (.seq (.ops [⟨(some 21),(.mv (.t 5)),none⟩,⟨(some 22),(.fa 1 (.t 2)),none⟩,⟨(some 23),(.ld false 1 (.t 22)),none⟩,⟨(some 24),(.len (.t 23)),none⟩,⟨(some 25),(.bin .lss (.t 21) (.t 24)),none⟩]) (.kill [4,21,22,23,24,26,27,28,29,30,31,32,33,34,35,36,37,38] (.cond (.t 25) .skip (.exit 0)))) (.kill [25] (.seq (.blk 1 (.seq (.draw [(⟨(some 28),(.fa 1 (.t 2)),none⟩,([],[30,33,34,35,36,37])),(⟨(some 29),(.ld false 1 (.t 28)),none⟩,([],[30,33,34,35,36,37])),(⟨(some 30),(.mv (.t 5)),none⟩,([0,1],[28,29,33,34,35,36,37])),(⟨(some 31),(.ia 4 (.t 29) (.t 30)),none⟩,([],[33,34,35,36,37])),(⟨(some 32),(.ld true 4 (.t 31)),none⟩,([],[33,34,35,36,37])),(⟨(some 33),(.fa 1 (.t 3)),none⟩,([0,1,2,3,4],[28,29,30,31,32,35])),(⟨(some 34),(.ld false 1 (.t 33)),none⟩,([0,1,2,3,4],[28,29,30,31,32,35])),(⟨(some 35),(.mv (.t 5)),none⟩,([0,1,2,3,4,5,6],[28,29,30,31,32,33,34])),(⟨(some 36),(.ia 4 (.t 34) (.t 35)),none⟩,([0,1,2,3,4],[28,29,30,31,32])),(⟨(some 37),(.ld true 4 (.t 36)),none⟩,([0,1,2,3,4],[28,29,30,31,32])),(⟨(some 38),(.eqa true [true,true,true,true] (.t 32) (.t 37)),none⟩,([],[]))]) (.kill [28,29,30,31,32,33,34,35,36,37] (.cond (.t 38) (.seq (.ops [⟨(some 4),(.mv (.k (.c (.v (.bool false))))),none⟩]) (.kill [2,3,5,38] .ret)) .skip)))) (.kill [4,28,29,30,31,32,33,34,35,36,37,38] (.ops [⟨(some 26),(.mv (.t 5)),none⟩,⟨(some 27),(.bin .add (.t 26) (.k (.c (.v (.int .i64 1))))),none⟩,⟨(some 5),(.mv (.t 27)),none⟩])))))))) (.kill [2,3,4,5,21,22,23,24,25,26,27,28,29,30,31,32,33,34,35,36,37,38] (.seq (.ops [⟨(some 4),(.mv (.k (.c (.v (.bool true))))),none⟩]) .ret)))))))
def rs60:List RS:=[(.t 4)]
def nt60:Nat:=39
def ir28:IR:=(.seq (.ops [⟨(some 4),(.mv (.k (.c (.v (.bool false))))),none⟩]) (.kill [2,3,4,5,6,7,8,9,10,11] (.seq (.seq (.ops [⟨(some 6),(.mv (.t 0)),none⟩,⟨(some 7),(.len (.t 6)),none⟩,⟨(some 8),(.mv (.t 1)),none⟩,⟨(some 9),(.len (.t 8)),none⟩,⟨(some 10),(.bin .neq (.t 7) (.t 9)),none⟩]) (.kill [6,7,8,9] (.cond (.t 10) (.seq (.ops [⟨(some 4),(.mv (.k (.c (.v (.bool false))))),none⟩]) (.kill [0,1,10] .ret)) .skip))) (.kill [4,10] (.seq (.seq (.ops [⟨(some 5),(.mv (.k (.c (.v (.int .i64 0))))),none⟩]) (.blk 0 (.loop (.seq (.seq (.ops [⟨(some 11),(.mv (.t 5)),none⟩,⟨(some 12),(.mv (.t 0)),none⟩,⟨(some 13),(.len (.t 12)),none⟩,⟨(some 14),(.bin .lss (.t 11) (.t 13)),none⟩]) (.kill [4,11,12,13,15,16,17,18,19,20,21,22,23,24,25,26] (.cond (.t 14) .skip (.exit 0)))) (.kill [14] (.seq (.blk 1 (.seq (.draw [(⟨(some 17),(.mv (.t 0)),none⟩,([],[18,21,22,23,24])),(⟨(some 18),(.mv (.t 5)),none⟩,([0],[17,21,22,23,24])),(⟨(some 19),(.ia 2 (.t 17) (.t 18)),none⟩,([],[21,22,23,24])),(⟨(some 20),(.ld true 2 (.t 19)),none⟩,([],[21,22,23,24])),(⟨(some 21),(.mv (.t 1)),none⟩,([0,1,2,3],[17,18,19,20,22])),(⟨(some 22),(.mv (.t 5)),none⟩,([0,1,2,3,4],[17,18,19,20,21])),(⟨(some 23),(.ia 2 (.t 21) (.t 22)),none⟩,([0,1,2,3],[17,18,19,20])),(⟨(some 24),(.ld true 2 (.t 23)),none⟩,([0,1,2,3],[17,18,19,20])),(⟨(some 25),(.call 60 [(.t 20),(.t 24)]),none⟩,([],[])),(⟨(some 26),(.un .not (.t 25)),none⟩,([],[]))]) (.kill [17,18,19,20,21,22,23,24,25] (.cond (.t 26) (.seq (.ops [⟨(some 4),(.mv (.k (.c (.v (.bool false))))),none⟩]) (.kill [0,1,5,26] .ret)) .skip)))) (.kill [4,17,18,19,20,21,22,23,24,25,26] (.ops [⟨(some 15),(.mv (.t 5)),none⟩,⟨(some 16),(.bin .add (.t 15) (.k (.c (.v (.int .i64 1))))),none⟩,⟨(some 5),(.mv (.t 16)),none⟩])))))))) (.kill [0,1,4,5,11,12,13,14,15,16,17,18,19,20,21,22,23,24,25,26] (.seq (.ops [⟨(some 4),(.mv (.k (.c (.v (.bool true))))),none⟩]) .ret)))))))
def rs28:List RS:=[(.t 4)]
def nt28:Nat:=27
theorem take_eqS {α:Type} {xs ys:List α} {d:α} {i:Nat} (h1:i<xs.length) (h2:i<ys.length) (h:xs.take i=ys.take i) (e:xs.getD i d=ys.getD i d):xs.take (i+1)=ys.take (i+1):=by
 rw [List.take_succ_eq_append_getElem h1,List.take_succ_eq_append_getElem h2,h]
 simp only [List.getD_eq_getElem?_getD,List.getElem?_eq_getElem h1,List.getElem?_eq_getElem h2,Option.getD_some] at e
 rw [e]
theorem ne_at {α:Type} {xs ys:List α} {d:α} {i:Nat} (e:xs.getD i d≠ys.getD i d):xs≠ys:=fun q=>e (by rw [q])
set_option maxRecDepth 100000 in
set_option maxHeartbeats 400000 in
theorem sintsD_calls (w : World) (v v' : Value) (xs ys:List Int) (h:Arr w eI 1 v xs) (h' : Arr w eI 1 v' ys):Calls Try.prog 41 #[v,v'] w (RetV w (.bool (decide (xs=ys)))):=by
  refine enter2 (A:=[]) (c:=ir41) (rs:=rs41) (nt:=nt41) 0 eI_ok h 0 eI_ok h' [.c (.xv (0,0,0)),.c (.xv (1,0,0))] _ Try.func41 rfl (by kernel_rfl) (by kernel_rfl) rfl (fun E' h0 h1=>by simp [SV.den,SC.den,h0,h1]) (of_decide_eq_true rfl) ?_
  have hml:=Z.Arr.lenM h
  simp only [maxLen] at hml
  simp (maxSteps:=2000000) only [ir41,nt41,rs41,go_sem,↓reduceIte,Nat.reduceLT,Nat.reduceLeDiff,Nat.reduceAdd,Nat.reduceSub,Nat.reduceMul,Nat.reduceEqDiff,reduceCtorEq,Int.reduceToNat,Int.reduceEq,Int.reduceBEq,Int.reduceBNe,Int.reduceLT,Int.reduceLE,Int.reduceNeg,Int.reduceAdd,Int.reduceSub,Int.reduceMul,Int.reduceGE,Int.reduceGT,endO]
  refine both (fun hne=>?_) (fun heq=>?_)
  · have hne:xs≠ys:=fun q=>by subst q;simp at hne
    exact retV fun E=>by simp [SV.den,SC.den,hne]
  have hle : xs.length = ys.length := by have q:(xs.length:Int)=ys.length:=by simpa using heq
                                         omega
  refine loopI (ι:={ i:Nat // i≤xs.length∧xs.take i=ys.take i }) (fun i=>⟨26,[(0,.c (.xv (0,0,0))),(1,.c (.xv (1,0,0))),(5,.c (.v (.int .i64 (i.1:Nat))))],[],[(0,.one (arrOf eI 1 xs 0)),(1,.one (arrOf eI 1 ys 0))],[],2⟩)
    (fun i=>xs.length - i.1) ⟨0,by omega,by simp⟩ (le_ren id rfl rfl (by simp [TmpsLe,look,SV.ren,SC.ren,SC.renL,ren1L,ren1,idσ,SV.okN,SC.okN,SC.okL,ok1L]) trivial (by simp [ArrsLe,ArrLeO,atN,look,Fm.get,idσ,arrLe_of,arrLe_0]) rfl) ?_
  rintro ⟨i,hi,htk⟩
  simp (maxSteps:=2000000) only [go_sem,↓reduceIte,Nat.reduceLT,Nat.reduceLeDiff,Nat.reduceAdd,Nat.reduceSub,Nat.reduceMul,Nat.reduceEqDiff,reduceCtorEq,Int.reduceToNat,Int.reduceEq,Int.reduceBEq,Int.reduceBNe,Int.reduceLT,Int.reduceLE,Int.reduceNeg,Int.reduceAdd,Int.reduceSub,Int.reduceMul,Int.reduceGE,Int.reduceGT,endO]
  refine both (fun hlt=>?_) (fun hge=>?_)
  · rw [decide_eq_true_eq] at hlt
    have hlt:i<xs.length:=by omega
    have hlt2:i<ys.length:=by omega
    refine draw_vc (by kernel_rfl) (mkTab_ok _ _) (of_decide_eq_true rfl) (of_decide_eq_true rfl) ?_
    repeat (first | simp (maxSteps:=2000000) only [go_sem,↓reduceIte,Nat.reduceLT,Nat.reduceLeDiff,Nat.reduceAdd,Nat.reduceSub,Nat.reduceMul,Nat.reduceEqDiff,reduceCtorEq,Int.reduceToNat,Int.reduceEq,Int.reduceBEq,Int.reduceBNe,Int.reduceLT,Int.reduceLE,Int.reduceNeg,Int.reduceAdd,Int.reduceSub,Int.reduceMul,Int.reduceGE,Int.reduceGT,endO,eI] | rw [dr_cons])
    refine And.intro hlt (And.intro hlt (And.intro hlt2 (And.intro hlt2 (both (fun hne=>?_) (fun heq=>?_)))))
    · have hne:xs≠ys:=ne_at (d:=0) (i:=i) (by simpa using hne)
      exact retV fun E=>by simp [SV.den,SC.den,hne]
    · rw [wr_succ (by omega)]
      exact backI ⟨i+1,by omega,take_eqS (d:=0) hlt hlt2 htk (by simpa using heq)⟩ (by simp only;omega) (le_ren id rfl rfl (by simp [TmpsLe,look,SV.ren,SC.ren,SC.renL,ren1L,ren1,idσ,SV.okN,SC.okN,SC.okL,ok1L]) trivial (by simp [ArrsLe,ArrLeO,atN,look,Fm.get,idσ,arrLe_of,arrLe_0]) rfl)
  · rw [decide_eq_false_iff_not] at hge
    have hin:i=xs.length:=by omega
    subst hin
    have he:xs=ys:=by rw [List.take_length,hle,List.take_length] at htk;exact htk
    exact retV fun E=>by simp [SV.den,SC.den,he]
end Go.Proofs.Ytmcpdafmkkjlcaa.Z
namespace Go.Proofs.Ytmcpdafmkkjlcaa.Z
open Go Go.RowKit
theorem fn_eq_iff {a b:Fn}:a=b↔a.words=b.words∧a.regs=b.regs:=by
 cases a;cases b;simp
instance:DecidableEq Fn:=fun a b=>decidable_of_iff _ fn_eq_iff.symm
theorem r4_eq_iff {a b:R4}:a=b↔a.a=b.a∧a.b=b.b∧a.c=b.c∧a.d=b.d:=by
 cases a;cases b;simp
set_option maxRecDepth 100000 in
set_option maxHeartbeats 1000000 in
theorem sfinalD_calls (w:World) (v v' : Value) (a b:Fn) (h:FnR w v a) (h' : FnR w v' b):Calls Try.prog 60 #[v,v'] w (RetV w (.bool (decide (a=b)))):=by
 have hm1:a.regs.length≤9223372036854775807:=by obtain ⟨_,_,_,_,h2⟩:=h;have:=Z.Arr.lenM h2;simp only [maxLen] at this;exact this
 refine enterFn2 (A:=[]) (c:=ir60) (rs:=rs60) (nt:=nt60) h h' Try.func60 rfl (by kernel_rfl) (by kernel_rfl) rfl (of_decide_eq_true rfl) ?_
 simp (maxSteps:=2000000) only [ir60,nt60,rs60,go_sem,↓reduceIte,Nat.reduceLT,Nat.reduceLeDiff,Nat.reduceAdd,Nat.reduceSub,Nat.reduceMul,Nat.reduceEqDiff,reduceCtorEq,Int.reduceToNat,Int.reduceEq,Int.reduceBEq,Int.reduceBNe,Int.reduceLT,Int.reduceLE,Int.reduceNeg,Int.reduceAdd,Int.reduceSub,Int.reduceMul,Int.reduceGE,Int.reduceGT,endO]
 refine callV (.c (.v (.bool (decide (a.words=b.words))))) _ (fun E=>rfl) (fun E a' w' hs=>sintsD_calls w' _ _ a.words b.words (arr_at (d:=0) hs 0 rfl) (arr_at (d:=0) hs 2 rfl)) ?_
 by_cases hw:a.words=b.words
 ·have dw:decide (a.words=b.words)=true:=decide_eq_true hw
  rw [dw]
  simp (maxSteps:=2000000) only [go_sem,↓reduceIte,Nat.reduceLT,Nat.reduceLeDiff,Nat.reduceAdd,Nat.reduceSub,Nat.reduceMul,Nat.reduceEqDiff,reduceCtorEq,Int.reduceToNat,Int.reduceEq,Int.reduceBEq,Int.reduceBNe,Int.reduceLT,Int.reduceLE,Int.reduceNeg,Int.reduceAdd,Int.reduceSub,Int.reduceMul,Int.reduceGE,Int.reduceGT,endO]
  refine both (fun hne=>?_) (fun heq=>?_)
  ·have hne:a≠b:=fun q=>by subst q;simp at hne
   exact retV fun E=>by simp [SV.den,SC.den,hne]
  have hle:a.regs.length=b.regs.length:=by
   have q:(a.regs.length:Int)=b.regs.length:=by simpa using heq
   omega
  refine loopI (ι:={ i:Nat // i≤a.regs.length∧a.regs.take i=b.regs.take i }) (fun i=>⟨39,[(2,.c (.ptr (4,0,0) 0)),(3,.c (.ptr (5,0,0) 0)),(5,.c (.v (.int .i64 (i.1:Nat))))],[(4,.one (.bk [.xv (0,0,0),.xv (1,0,0)] 67)),(5,.one (.bk [.xv (2,0,0),.xv (3,0,0)] 67))],[(0,.one (arrOf eI 1 a.words 0)),(1,.one (arrOf R4.enc 4 a.regs r40)),(2,.one (arrOf eI 1 b.words 0)),(3,.one (arrOf R4.enc 4 b.regs r40))],[],6⟩)
   (fun i=>a.regs.length - i.1) ⟨0,by omega,by simp⟩ (le_ren id rfl rfl (by simp [TmpsLe,look,SV.ren,SC.ren,SC.renL,ren1L,ren1,idσ,SV.okN,SC.okN,SC.okL,ok1L]) (by simp [OwnLe,BlkLeO,BlkLe,atN,look,Fm.get,idσ,SC.renL,SC.ren,SC.okL,SC.okN,renL_v,okL_v]) (by simp [ArrsLe,ArrLeO,atN,look,Fm.get,idσ,arrLe_of,arrLe_0]) rfl) ?_
  rintro ⟨i,hi,htk⟩
  simp (maxSteps:=2000000) only [go_sem,↓reduceIte,Nat.reduceLT,Nat.reduceLeDiff,Nat.reduceAdd,Nat.reduceSub,Nat.reduceMul,Nat.reduceEqDiff,reduceCtorEq,Int.reduceToNat,Int.reduceEq,Int.reduceBEq,Int.reduceBNe,Int.reduceLT,Int.reduceLE,Int.reduceNeg,Int.reduceAdd,Int.reduceSub,Int.reduceMul,Int.reduceGE,Int.reduceGT,endO]
  refine both (fun hlt=>?_) (fun hge=>?_)
  ·rw [decide_eq_true_eq] at hlt
   have hlt:i<a.regs.length:=by omega
   have hlt2:i<b.regs.length:=by omega
   refine draw_vc (by kernel_rfl) (mkTab_ok _ _) (of_decide_eq_true rfl) (of_decide_eq_true rfl) ?_
   repeat (first | simp (maxSteps:=2000000) only [go_sem,↓reduceIte,Nat.reduceLT,Nat.reduceLeDiff,Nat.reduceAdd,Nat.reduceSub,Nat.reduceMul,Nat.reduceEqDiff,reduceCtorEq,Int.reduceToNat,Int.reduceEq,Int.reduceBEq,Int.reduceBNe,Int.reduceLT,Int.reduceLE,Int.reduceNeg,Int.reduceAdd,Int.reduceSub,Int.reduceMul,Int.reduceGE,Int.reduceGT,endO,R4.enc] | rw [dr_cons])
   refine And.intro hlt (And.intro hlt (And.intro hlt2 (And.intro hlt2 (both (fun hne=>?_) (fun heq=>?_)))))
   ·have hne:a≠b:=fun q=>by subst q;simp at hne
    exact retV fun E=>by simp [SV.den,SC.den,hne]
   ·rw [wr_succ (by omega)]
    refine backI ⟨i+1,by omega,take_eqS (d:=r40) hlt hlt2 htk (r4_eq_iff.2 ?_)⟩ (by simp only;omega) (le_ren id rfl rfl (by simp [TmpsLe,look,SV.ren,SC.ren,SC.renL,ren1L,ren1,idσ,SV.okN,SC.okN,SC.okL,ok1L]) (by simp [OwnLe,BlkLeO,BlkLe,atN,look,Fm.get,idσ,SC.renL,SC.ren,SC.okL,SC.okN,renL_v,okL_v]) (by simp [ArrsLe,ArrLeO,atN,look,Fm.get,idσ,arrLe_of,arrLe_0]) rfl)
    simpa only [Bool.not_eq_false',Bool.and_eq_true,beq_iff_eq] using heq
  ·rw [decide_eq_false_iff_not] at hge
   have hin:i=a.regs.length:=by omega
   subst hin
   have he:a=b:=fn_eq_iff.2 ⟨hw,by rw [List.take_length,hle,List.take_length] at htk;exact htk⟩
   exact retV fun E=>by simp [SV.den,SC.den,he]
 ·have dw:decide (a.words=b.words)=false:=decide_eq_false hw
  rw [dw]
  simp (maxSteps:=2000000) only [go_sem,↓reduceIte,Nat.reduceLT,Nat.reduceLeDiff,Nat.reduceAdd,Nat.reduceSub,Nat.reduceMul,Nat.reduceEqDiff,reduceCtorEq,Int.reduceToNat,Int.reduceEq,Int.reduceBEq,Int.reduceBNe,Int.reduceLT,Int.reduceLE,Int.reduceNeg,Int.reduceAdd,Int.reduceSub,Int.reduceMul,Int.reduceGE,Int.reduceGT,endO]
  have hne:a≠b:=fun q=>hw (by rw [q])
  exact retV fun E=>by simp [SV.den,SC.den,hne]
set_option maxRecDepth 100000 in
set_option maxHeartbeats 1000000 in
theorem sfinalsD_calls (w:World) (v v' : Value) (xs ys:List Fn) (h:FnsR w v xs) (h' : FnsR w v' ys):Calls Try.prog 28 #[v,v'] w (RetV w (.bool (decide (xs=ys)))):=by
 have hml:=fns_len h
 refine enterFns2 (A:=[]) (c:=ir28) (rs:=rs28) (nt:=nt28) h h' Try.func28 rfl (by kernel_rfl) (by kernel_rfl) rfl (of_decide_eq_true rfl) ?_
 simp (maxSteps:=2000000) only [ir28,nt28,rs28,go_sem,↓reduceIte,Nat.reduceLT,Nat.reduceLeDiff,Nat.reduceAdd,Nat.reduceSub,Nat.reduceMul,Nat.reduceEqDiff,reduceCtorEq,Int.reduceToNat,Int.reduceEq,Int.reduceBEq,Int.reduceBNe,Int.reduceLT,Int.reduceLE,Int.reduceNeg,Int.reduceAdd,Int.reduceSub,Int.reduceMul,Int.reduceGE,Int.reduceGT,endO,fsA,fsF_len,fsF_size,fsF_at,List.cons_append,List.nil_append]
 refine both (fun hne=>?_) (fun heq=>?_)
 ·have hne:xs≠ys:=fun q=>by subst q;simp at hne
  exact retV fun E=>by simp [SV.den,SC.den,hne]
 have hle:xs.length=ys.length:=by
  have q:(xs.length:Int)=ys.length:=by simpa using heq
  omega
 refine loopI (ι:={ i:Nat // i≤xs.length∧xs.take i=ys.take i }) (fun i=>⟨27,[(0,.c (.xv (0,0,0))),(1,.c (.xv (3,0,0))),(5,.c (.v (.int .i64 (i.1:Nat))))],[],fsA 0 xs++fsA 3 ys,[],6⟩)
  (fun i=>xs.length - i.1) ⟨0,by omega,by simp⟩ (le_ren id rfl rfl (by simp [TmpsLe,look,SV.ren,SC.ren,SC.renL,ren1L,ren1,idσ,SV.okN,SC.okN,SC.okL,ok1L]) trivial (by simp +contextual [fsA,ArrsLe,ArrLeO,atN,look,Fm.get,idσ,arrLe_of,arrLe_0,arrLe_fs]) rfl) ?_
 rintro ⟨i,hi,htk⟩
 simp (maxSteps:=2000000) only [go_sem,↓reduceIte,Nat.reduceLT,Nat.reduceLeDiff,Nat.reduceAdd,Nat.reduceSub,Nat.reduceMul,Nat.reduceEqDiff,reduceCtorEq,Int.reduceToNat,Int.reduceEq,Int.reduceBEq,Int.reduceBNe,Int.reduceLT,Int.reduceLE,Int.reduceNeg,Int.reduceAdd,Int.reduceSub,Int.reduceMul,Int.reduceGE,Int.reduceGT,endO,fsA,fsF_len,fsF_size,fsF_at,List.cons_append,List.nil_append]
 refine both (fun hlt=>?_) (fun hge=>?_)
 ·rw [decide_eq_true_eq] at hlt
  have hlt:i<xs.length:=by omega
  have hlt2:i<ys.length:=by omega
  refine draw_vc (by kernel_rfl) (mkTab_ok _ _) (of_decide_eq_true rfl) (of_decide_eq_true rfl) ?_
  repeat (first | simp (maxSteps:=2000000) only [go_sem,↓reduceIte,Nat.reduceLT,Nat.reduceLeDiff,Nat.reduceAdd,Nat.reduceSub,Nat.reduceMul,Nat.reduceEqDiff,reduceCtorEq,Int.reduceToNat,Int.reduceEq,Int.reduceBEq,Int.reduceBNe,Int.reduceLT,Int.reduceLE,Int.reduceNeg,Int.reduceAdd,Int.reduceSub,Int.reduceMul,Int.reduceGE,Int.reduceGT,endO,fsF_len,fsF_size,fsF_at] | rw [dr_cons])
  refine And.intro hlt (And.intro hlt (And.intro hlt2 (And.intro hlt2 ?_)))
  refine dcallV (.c (.v (.bool (decide (xs.getD i fn0=ys.getD i fn0))))) _ (fun E=>rfl) (fun E a' w' hs=>sfinalD_calls w' _ _ _ _ (fn_fs hs 1 i hlt rfl rfl) (fn_fs hs 4 i hlt2 rfl rfl)) ?_
  by_cases he:xs.getD i fn0=ys.getD i fn0
  ·have de:decide (xs.getD i fn0=ys.getD i fn0)=true:=decide_eq_true he
   rw [de]
   repeat (first | simp (maxSteps:=2000000) only [go_sem,↓reduceIte,Nat.reduceLT,Nat.reduceLeDiff,Nat.reduceAdd,Nat.reduceSub,Nat.reduceMul,Nat.reduceEqDiff,reduceCtorEq,Int.reduceToNat,Int.reduceEq,Int.reduceBEq,Int.reduceBNe,Int.reduceLT,Int.reduceLE,Int.reduceNeg,Int.reduceAdd,Int.reduceSub,Int.reduceMul,Int.reduceGE,Int.reduceGT,endO] | rw [dr_cons])
   rw [wr_succ (by omega)]
   exact backI ⟨i+1,by omega,take_eqS (d:=fn0) hlt hlt2 htk he⟩ (by simp only;omega) (le_ren id rfl rfl (by simp [TmpsLe,look,SV.ren,SC.ren,SC.renL,ren1L,ren1,idσ,SV.okN,SC.okN,SC.okL,ok1L]) trivial (by simp +contextual [fsA,ArrsLe,ArrLeO,atN,look,Fm.get,idσ,arrLe_of,arrLe_0,arrLe_fs]) rfl)
  ·have de:decide (xs.getD i fn0=ys.getD i fn0)=false:=decide_eq_false he
   rw [de]
   repeat (first | simp (maxSteps:=2000000) only [go_sem,↓reduceIte,Nat.reduceLT,Nat.reduceLeDiff,Nat.reduceAdd,Nat.reduceSub,Nat.reduceMul,Nat.reduceEqDiff,reduceCtorEq,Int.reduceToNat,Int.reduceEq,Int.reduceBEq,Int.reduceBNe,Int.reduceLT,Int.reduceLE,Int.reduceNeg,Int.reduceAdd,Int.reduceSub,Int.reduceMul,Int.reduceGE,Int.reduceGT,endO] | rw [dr_cons])
   have hne:xs≠ys:=ne_at (d:=fn0) (i:=i) he
   exact retV fun E=>by simp [SV.den,SC.den,hne]
 ·rw [decide_eq_false_iff_not] at hge
  have hin:i=xs.length:=by omega
  subst hin
  have he:xs=ys:=by rw [List.take_length,hle,List.take_length] at htk;exact htk
  exact retV fun E=>by simp [SV.den,SC.den,he]
def nilF (e:Int):SV:=.tup [(false,[.v (.slice none 0 0)]),(false,[.v (.int .i64 e)])]
theorem nilF_den (e:Int) (E:Env):(nilF e).den E = .tuple #[.slice none 0 0,.int .i64 e]:=by simp [nilF,SV.den,SC.den,den1]
theorem walk_err (w:World) (v:Value) (L:Lt) (o:Int) (hok:LtOk L) (he:refE L o≠0) (h:LtR w v L):Calls Try.prog 49 #[v,.int .i64 o] w (RetV w (.tuple #[.slice none 0 0,.int .i64 (refE L o)])):=by
 refine enterLt (A:=[]) (c:=ir49) (rs:=rs49) (nt:=nt49) h [.agg (ltS 0),.c (.v (.int .i64 o))] _ Try.func49 rfl (by kernel_rfl) (by kernel_rfl) rfl (fun E' h0=>by simp only [List.map_cons,List.map_nil,h0];rfl) (of_decide_eq_true rfl) ?_
 simp (maxSteps:=2000000) only [ir49,nt49,rs49,go_sem,↓reduceIte,Nat.reduceLT,Nat.reduceLeDiff,Nat.reduceAdd,Nat.reduceSub,Nat.reduceMul,Nat.reduceEqDiff,reduceCtorEq,Int.reduceToNat,Int.reduceEq,Int.reduceBEq,Int.reduceBNe,Int.reduceLT,Int.reduceLE,Int.reduceNeg,Int.reduceAdd,Int.reduceSub,Int.reduceMul,Int.reduceGE,Int.reduceGT,endO,ltA,ltS]
 refine callV (.c (.v (.int .i64 (refE L o)))) _ (fun E=>rfl) (fun E a w' hs=>look_calls w' _ L o hok (ltL_at hs rfl rfl rfl)) ?_
 have d1:(refE L o == 0)=false:=by simpa using he
 simp (maxSteps:=2000000) only [go_sem,↓reduceIte,Nat.reduceLT,Nat.reduceLeDiff,Nat.reduceAdd,Nat.reduceSub,Nat.reduceMul,Nat.reduceEqDiff,reduceCtorEq,Int.reduceToNat,Int.reduceEq,Int.reduceBEq,Int.reduceBNe,Int.reduceLT,Int.reduceLE,Int.reduceNeg,Int.reduceAdd,Int.reduceSub,Int.reduceMul,Int.reduceGE,Int.reduceGT,endO,d1,bne,Bool.not_false]
 exact retV fun E=>nilF_den _ E
theorem ifin_err (w:World) (v:Value) (L:Lt) (o:Int) (hok:LtOk L) (he:refE L o≠0) (h:LtR w v L):Calls Try.prog 26 #[v,.int .i64 o] w (RetV w (.tuple #[.slice none 0 0,.int .i64 (refE L o)])):=by
 refine enterLt (A:=[]) (c:=ir26) (rs:=rs26) (nt:=nt26) h [.agg (ltS 0),.c (.v (.int .i64 o))] _ Try.func26 rfl (by kernel_rfl) (by kernel_rfl) rfl (fun E' h0=>by simp only [List.map_cons,List.map_nil,h0];rfl) (of_decide_eq_true rfl) ?_
 simp (maxSteps:=2000000) only [ir26,nt26,rs26,go_sem,↓reduceIte,Nat.reduceLT,Nat.reduceLeDiff,Nat.reduceAdd,Nat.reduceSub,Nat.reduceMul,Nat.reduceEqDiff,reduceCtorEq,Int.reduceToNat,Int.reduceEq,Int.reduceBEq,Int.reduceBNe,Int.reduceLT,Int.reduceLE,Int.reduceNeg,Int.reduceAdd,Int.reduceSub,Int.reduceMul,Int.reduceGE,Int.reduceGT,endO,ltA,ltS]
 refine callV (nilF (refE L o)) _ (nilF_den _) (fun E a w' hs=>walk_err w' _ L o hok he (ltL_at hs rfl rfl rfl)) ?_
 have d1:(refE L o == 0)=false:=by simpa using he
 simp (maxSteps:=2000000) only [go_sem,↓reduceIte,Nat.reduceLT,Nat.reduceLeDiff,Nat.reduceAdd,Nat.reduceSub,Nat.reduceMul,Nat.reduceEqDiff,reduceCtorEq,Int.reduceToNat,Int.reduceEq,Int.reduceBEq,Int.reduceBNe,Int.reduceLT,Int.reduceLE,Int.reduceNeg,Int.reduceAdd,Int.reduceSub,Int.reduceMul,Int.reduceGE,Int.reduceGT,endO,nilF,d1,bne,Bool.not_false]
 exact retV fun E=>nilF_den _ E
end Go.Proofs.Ytmcpdafmkkjlcaa.Z
