/- TsoClassicsSaid: what its proof is made of. No condition. -/
import Derived.Test.YtmcpdafmkkjlcaaPkTTsoClassicsAM
set_option linter.unusedSimpArgs false
set_option linter.unusedVariables false
namespace Go.Proofs.Ytmcpdafmkkjlcaa.Z
open Go Go.RowKit
structure BelowD (w w' : World):Prop where
 b:Below w.heap.size w w'
 d:w.drawn≤w'.drawn
theorem BelowD.refl (w:World):BelowD w w:=⟨Below.refl _ _,Nat.le_refl _⟩
theorem BelowD.grow {w w' : World} (h:BelowD w w'):∃ q os,w' = Go.Sort.grow (w.drewN q) os:=by
 refine ⟨w'.drawn - w.drawn,w'.heap.extract w.heap.size w'.heap.size,?_⟩
 have h1:=h.b.os;have h2:=h.b.tape;have h3:=h.b.output;have h4:=h.d;have h5:=h.b.size;have h6:=h.b.block
 cases w with | mk hp tp dr os out =>
 cases w' with | mk hp' tp' dr' os' out' =>
 simp only at h1 h2 h3 h4 h5 h6
 subst h1;subst h2;subst h3
 simp only [Go.Sort.grow,World.drewN,World.mk.injEq,true_and,and_true]
 refine ⟨?_,by omega⟩
 refine Array.ext_getElem? fun i=>?_
 rw [Array.getElem?_append]
 split
 ·next hi=>rw [h6 i hi]
 ·next hi =>
  rw [Array.getElem?_extract]
  split
  ·next hj=>rw [show hp.size+(i - hp.size)=i by omega]
  ·next hj=>rw [Array.getElem?_eq_none (by omega)]
set_option maxHeartbeats 400000 in
theorem nanW (x:Int) (w:World):Calls Try.prog 113 #[.int .i64 x] w fun e w'=>e = .returned (.bool false)∧w' = w:=by
 go_enter Try.func113,Try.ntmps113
 go_wp2
 go_ret
 exact ⟨by simp,rfl⟩
set_option maxHeartbeats 400000 in
theorem cmpW (x y:Int) (w:World):Calls Try.prog 107 #[.int .i64 x,.int .i64 y] w fun e w'=>e = .returned (.int .i64 (cmp1 x y))∧w' = w:=by
 have NX:=Lib.hid (nanW x w)
 have NY:=Lib.hid (nanW y w)
 go_enter Try.func107,Try.ntmps107
 go_wp2_with fail
 refine (NX.out).mono ?_
 rintro e w2 ⟨rfl,rfl⟩
 go_wp2_with fail
 refine (NY.out).mono ?_
 rintro e w2 ⟨rfl,rfl⟩
 go_wp2_with fail
 all_goals go_ret
 all_goals refine ⟨?_,rfl⟩
 all_goals unfold cmp1
 ·rw [if_pos (by assumption)];rfl
 ·rw [if_neg (by omega),if_pos (by omega)];rfl
 ·rw [if_neg (by omega),if_neg (by omega)];rfl
theorem cmp_step {xs ys:List Int} {k:Nat} {x y:Int} (hx:xs[k]? = some x) (hy:ys[k]? = some y):cmpL (xs.drop k) (ys.drop k)=if cmp1 x y=0 then cmpL (xs.drop (k+1)) (ys.drop (k+1)) else cmp1 x y:=by
 have h1:=(List.getElem?_eq_some_iff.1 hx).1
 have h2:=(List.getElem?_eq_some_iff.1 hy).1
 have e1:xs.getD k 0=x:=by rw [List.getD_eq_getElem?_getD,hx];rfl
 have e2:ys.getD k 0=y:=by rw [List.getD_eq_getElem?_getD,hy];rfl
 rw [drop_at h1,drop_at h2,e1,e2]
 simp only [cmpL,cmp1]
 by_cases a:x<y
 ·simp [a]
 ·by_cases b:y<x
  ·simp [a,b]
  ·simp [a,b]
set_option maxHeartbeats 1000000 in
theorem compareW (ba bb:Option Addr) (n m c c' : Nat) (xs ys:List Int) (w:World) (hn:n=xs.length) (hm:m=ys.length) (hnc:n≤9223372036854775807) (hmc:m≤9223372036854775807)
  (hx:∀ k x,xs[k]? = some x→∃ b off,ba=some ⟨b,off,none⟩∧b<w.heap.size∧w.cell? ⟨b,off+k,none⟩=some (.int .i64 x))
  (hy:∀ k x,ys[k]? = some x→∃ b off,bb=some ⟨b,off,none⟩∧b<w.heap.size∧w.cell? ⟨b,off+k,none⟩=some (.int .i64 x)) :
  Calls Try.prog 87 #[.slice ba n c,.slice bb m c'] w fun e w'=>e = .returned (.int .i64 (cmpL xs ys))∧w' = w:=by
 have HX:=Lib.hid hx;clear hx
 have HY:=Lib.hid hy;clear hy
 have HN:=Lib.hid hn;clear hn
 have HM:=Lib.hid hm;clear hm
 go_enter Try.func87,Try.ntmps87
 go_wp2
 go_loopw [11] (fun i wr=>∃ k:Nat,k≤n∧i = .int .i64 k∧Hid (cmpL xs ys=cmpL (xs.drop k) (ys.drop k)∧k≤m)∧wr=w) (fun i _=>n - (intOf i).toNat)
 case atStart=>exact ⟨0,Nat.zero_le _,rfl,⟨by simp,Nat.zero_le _⟩,rfl⟩
 case round =>
  obtain ⟨k,hk,rfl,hkk,rfl⟩:=hrel
  by_cases hlt:k<n
  ·obtain ⟨x,hxk⟩:∃ x,xs[k]? = some x:=⟨_,List.getElem?_eq_getElem (by rw [← HN.out];exact hlt)⟩
   obtain ⟨b1,o1,rfl,hb1,c1⟩:=HX.out k x hxk
   by_cases hlm:k<m
   ·obtain ⟨y,hyk⟩:∃ x,ys[k]? = some x:=⟨_,List.getElem?_eq_getElem (by rw [← HM.out];exact hlm)⟩
    obtain ⟨b2,o2,rfl,hb2,c2⟩:=HY.out k y hyk
    clear hb1 hb2
    have HXK:=Lib.hid hxk;clear hxk
    have HYK:=Lib.hid hyk;clear hyk
    have hI:(k:Int)<(n:Int):=by omega
    have hJ:(k:Int)<(m:Int):=by omega
    have CW:=Lib.hid (cmpW x y wr)
    go_wp2_with fail
    refine (CW.out).mono ?_
    rintro e w2 ⟨rfl,rfl⟩
    clear CW
    have hcc:Hid (cmp1 x y=cmp1 x y):=Lib.hid rfl
    generalize hcv:cmp1 x y=cv at *
    by_cases hz:cv=0
    ·subst hz
     go_wp2_with fail
     go_roundw
     case rel =>
      refine ⟨k+1,by omega,by go_num,⟨?_,by omega⟩,by first | rfl | trivial⟩
      rw [hkk.out.1,cmp_step HXK.out HYK.out,if_pos hcv]
     case measure=>simp [intOf];omega
    ·go_wp2_with fail
     go_ret
     refine ⟨?_,rfl⟩
     rw [hkk.out.1,cmp_step HXK.out HYK.out,hcv,if_neg hz];rfl
   ·have hI:(k:Int)<(n:Int):=by omega
    have hJ:¬ (k:Int)<(m:Int):=by omega
    clear hb1
    have HXK:=Lib.hid hxk;clear hxk
    go_wp2_with fail
    go_ret
    refine ⟨?_,rfl⟩
    have h1:=(List.getElem?_eq_some_iff.1 HXK.out).1
    rw [hkk.out.1,show ys.drop k=[] from List.drop_eq_nil_of_le (by rw [← HM.out];omega),drop_at h1]
    rfl
  ·have hkn:k=n:=by omega
   subst hkn
   by_cases hlm:k<m
   ·have hJ:(k:Int)<(m:Int):=by omega
    go_wp2_with fail
    go_ret
    refine ⟨?_,rfl⟩
    rw [hkk.out.1,show xs.drop k=[] from List.drop_eq_nil_of_le (by rw [← HN.out];exact Nat.le_refl _),drop_at (show k<ys.length by rw [← HM.out];exact hlm)]
    rfl
   ·have hJ:¬ (k:Int)<(m:Int):=by omega
    go_wp2_with fail
    go_ret
    refine ⟨?_,rfl⟩
    rw [hkk.out.1,show xs.drop k=[] from List.drop_eq_nil_of_le (by rw [← HN.out];exact Nat.le_refl _),show ys.drop k=[] from List.drop_eq_nil_of_le (by rw [← HM.out];omega)]
    rfl
def Dr (W w:World):Prop:=∃ q,w=W.drewN q
theorem Dr.drewN {W w:World} (h:Dr W w) (n:Nat):Dr W (w.drewN n):=by
 obtain ⟨q,rfl⟩:=h
 exact ⟨q+n,by simp only [World.drewN,Nat.add_assoc]⟩
theorem Dr.drew {W w:World} (h:Dr W w):Dr W w.drew:=h.drewN 1
theorem cell_lt {w:World} {b o:Nat} {u:Value} (h:w.cell? ⟨b,o,none⟩=some u):b<w.heap.size:=by
 unfold World.cell? at h
 cases e:w.heap[b]? with
 | none=>simp only [e] at h;cases h
 | some x=>exact (Array.getElem?_eq_some_iff.1 e).1
theorem compareA {w:World} {v v' : Value} {xs ys:List Int} (h:Arr w eI 1 v xs) (h' : Arr w eI 1 v' ys):Calls Try.prog 87 #[v,v'] w fun e w'=>e = .returned (.int .i64 (cmpL xs ys))∧w' = w:=by
 have l1:=h.len
 have l2:=h'.len
 obtain ⟨ba,c,rfl,h1,h2,h3⟩:=h
 obtain ⟨bb,c',rfl,h1',h2',h3'⟩:=h'
 refine compareW ba bb _ _ c c' xs ys w rfl rfl l1 l2 (fun k x hk=>?_) (fun k x hk=>?_)
 ·rcases h3 with rfl | ⟨b,off,rfl,h3⟩
  ·simp at hk
  ·have:=h3 k x hk 0 (.int .i64 x) rfl
   simp only [Nat.mul_one,Nat.add_zero] at this
   exact ⟨b,off,rfl,cell_lt this,this⟩
 ·rcases h3' with rfl | ⟨b,off,rfl,h3⟩
  ·simp at hk
  ·have:=h3 k x hk 0 (.int .i64 x) rfl
   simp only [Nat.mul_one,Nat.add_zero] at this
   exact ⟨b,off,rfl,cell_lt this,this⟩
theorem rowA {w:World} {b off t:Nat} {l:List R4} (ht:t<l.length) (h:∀ k x,l[k]? = some x→∀ j u,(R4.enc x)[j]? = some u→w.cell? ⟨b,off+k * 4+j,none⟩=some u):Arr w eI 1 (.slice (some ⟨b,off+t * 4,none⟩) 4 4) (r4L (l.getD t r40)):=by
 refine ⟨_,4,rfl,Nat.le_refl _,by simp [maxLen],Or.inr ⟨b,_,rfl,fun k x hk j u hu=>?_⟩⟩
 have hl:l[t]? = some (l.getD t r40):=by rw [List.getD_eq_getElem?_getD,List.getElem?_eq_getElem ht];rfl
 have hj:j=0:=by
  cases j with
  | zero=>rfl
  | succ j=>simp [eI] at hu
 subst hj
 simp only [eI,List.getElem?_cons_zero,Option.some.injEq] at hu
 subst hu
 rw [Nat.mul_one,Nat.add_zero]
 refine h t _ hl k _ ?_
 have:R4.enc (l.getD t r40)=(r4L (l.getD t r40)).map (Value.int .i64):=rfl
 rw [this,List.getElem?_map,hk];rfl
theorem ordR_step {l m:List R4} {k:Nat} (h1:k<l.length) (h2:k<m.length):ordR (l.drop k) (m.drop k)=if cmpL (r4L (l.getD k r40)) (r4L (m.getD k r40))=0 then ordR (l.drop (k+1)) (m.drop (k+1)) else cmpL (r4L (l.getD k r40)) (r4L (m.getD k r40)):=by
 rw [drop_r4 h1,drop_r4 h2]
 simp only [ordR]
 by_cases e:cmpL (r4L (l.getD k r40)) (r4L (m.getD k r40))=0
 ·rw [if_neg (fun q=>q e),if_pos e]
 ·rw [if_pos e,if_neg e]
set_option maxHeartbeats 1000000 in
theorem orderW (vw vw' : Value) (ba bb:Option Addr) (c c' n n' : Nat) (w:World) (a b:Fn) (hw:Arr w eI 1 vw a.words) (hw' : Arr w eI 1 vw' b.words) (hr:Arr w R4.enc 4 (.slice ba n c) a.regs) (hr' : Arr w R4.enc 4 (.slice bb n' c') b.regs) (hn:n=a.regs.length) (hn' : n' = b.regs.length) (he:n=n') :
  Calls Try.prog 52 #[.agg #[vw,.slice ba n c],.agg #[vw',.slice bb n' c']] w fun e w'=>e = .returned (.int .i64 (ordF a b))∧BelowD w w':=by
 subst he
 have HW:=Lib.hid hw;clear hw
 have HW':=Lib.hid hw';clear hw'
 have HR:=Lib.hid hr;clear hr
 have HR':=Lib.hid hr';clear hr'
 have HN:=Lib.hid hn;clear hn
 have HN':=Lib.hid hn';clear hn'
 have hnl:n≤9223372036854775807:=by rw [HN.out];exact HR.out.len
 go_enter Try.func52,Try.ntmps52
 go_wp2_with fail
 have hb0:Below w.heap.size w ((w.alloc (.cells #[vw,.slice ba n c] 67)).alloc (.cells #[vw',.slice bb n c'] 67)):=(below_box _ _).trans ((below_box _ _).mono (by simp))
 have X:Hid (∀ j u,#[vw,Value.slice ba n c][j]? = some u→((w.alloc (.cells #[vw,.slice ba n c] 67)).alloc (.cells #[vw',.slice bb n c'] 67)).cell? ⟨w.heap.size,j,none⟩=some u) :=
  fun j u h=>((below_box _ _).cell (by simp)).trans (box_cell w _ _ j u h)
 have X' : Hid (∀ j u,#[vw',Value.slice bb n c'][j]? = some u→((w.alloc (.cells #[vw,.slice ba n c] 67)).alloc (.cells #[vw',.slice bb n c'] 67)).cell? ⟨w.heap.size+1,j,none⟩=some u) :=
  fun j u h=>box_cell' _ _ (by simp) j u h
 have hD:BelowD w ((w.alloc (.cells #[vw,.slice ba n c] 67)).alloc (.cells #[vw',.slice bb n c'] 67)):=⟨hb0,Nat.le_refl _⟩
 have CW:=Lib.hid (compareA (HW.out.below hb0) (HW'.out.below hb0))
 have HR1:=Lib.hid (HR.out.below hb0)
 have HR1':=Lib.hid (HR'.out.below hb0)
 clear HR HR' HW HW'
 refine (CW.out).mono ?_
 rintro e w2 ⟨rfl,rfl⟩
 clear CW
 generalize (w.alloc (.cells #[vw,.slice ba n c] 67)).alloc (.cells #[vw',.slice bb n c'] 67)=W1 at *
 have HO:Hid (ordF a b=if cmpL a.words b.words≠0 then cmpL a.words b.words else ordR a.regs b.regs):=rfl
 generalize cmpL a.words b.words=cw at *
 have x1:=X.out 1 _ rfl
 have x1':=X'.out 1 _ rfl
 by_cases hz:cw=0
 ·subst hz
  go_wp2_with fail
  go_loopw [19] (fun i wr=>∃ k:Nat,k≤n∧i = .int .i64 k∧Hid (ordR a.regs b.regs=ordR (a.regs.drop k) (b.regs.drop k))∧Hid (Dr W1 wr)) (fun i _=>n - (intOf i).toNat)
  case atStart=>exact ⟨0,Nat.zero_le _,rfl,Lib.hid (by simp),Lib.hid ⟨0,rfl⟩⟩
  case round =>
   obtain ⟨k,hk,rfl,hkk,HQ⟩:=hrel
   have y1:wr.cell? ⟨w.heap.size,1,none⟩=some (Value.slice ba n c):=by obtain ⟨q,rfl⟩:=HQ.out;exact x1
   have y1' : wr.cell? ⟨w.heap.size+1,1,none⟩=some (Value.slice bb n c'):=by obtain ⟨q,rfl⟩:=HQ.out;exact x1'
   clear x1 x1'
   by_cases hlt:k<n
   ·have hI:(k:Int)<(n:Int):=by omega
    obtain ⟨b1,o1,rfl,e3⟩:∃ b1 o1,ba=some ⟨b1,o1,none⟩∧∀ k x,a.regs[k]? = some x→∀ j u,(R4.enc x)[j]? = some u→W1.cell? ⟨b1,o1+k * 4+j,none⟩=some u:=by
     obtain ⟨ba',cap,e1,_,_,e3⟩:=HR1.out
     simp only [Value.slice.injEq] at e1
     obtain ⟨rfl,_,rfl⟩:=e1
     rcases e3 with e3 | ⟨b1,o1,e3,e4⟩
     ·have:=HN.out;rw [e3] at this;simp at this;omega
     ·exact ⟨b1,o1,e3,e4⟩
    obtain ⟨b2,o2,rfl,e3'⟩:∃ b1 o1,bb=some ⟨b1,o1,none⟩∧∀ k x,b.regs[k]? = some x→∀ j u,(R4.enc x)[j]? = some u→W1.cell? ⟨b1,o1+k * 4+j,none⟩=some u:=by
     obtain ⟨ba',cap,e1,_,_,e3⟩:=HR1'.out
     simp only [Value.slice.injEq] at e1
     obtain ⟨rfl,_,rfl⟩:=e1
     rcases e3 with e3 | ⟨b1,o1,e3,e4⟩
     ·have:=HN'.out;rw [e3] at this;simp at this;omega
     ·exact ⟨b1,o1,e3,e4⟩
    have RA:=Lib.hid (rowA (t:=k) (by rw [← HN.out];exact hlt) e3)
    have RB:=Lib.hid (rowA (t:=k) (by rw [← HN'.out];exact hlt) e3')
    have HS:=Lib.hid (ordR_step (l:=a.regs) (m:=b.regs) (k:=k) (by rw [← HN.out];exact hlt) (by rw [← HN'.out];exact hlt))
    clear e3 e3' HR1 HR1'
    generalize r4L (a.regs.getD k r40)=ra at *
    generalize r4L (b.regs.getD k r40)=rb at *
    have CW:Hid (∀ wx,Dr W1 wx→Calls Try.prog 87 #[.slice (some ⟨b1,o1+k * 4,none⟩) 4 4,.slice (some ⟨b2,o2+k * 4,none⟩) 4 4] wx fun e w'=>e = .returned (.int .i64 (cmpL ra rb))∧w' = wx):=fun wx hwx=>by
     obtain ⟨q,rfl⟩:=hwx
     exact compareA (w:=W1.drewN q) RA.out RB.out
    clear RA RB
    generalize cmpL ra rb=cr at *
    by_cases hz:cr=0
    ·subst hz
     go_wp2_with fail
     go_region_held3 (fun w'=>w'.cell? ⟨w.heap.size,1,none⟩=some (Value.slice (some ⟨b1,o1,none⟩) n c)∧w'.cell? ⟨w.heap.size+1,1,none⟩=some (Value.slice (some ⟨b2,o2,none⟩) n c'))
      (first | (exact ⟨y1,y1'⟩))
      (first | (go_at_call 87;refine (CW.out _ (by first | exact HQ.out | exact HQ.out.drewN _ | exact HQ.out.drew)).mono ?_;rintro r w6 ⟨rfl,rfl⟩))
     go_wp2_with fail
     go_roundw
     case rel=>exact ⟨k+1,by omega,by go_num,Lib.hid (by rw [hkk.out,HS.out];simp),Lib.hid HQ.out.drew⟩
     case measure=>simp [intOf];omega
    ·go_wp2_with fail
     go_region_held3 (fun w'=>w'.cell? ⟨w.heap.size,1,none⟩=some (Value.slice (some ⟨b1,o1,none⟩) n c)∧w'.cell? ⟨w.heap.size+1,1,none⟩=some (Value.slice (some ⟨b2,o2,none⟩) n c'))
      (first | (exact ⟨y1,y1'⟩))
      (first | (go_at_call 87;refine (CW.out _ (by first | exact HQ.out | exact HQ.out.drewN _ | exact HQ.out.drew)).mono ?_;rintro r w6 ⟨rfl,rfl⟩))
     go_wp2_with fail
     go_ret
     obtain ⟨q,rfl⟩:=HQ.out
     refine ⟨?_,⟨below_drewN (below_drewN hD.b _) 1,?_⟩⟩
     ·rw [HO.out,if_neg (fun q=>q rfl),hkk.out,HS.out,if_neg hz];rfl
     ·have:=hD.d;show w.drawn≤W1.drawn+q+1;omega
   ·have hI:¬ (k:Int)<(n:Int):=by omega
    have hkn:k=n:=by omega
    go_wp2_with fail
    go_ret
    obtain ⟨q,rfl⟩:=HQ.out
    refine ⟨?_,⟨below_drewN hD.b _,?_⟩⟩
    ·rw [HO.out,if_neg (by simp),hkk.out,hkn,show a.regs.drop n=[] from List.drop_eq_nil_of_le (by rw [← HN.out];exact Nat.le_refl _)];rfl
    ·have:=hD.d;show w.drawn≤W1.drawn+q;omega
 ·go_wp2_with fail
  go_ret
  exact ⟨by rw [HO.out,if_pos hz];rfl,hD⟩
end Go.Proofs.Ytmcpdafmkkjlcaa.Z
namespace Go.Proofs
open Go.Shelf Go.RowKit Go.Lib Go.Sort
def Ytmcpdafmkkjlcaa.sortFin_ren:Go.Shelf.Ren:=⟨fun | 6=>51 | 15=>86 | 14=>85 | 28=>105 | 29=>106 | 20=>97 | 21=>98 | 22=>99 | 23=>100 | 24=>101 | 25=>102 | 26=>103 | 27=>104 | 46=>108 | 47=>109 | 48=>110 | 49=>111 | 50=>112 | 57=>114 | n=>n,fun | 22=>58 | 24=>67 | 25=>101 | 3=>3 | 39=>138 | 0=>0 | 53=>162 | 55=>164 | 4=>4 | 46=>156 | 45=>155 | 50=>144 | 5=>5 | 9=>9 | 66=>166 | 70=>151 | 76=>172 | 77=>173 | n=>n,fun | n=>n⟩
theorem Ytmcpdafmkkjlcaa.sortFin:Go.Proofs.SlLaysF0.n6 Try.prog Ytmcpdafmkkjlcaa.sortFin_ren where
 mixed:=by kernel_rfl
 f6:=⟨"slices.SortFunc[[]reclaim/api.Final,reclaim/api.Final]",by decide,Try.func51.trans (congrArg some (by kernel_rfl))⟩
 f14:=⟨"slices.pdqsortCmpFunc[reclaim/api.Final]",by decide,Try.func85.trans (congrArg some (by kernel_rfl))⟩
 f15:=Try.func86.trans (congrArg some (by kernel_rfl))
 f20:=⟨"slices.insertionSortCmpFunc[reclaim/api.Final]",by decide,Try.func97.trans (congrArg some (by kernel_rfl))⟩
 f21:=⟨"slices.heapSortCmpFunc[reclaim/api.Final]",by decide,Try.func98.trans (congrArg some (by kernel_rfl))⟩
 f22:=⟨"slices.breakPatternsCmpFunc[reclaim/api.Final]",by decide,Try.func99.trans (congrArg some (by kernel_rfl))⟩
 f23:=⟨"slices.choosePivotCmpFunc[reclaim/api.Final]",by decide,Try.func100.trans (congrArg some (by kernel_rfl))⟩
 f24:=⟨"slices.reverseRangeCmpFunc[reclaim/api.Final]",by decide,Try.func101.trans (congrArg some (by kernel_rfl))⟩
 f25:=⟨"slices.partialInsertionSortCmpFunc[reclaim/api.Final]",by decide,Try.func102.trans (congrArg some (by kernel_rfl))⟩
 f26:=⟨"slices.partitionEqualCmpFunc[reclaim/api.Final]",by decide,Try.func103.trans (congrArg some (by kernel_rfl))⟩
 f27:=⟨"slices.partitionCmpFunc[reclaim/api.Final]",by decide,Try.func104.trans (congrArg some (by kernel_rfl))⟩
 f28:=Try.func105.trans (congrArg some (by kernel_rfl))
 f29:=Try.func106.trans (congrArg some (by kernel_rfl))
 f46:=⟨"slices.siftDownCmpFunc[reclaim/api.Final]",by decide,Try.func108.trans (congrArg some (by kernel_rfl))⟩
 f47:=Try.func109.trans (congrArg some (by kernel_rfl))
 f48:=Try.func110.trans (congrArg some (by kernel_rfl))
 f49:=⟨"slices.medianAdjacentCmpFunc[reclaim/api.Final]",by decide,Try.func111.trans (congrArg some (by kernel_rfl))⟩
 f50:=⟨"slices.medianCmpFunc[reclaim/api.Final]",by decide,Try.func112.trans (congrArg some (by kernel_rfl))⟩
 f57:=⟨"slices.order2CmpFunc[reclaim/api.Final]",by decide,Try.func114.trans (congrArg some (by kernel_rfl))⟩
 t0:=Try.underlying0
 a0:=Try.isAgg0
 z0:=Try.sizeOf0
 v0:=Try.zeroValue0
 t3:=Try.underlying3
 a3:=Try.isAgg3
 z3:=Try.sizeOf3
 v3:=Try.zeroValue3
 t4:=Try.underlying4
 a4:=Try.isAgg4
 z4:=Try.sizeOf4
 v4:=Try.zeroValue4
 t5:=Try.underlying5
 a5:=Try.isAgg5
 z5:=Try.sizeOf5
 v5:=Try.zeroValue5
 t9:=Try.underlying9
 a9:=Try.isAgg9
 z9:=Try.sizeOf9
 v9:=Try.zeroValue9
 t22:=Try.underlying58
 a22:=Try.isAgg58
 z22:=Try.sizeOf58
 v22:=Try.zeroValue58
 t25:=Try.underlying101
 a25:=Try.isAgg101
 z25:=Try.sizeOf101
 v25:=Try.zeroValue101
 t39:=Try.underlying138
 a39:=Try.isAgg138
 z39:=Try.sizeOf138
 v39:=Try.zeroValue138
 t45:=Try.underlying155
 a45:=Try.isAgg155
 z45:=Try.sizeOf155
 v45:=Try.zeroValue155
 t46:=Try.underlying156
 a46:=Try.isAgg156
 z46:=Try.sizeOf156
 v46:=Try.zeroValue156
 t50:=Try.underlying144
 a50:=Try.isAgg144
 z50:=Try.sizeOf144
 v50:=Try.zeroValue144
 t53:=Try.underlying162
 a53:=Try.isAgg162
 z53:=Try.sizeOf162
 v53:=Try.zeroValue162
 t55:=Try.underlying164
 a55:=Try.isAgg164
 z55:=Try.sizeOf164
 v55:=Try.zeroValue164
 t66:=Try.underlying166
 a66:=Try.isAgg166
 z66:=Try.sizeOf166
 v66:=Try.zeroValue166
 t70:=Try.underlying151
 a70:=Try.isAgg151
 z70:=Try.sizeOf151
 v70:=Try.zeroValue151
 t76:=Try.underlying172
 a76:=Try.isAgg172
 z76:=Try.sizeOf172
 v76:=Try.zeroValue172
 t77:=Try.underlying173
 a77:=Try.isAgg173
 z77:=Try.sizeOf173
 v77:=Try.zeroValue173
namespace Ytmcpdafmkkjlcaa.Z
open Go Go.RowKit
def cmpI (l:List Sp) (a b:Nat):Int:=cmpL (numF (endF (l.getD a sp0).s)) (numF (endF (l.getD b sp0).s))
theorem cmp_letrans {a b c:List Int} (h1:cmpL a b≤0) (h2:cmpL b c≤0):cmpL a c≤0:=by
 by_cases e1:cmpL a b=0
 ·rw [(cmp_zero a b).1 e1];exact h2
 ·by_cases e2:cmpL b c=0
  ·rw [← (cmp_zero b c).1 e2];exact h1
  ·have:=(cmp_less a c).2 (less_trans ((cmp_less a b).1 (by omega)) ((cmp_less b c).1 (by omega)))
   omega
theorem map_inj {L:Lt} {o:Int} {l:List Sp} (h:WkNd L o l):∀ {m m' : List Nat},(∀ x∈m,x∈idxL L l)→(∀ x∈m',x∈idxL L l)→m.map (fun k=>endF (l.getD k sp0).s)=m'.map (fun k=>endF (l.getD k sp0).s)→m=m'
 | [],[],_,_,_=>rfl
 | [],_ :: _,_,_,e=>by simp at e
 | _ :: _,[],_,_,e=>by simp at e
 | a :: m,b :: m',h1,h2,e=>by
  simp only [List.map_cons,List.cons.injEq] at e
  rw [idx_inj h (h1 a List.mem_cons_self) (h2 b List.mem_cons_self) e.1,map_inj h (fun x hx=>h1 x (List.mem_cons_of_mem _ hx)) (fun x hx=>h2 x (List.mem_cons_of_mem _ hx)) e.2]
theorem srt_ex {L:Lt} {o:Int} {l:List Sp} (h:WkNd L o l):∃ zs:List Nat,zs.Perm (idxL L l)∧zs.map (fun k=>endF (l.getD k sp0).s)=finsL L (l.map (·.s))∧∀ m:List Nat,m.Perm (idxL L l)→m.Pairwise (fun a b=>¬ ordI l b a<0)→m=zs:=by
 have hle:∀ a b,a∈idxL L l→b∈idxL L l→(¬ ordI l b a<0↔ordI l a b≤0):=fun a b ha hb=>by
  rw [ordI_eq h (idx_lt ha).1 (idx_lt hb).1,ordI_eq h (idx_lt hb).1 (idx_lt ha).1,cmp_anti]
  omega
 have hp:=List.mergeSort_perm (idxL L l) fun a b=>decide (cmpI l a b≤0)
 have hs:=List.pairwise_mergeSort (le:=fun a b=>decide (cmpI l a b≤0)) (fun a b c h1 h2=>by
  simp only [decide_eq_true_eq] at h1 h2 ⊢
  exact cmp_letrans h1 h2) (fun a b=>by
  simp only [Bool.or_eq_true,decide_eq_true_eq]
  unfold cmpI
  rw [cmp_anti (numF (endF (l.getD a sp0).s)) (numF (endF (l.getD b sp0).s))]
  omega) (idxL L l)
 have hs2:((idxL L l).mergeSort fun a b=>decide (cmpI l a b≤0)).Pairwise fun a b=>ordI l a b≤0:=List.Pairwise.imp_of_mem (fun {a b} ha hb hab=>by
  rw [ordI_eq h (idx_lt (hp.mem_iff.1 ha)).1 (idx_lt (hp.mem_iff.1 hb)).1]
  exact of_decide_eq_true hab) hs
 have hm:=srt_idx h hp hs2
 refine ⟨_,hp,hm,fun m hmp hms=>?_⟩
 refine map_inj h (fun x hx=>hmp.mem_iff.1 hx) (fun x hx=>hp.mem_iff.1 hx) ?_
 rw [hm]
 exact srt_idx h hmp (List.Pairwise.imp_of_mem (fun {a b} ha hb hab=>(hle a b (hmp.mem_iff.1 ha) (hmp.mem_iff.1 hb)).1 hab) hms)
theorem swo_idx {L:Lt} {o:Int} {l:List Sp} (h:WkNd L o l):Go.Sort.SWO (ltOf fun x y:{x:Nat // x∈idxL L l}=>ordI l x.1 y.1):=by
 have e:∀ x y:{x:Nat // x∈idxL L l},ordI l x.1 y.1=cmpI l x.1 y.1:=fun x y=>ordI_eq h (idx_lt x.2).1 (idx_lt y.2).1
 refine ⟨fun x=>?_,fun x y z=>?_,fun x y z=>?_⟩ <;> simp only [ltOf,decide_eq_true_eq,decide_eq_false_iff_not,e]
 ·unfold cmpI;rw [(cmp_zero _ _).2 rfl];omega
 ·unfold cmpI
  intro h1 h2
  exact (cmp_less _ _).2 (less_trans ((cmp_less _ _).1 h1) ((cmp_less _ _).1 h2))
 ·intro h1 h2 h3
  unfold cmpI at h1 h2 h3
  have a1:=cmp_anti (numF (endF (l.getD x.1 sp0).s)) (numF (endF (l.getD y.1 sp0).s))
  have a2:=cmp_anti (numF (endF (l.getD y.1 sp0).s)) (numF (endF (l.getD z.1 sp0).s))
  have a3:=cmp_anti (numF (endF (l.getD x.1 sp0).s)) (numF (endF (l.getD z.1 sp0).s))
  have:=cmp_letrans (a:=numF (endF (l.getD z.1 sp0).s)) (b:=numF (endF (l.getD y.1 sp0).s)) (c:=numF (endF (l.getD x.1 sp0).s)) (by omega) (by omega)
  omega
theorem arr_ownW {C:Ctx} {E:Env} {S:St} {a:Act} {w W:World} (hs:Sat C.B C.W C.w0 E S a w) {α:Type} {ty s:Nat} {enc:α→List Value} {ys:List α} {d:α} (x y:Nm) (k n k' s' ty' : Nat) (at_ at' : Nat→List SC) (hat:atN S.own x=some (.ar k s at_ ty)) (hay:atN S.own y=some (.ar k' s' at' ty')) (hne:x≠y) (hk' : 0<k') (hn:n=ys.length) (hk:ys.length≤k)
  (ha:∀ e,e<ys.length→at_ e=ats enc ys d e) (hW:∀ n,n<w.heap.size→n≠E.ρ y→W.heap[n]? = w.heap[n]?):Arr W enc s ((SC.sl x s 0 n none).den E) ys:=by
 subst hn
 obtain ⟨H,hH,_⟩:=hs.mem
 rcases ar_heap hH hat with ⟨h1,h2,h3,_⟩ | ⟨h1,h2,h3,cells,h4,h5,h6,h7⟩
 ·have h0:ys=[]:=List.eq_nil_of_length_eq_zero (by omega)
  subst h0
  exact ⟨if E.ν x=true then none else some ⟨E.ρ x,0,none⟩,0,by simp [SC.den,h2],Nat.le_refl _,by simp [maxLen],Or.inl rfl⟩
 ·refine ⟨some ⟨E.ρ x,0,none⟩,E.κ x,by simp [SC.den,h1],by omega,h3,Or.inr ⟨_,_,rfl,fun e y' hy j u hu=>?_⟩⟩
  have hxy:E.ρ x≠E.ρ y:=fun q=>by
   rcases ar_heap hH hay with ⟨_,_,g3,_⟩ | ⟨_,_,_,cells2,g4,_,_,_⟩
   ·omega
   ·have:=hH.disj x y _ _ hat hay hne (E.ρ x)
    rw [h4,g4,q] at this
    simp [sing] at this
  have hlt:E.ρ x<w.heap.size:=(Array.getElem?_eq_some_iff.1 h5).1
  rw [cell_of_row W _ _ _ ty (0,0) (by rw [hW _ hlt hxy];exact h5),Nat.zero_add]
  have he:e<ys.length:=(List.getElem?_eq_some_iff.1 hy).1
  have:=((h7 e (by omega)).2 j (.v u) (by
   rw [ha e he]
   have:ys.getD e d=y':=by rw [List.getD_eq_getElem?_getD,hy];rfl
   simp only [ats,this,List.getElem?_map,hu];rfl)).1
  rw [den_v] at this
  exact this
theorem retNm {P:Program} {A:List Nat} {w:World} {rs:List RS} {nx:Nat} {T:Nat→SV} {O:Nat→Own} {v:SV} {S:St} (σ:Nat→Nm→Nm) (hv:∀ b,v=(T b).ren (σ b)∧(T b).okN (NewIds b nx))
  (ho:∀ b,OwnLe (NewIds b nx) (σ b) S.own (O b)) (hi:∀ b,InjN (σ b) (O b)):RetVC (mkC P A w rs (RetN w nx T O)) v S:=by
 intro E a w' hs
 have hs:=hs.sat
 refine ⟨_,rfl,below_of hs,fun b=>⟨E.via (σ b),fun x=>hs.one _,fun E2 hE2=>?_⟩⟩
 have hR:∀ x:Nm,NewIds b nx x.1→SameR (σ b) E E2 x:=fun x hx=>hE2 x hx
 obtain ⟨H,hH,_⟩:=hs.mem
 have hat:∀ x c,atN (O b) x=some c→NewIds b nx x.1∧∃ d,atN S.own (σ b x)=some d∧BlkLe (NewIds b nx) (σ b) d c:=fun x c hx=>ownLe_at (ho b) hx
 refine ⟨?_,fun x=>H (σ b x),?_,?_,?_⟩
 ·rw [sv_ren hR _ (hv b).2,← (hv b).1]
 ·intro x c hx
  obtain ⟨h1,d,h2,h3⟩:=hat x c hx
  exact blk_le hR h1 h3 (hH.den _ _ h2)
 ·intro x y c d hx hy hne n
  obtain ⟨_,c',h2,_⟩:=hat x c hx
  obtain ⟨_,d',g2,_⟩:=hat y d hy
  exact hH.disj _ _ c' d' h2 g2 (fun e=>hne (hi b x y c d hx hy e)) n
 ·intro x c hx n o hn
  obtain ⟨_,c',h2,_⟩:=hat x c hx
  obtain ⟨h3,h4⟩:=hH.sub _ c' h2 n o hn
  exact ⟨h3,h4.resolve_right fun h=>h.elim⟩
def esF (l:List Sp) (k:Nat):List SC:=[.sl (5,k,0) 1 0 (l.getD k sp0).s.words.length none,.sl (6,k,0) 4 0 (l.getD k sp0).s.regs.length none]
def idxT (L:Lt) (l:List Sp) (i:Nat):List Nat:=(List.range i).filter fun k=>finB L (l.getD k sp0).s
theorem idxT_succ {L:Lt} {l:List Sp} {i:Nat}:idxT L l (i+1)=if finB L (l.getD i sp0).s=true then idxT L l i++[i] else idxT L l i:=by
 unfold idxT
 rw [List.range_succ,List.filter_append]
 by_cases h:finB L (l.getD i sp0).s=true
 ·rw [if_pos h,List.filter_cons,if_pos h];rfl
 ·rw [if_neg h,List.filter_cons,if_neg h];simp
theorem idxT_len {L:Lt} {l:List Sp} (i:Nat):(idxT L l i).length≤i:=by
 have:=List.length_filter_le (fun k=>finB L (l.getD k sp0).s) (List.range i)
 rwa [List.length_range] at this
def ffL (l:List Sp) (ys:List Nat) (n:Nat):Blk:=.ar n 2 (fun e=>esF l (ys.getD e 0)) 67
def ffS (L:Lt) (l:List Sp) (i:Nat):Own:=(3,.one (.bk [.xv (0,0,0),.xv (1,0,0)] 25)) :: wlO 4 l++[(10,.one (ffL l (idxT L l i) (idxT L l i).length))]
def ffTm (L:Lt) (l:List Sp) (i:Nat):List (Nat×SV):=[(2,.c (.ptr (3,0,0) 0)),(8,.c (.sl (10,0,0) 2 0 (idxT L l i).length none)),(20,.c (.sl (4,0,0) 8 0 l.length none)),(21,.c (.v (.int .i64 l.length))),(22,.c (.v (.int .i64 i)))]
theorem ff_same {q:Nat→Prop} {τ:Nat→Nat} {own:Own} {l:List Sp} {ys:List Nat} {m:Nat} {at_:Nat→List SC} (c:Nat) (hq:∀ i,i<11→q i) (hτ:∀ i,i<10→τ i=i) (h10:τ 10=c) (h3:look own 3=some (.one (.bk [.xv (0,0,0),.xv (1,0,0)] 25)))
  (g4:look own 4=some (.one (.ar l.length 8 (wlC 4 l) 98))) (g5:look own 5=some (.fam l.length (wlW l))) (g6:look own 6=some (.fam l.length (wlR l))) (g7:look own 7=some (.fam l.length (wlP l))) (g8:look own 8=some (.fam l.length (wlB 9 l))) (g9:look own 9=some (.fam2 l.length (wlN l) (wlF l)))
  (hc:look own c=some (.one (.ar m 2 at_ 67))) (hm:ys.length≤m) (ha:∀ e,e<ys.length→at_ e=esF l (ys.getD e 0)):OwnLe q (idσ τ) own ((3,.one (.bk [.xv (0,0,0),.xv (1,0,0)] 25)) :: wlO 4 l++[(10,.one (ffL l ys ys.length))]):=by
 have t0:=hτ 0 (by decide);have t1:=hτ 1 (by decide);have t3:=hτ 3 (by decide);have t4:=hτ 4 (by decide);have t5:=hτ 5 (by decide);have t6:=hτ 6 (by decide);have t7:=hτ 7 (by decide);have t8:=hτ 8 (by decide);have t9:=hτ 9 (by decide)
 have q0:=hq 0 (by decide);have q1:=hq 1 (by decide);have q5:=hq 5 (by decide);have q6:=hq 6 (by decide);have q7:=hq 7 (by decide);have q8:=hq 8 (by decide);have q9:=hq 9 (by decide)
 refine ⟨⟨hq 3 (by decide),?_⟩,⟨hq 4 (by decide),?_⟩,⟨hq 5 (by decide),fun k hk=>?_⟩,⟨hq 6 (by decide),fun k hk=>?_⟩,⟨hq 7 (by decide),fun k hk=>?_⟩,⟨hq 8 (by decide),fun k hk=>?_⟩,⟨hq 9 (by decide),fun k e hk he=>?_⟩,⟨hq 10 (by decide),?_⟩,trivial⟩
 ·simp only [idσ,t3,atN,h3,Fm.get,and_self,if_true]
  exact ⟨by simp only [SC.renL,SC.ren,idσ,t0,t1],rfl,by simp [SC.okL,SC.okN,q0,q1]⟩
 ·simp only [idσ,t4,atN,g4,Fm.get,and_self,if_true]
  exact ⟨Nat.le_refl _,rfl,rfl,fun e _=>⟨by simp only [wlC,SC.renL,SC.ren,idσ,Nat.reduceAdd,t5,t6,t7,t8],by simp [wlC,SC.okL,SC.okN,q5,q6,q7,q8]⟩⟩
 ·simp only [idσ,Nat.reduceAdd,t5,atN,g5,Fm.get,hk,and_self,if_true];exact arLe_same
 ·simp only [idσ,Nat.reduceAdd,t6,atN,g6,Fm.get,hk,and_self,if_true];exact arLe_same
 ·simp only [idσ,Nat.reduceAdd,t7,atN,g7,Fm.get,hk,and_self,if_true];exact arLe_same
 ·simp only [idσ,Nat.reduceAdd,t8,atN,g8,Fm.get,hk,and_self,if_true]
  exact ⟨Nat.le_refl _,rfl,rfl,fun e _=>⟨by simp only [SC.renL,SC.ren,idσ,t9],by simp [SC.okL,SC.okN,q9]⟩⟩
 ·simp only [idσ,Nat.reduceAdd,t9,atN,g9,Fm.get,hk,he,and_self,if_true];exact arLe_same
 ·simp only [idσ,h10,atN,hc,Fm.get,and_self,if_true]
  exact ⟨hm,rfl,rfl,fun e he=>⟨by rw [ha e he];simp only [esF,SC.renL,SC.ren,idσ,t5,t6],by simp [esF,SC.okL,SC.okN,q5,q6]⟩⟩
end Ytmcpdafmkkjlcaa.Z
end Go.Proofs
namespace Go.Proofs.Ytmcpdafmkkjlcaa.Z
open Go Go.RowKit
def FinR (L:Lt) (o:Int) (w:World) (e:Ending) (w' : World):Prop:=match bfs L o with
 | some l=>RetN w 3 (leT 2 (finsL L (l.map (·.s))).length 0) (fun b=>foO b (finsL L (l.map (·.s)))) e w'
 | none=>RetV w (.tuple #[.slice none 0 0,.int .i64 192]) e w'
theorem arr_ltσ {q:Nat→Prop} {σ:Nm→Nm} {L:Lt} {arrs:List (Nat×Fm ArrF)} (hq:∀ i,i<3→q i) (hσ:∀ i k e,i<3→σ (i,k,e)=(i,k,e)) (h0:look arrs 0=some (.one (arrOf eI 1 L.words 0))) (h1:look arrs 1=some (.one (nestF 2 L.thr.length))) (h2:look arrs 2=some (.fam L.thr.length fun k=>arrOf Ins.enc 7 (L.thr.getD k []) in0)):ArrsLe q σ arrs (ltA 0 L):=by
 have e:∀ {α:Type} {enc:α→List Value} {s:Nat} {xs:List α} {d:α},ArrLe q σ (arrOf enc s xs d) (arrOf enc s xs d):=fun {α enc s xs d}=>⟨rfl,rfl,fun e _=>⟨(renL_v _ _).symm,okL_v _ _⟩,Nat.le_refl _⟩
 refine ⟨⟨hq 0 (by decide),?_⟩,⟨hq 1 (by decide),?_⟩,⟨hq 2 (by decide),fun k hk=>?_⟩,trivial⟩
 ·rw [hσ _ _ _ (by decide)];simp only [atN,h0,Fm.get,and_self,if_true];exact e
 ·rw [hσ _ _ _ (by decide)];simp only [atN,Nat.zero_add,h1,Fm.get,and_self,if_true]
  exact ⟨rfl,rfl,fun e _=>⟨by simp only [nestF,SC.renL,SC.ren];rw [hσ 2 _ _ (by decide)],by simp [nestF,SC.okL,SC.okN,hq 2]⟩,Nat.le_refl _⟩
 ·rw [hσ _ _ _ (by decide)];simp only [atN,Nat.zero_add,h2,Fm.get,hk,and_self,if_true];exact e
end Go.Proofs.Ytmcpdafmkkjlcaa.Z
namespace Go.Proofs.Ytmcpdafmkkjlcaa.Z
open Go Go.RowKit
def srσ (zs:List Nat) (b:Nat) (x:Nm):Nm:=if x.1=b then (10,0,0) else if x.1=b+1 then (5,zs.getD x.2.1 0,0) else (6,zs.getD x.2.1 0,0)
theorem ff_ret {P:Program} {A:List Nat} {w:World} {rs:List RS} {l:List Sp} {zs:List Nat} {fs:List Fn} {S:St} {m:Nat} (hm:m=fs.length) (hzl:zs.length=fs.length) (hnd:zs.Nodup) (hzt:∀ k∈zs,k<l.length) (hz:∀ k,k<zs.length→fs.getD k fn0=endF (l.getD (zs.getD k 0) sp0).s) (h10:look S.own 10=some (.one (ffL l zs m))) (h5:look S.own 5=some (.fam l.length (wlW l))) (h6:look S.own 6=some (.fam l.length (wlR l))) :
  RetVC (mkC P A w rs (RetN w 3 (leT 2 fs.length 0) (fun b=>foO b fs))) (.tup [(false,[.sl (10,0,0) 2 0 m none]),(false,[.v (.int .i64 0)])]) S:=by
 subst hm
 have hlt:∀ k,k<fs.length→zs.getD k 0<l.length:=fun k hk=>hzt _ (by rw [List.getD_eq_getElem?_getD,List.getElem?_eq_getElem (by omega)];exact List.getElem_mem _)
 have s0:∀ b,srσ zs b (b,0,0)=(10,0,0):=fun b=>by simp [srσ]
 have s1:∀ b k,srσ zs b (b+1,k,0)=(5,zs.getD k 0,0):=fun b k=>by simp [srσ]
 have s2:∀ b k,srσ zs b (b+2,k,0)=(6,zs.getD k 0,0):=fun b k=>by simp [srσ]
 refine retNm (srσ zs) (fun b=>⟨by simp [leT,SV.ren,SC.renL,SC.ren,ren1L,ren1,s0],by simp [leT,SV.okN,SC.okL,SC.okN,ok1L,NewIds]⟩) (fun b=>?_) (fun b=>?_)
 ·refine ⟨⟨⟨by omega,by omega⟩,?_⟩,⟨⟨by omega,by omega⟩,fun k hk=>?_⟩,⟨⟨by omega,by omega⟩,fun k hk=>?_⟩,trivial⟩
  ·rw [s0];simp only [atN,h10,ffL,if_true,Fm.get,and_self]
   exact ⟨Nat.le_refl _,rfl,rfl,fun e he=>⟨by simp only [esF,foC,SC.renL,SC.ren,s1,s2,hz e (by omega)];rfl,by simp [foC,SC.okL,SC.okN,NewIds]⟩⟩
  ·rw [s1];simp only [atN,h5,if_true,Fm.get,hlt k hk,and_self,foW,hz k (by omega)];exact arLe_same
  ·rw [s2];simp only [atN,h6,if_true,Fm.get,hlt k hk,and_self,foR,hz k (by omega)];exact arLe_same
 ·intro x y c d hx hy e
  have hi:∀ k k',k<fs.length→k' < fs.length→zs.getD k 0=zs.getD k' 0→k=k':=fun k k' h1 h2 q=>by
   rw [List.getD_eq_getElem?_getD,List.getD_eq_getElem?_getD,List.getElem?_eq_getElem (show k<zs.length by omega),List.getElem?_eq_getElem (show k' < zs.length by omega)] at q
   have hp:=List.pairwise_iff_getElem.1 (List.nodup_iff_pairwise_ne.1 hnd)
   rcases Nat.lt_trichotomy k k' with g | g | g
   ·exact absurd q (hp k k' (by omega) (by omega) g)
   ·exact g
   ·exact absurd q.symm (hp k' k (by omega) (by omega) g)
  rcases fo_keys hx with rfl | ⟨k,hk,rfl⟩ | ⟨k,hk,rfl⟩ <;> rcases fo_keys hy with rfl | ⟨k',hk',rfl⟩ | ⟨k',hk',rfl⟩
  ·rfl
  ·rw [s0,s1] at e;simp at e
  ·rw [s0,s2] at e;simp at e
  ·rw [s0,s1] at e;simp at e
  ·rw [s1,s1] at e;rw [hi k k' hk hk' (by simpa using e)]
  ·rw [s1,s2] at e;simp at e
  ·rw [s0,s2] at e;simp at e
  ·rw [s1,s2] at e;simp at e
  ·rw [s2,s2] at e;rw [hi k k' hk hk' (by simpa using e)]
def ir26:IR:=(.seq (.ops [⟨(some 2),(.box 25 (.t 0)),none⟩,⟨(some 4),(.mv (.k (.c (.v (.slice none 0 0))))),none⟩,⟨(some 5),(.mv (.k (.c (.v (.int .i64 0))))),none⟩]) (.kill [0,3,4,5,6,7,8,9,10,11] (.seq (.ops [⟨(some 12),(.ld true 2 (.t 2)),none⟩,⟨(some 13),(.mv (.t 1)),none⟩,⟨(some 14),(.call 49 [(.t 12),(.t 13)]),none⟩,⟨(some 11),(.mv (.t 14)),none⟩,⟨(some 15),(.ext 0 (.t 11)),none⟩,⟨(some 16),(.ext 1 (.t 11)),none⟩,⟨(some 6),(.mv (.t 15)),none⟩,⟨(some 7),(.mv (.t 16)),none⟩]) (.kill [1,11,12,13,14,15,16] (.seq (.seq (.ops [⟨(some 17),(.mv (.t 7)),none⟩,⟨(some 18),(.bin .neq (.t 17) (.k (.c (.v (.int .i64 0))))),none⟩]) (.kill [17] (.cond (.t 18) (.seq (.ops [⟨(some 19),(.mv (.t 7)),none⟩,⟨(some 4),(.mv (.k (.c (.v (.slice none 0 0))))),none⟩,⟨(some 5),(.mv (.t 19)),none⟩]) (.kill [2,6,7,18,19] .ret)) .skip))) (.kill [4,5,7,18] (.seq (.ops [⟨(some 8),(.mv (.k (.c (.v (.slice none 0 0))))),none⟩]) (.seq (.seq (.ops [⟨(some 20),(.mv (.t 6)),none⟩,⟨(some 21),(.len (.t 20)),none⟩,⟨(some 22),(.mv (.k (.c (.v (.int .i64 0))))),none⟩]) (.kill [6] (.blk 0 (.loop (.seq (.ops [⟨(some 23),(.bin .lss (.t 22) (.t 21)),none⟩]) (.kill [10,24,25,26,27,28,29,30,31,32,33,34,35,36,37,38,39,40] (.seq (.cond (.t 23) .skip (.exit 0)) (.kill [23] (.seq (.blk 1 (.seq (.ops [⟨(some 24),(.ia 8 (.t 20) (.t 22)),none⟩,⟨(some 25),(.ld true 8 (.t 24)),none⟩,⟨(some 10),(.new 98 [(.v (.slice none 0 0)),(.v (.slice none 0 0)),(.v (.slice none 0 0)),(.v (.slice none 0 0)),(.v (.int .i64 0)),(.v (.int .i64 0)),(.v (.bool false)),(.v (.int .i64 0))]),none⟩,⟨none,(.st 8 (.t 10) (.t 25)),none⟩]) (.kill [24,25] (.seq (.ops [⟨(some 26),(.ld true 2 (.t 2)),none⟩,⟨(some 27),(.fa 0 (.t 10)),none⟩,⟨(some 28),(.ld true 4 (.t 27)),none⟩,⟨(some 29),(.call 50 [(.t 26),(.t 28)]),none⟩]) (.kill [26,27,28] (.cond (.t 29) (.ops [⟨(some 30),(.mv (.t 8)),none⟩,⟨(some 31),(.fa 0 (.t 10)),none⟩,⟨(some 32),(.fa 0 (.t 31)),none⟩,⟨(some 33),(.ld false 1 (.t 32)),none⟩,⟨(some 34),(.fa 0 (.t 10)),none⟩,⟨(some 35),(.fa 1 (.t 34)),none⟩,⟨(some 36),(.ld false 1 (.t 35)),none⟩,⟨(some 37),(.build [(.v (.slice none 0 0)),(.v (.slice none 0 0))] [(0,(1,(.t 33))),(1,(1,(.t 36)))]),none⟩,⟨(some 38),(.mkSl 67 1 2 [(.v (.slice none 0 0)),(.v (.slice none 0 0))] [(0,(2,(.t 37)))]),none⟩,⟨(some 39),(.app 67 2 48 [(.v (.slice none 0 0)),(.v (.slice none 0 0))] (.t 30) (.t 38)),none⟩,⟨(some 8),(.mv (.t 39)),none⟩]) .skip)))))) (.kill [10,24,25,26,27,28,29,30,31,32,33,34,35,36,37,38,39] (.ops [⟨(some 40),(.bin .add (.t 22) (.k (.c (.v (.int .i64 1))))),none⟩,⟨(some 22),(.mv (.t 40)),none⟩]))))))))))) (.kill [2,10,20,21,22,23,24,25,26,27,28,29,30,31,32,33,34,35,36,37,38,39,40] (.seq (.ops [⟨(some 41),(.mv (.t 8)),none⟩,⟨(some 42),(.call 51 [(.t 41),(.k (.c (.fn (.func 52) [] [])))]),none⟩]) (.kill [41,42] (.seq (.ops [⟨(some 43),(.mv (.t 8)),none⟩,⟨(some 4),(.mv (.t 43)),none⟩,⟨(some 5),(.mv (.k (.c (.v (.int .i64 0))))),none⟩]) (.kill [8,43] .ret)))))))))))))
def rs26:List RS:=[(.t 4),(.t 5)]
def nt26:Nat:=44
set_option maxRecDepth 100000 in
set_option maxHeartbeats 2000000 in
theorem ifin_calls (w:World) (v:Value) (L:Lt) (o:Int) (hL:checkB L=true) (ho:1≤o∧o≤3) (hok:LtOk L) (h:LtR w v L):Calls Try.prog 26 #[v,.int .i64 o] w (FinR L o w):=by
 refine enterLt (A:=[]) (c:=ir26) (rs:=rs26) (nt:=nt26) h [.agg (ltS 0),.c (.v (.int .i64 o))] _ Try.func26 rfl (by kernel_rfl) (by kernel_rfl) rfl (fun E' h0=>by simp only [List.map_cons,List.map_nil,h0];rfl) (of_decide_eq_true rfl) ?_
 generalize hR:FinR L o w=R
 simp (maxSteps:=2000000) only [ir26,nt26,rs26,go_sem,↓reduceIte,Nat.reduceLT,Nat.reduceLeDiff,Nat.reduceAdd,Nat.reduceSub,Nat.reduceMul,Nat.reduceEqDiff,reduceCtorEq,Int.reduceToNat,Int.reduceEq,Int.reduceBEq,Int.reduceBNe,Int.reduceLT,Int.reduceLE,Int.reduceNeg,Int.reduceAdd,Int.reduceSub,Int.reduceMul,Int.reduceGE,Int.reduceGT,endO,ltA,ltS]
 cases hb:bfs L o with
 | none =>
  refine callV (.tup [(false,[.v (.slice none 0 0)]),(false,[.v (.int .i64 192)])]) _ (fun E=>rfl) (fun E a w' hs=>by
   have:=walk_calls w' _ L o hL ho hok (ltL_at hs rfl rfl rfl)
   unfold WalkR at this
   rw [hb] at this
   exact this) ?_
  simp (maxSteps:=2000000) only [go_sem,↓reduceIte,Nat.reduceLT,Nat.reduceLeDiff,Nat.reduceAdd,Nat.reduceSub,Nat.reduceMul,Nat.reduceEqDiff,reduceCtorEq,Int.reduceToNat,Int.reduceEq,Int.reduceBEq,Int.reduceBNe,Int.reduceLT,Int.reduceLE,Int.reduceNeg,Int.reduceAdd,Int.reduceSub,Int.reduceMul,Int.reduceGE,Int.reduceGT,endO]
  rw [← hR]
  unfold FinR
  rw [hb]
  exact retV fun E=>by simp [SV.den,SC.den,den1]
 | some l =>
  have hnd:=bfs_ok hL hb
  have hw:=hnd.toWkOk
  have hln:=hw.len
  have hF:FinR L o w=RetN w 3 (leT 2 (finsL L (l.map (·.s))).length 0) (fun b=>foO b (finsL L (l.map (·.s)))):=by
   funext e w'
   unfold FinR
   rw [hb]
  refine callN 6 (wlT l) (fun b=>wlO b l) (fun E a w' hs=>by
   have:=walk_calls w' _ L o hL ho hok (ltL_at hs rfl rfl rfl)
   unfold WalkR at this
   rw [hb] at this
   exact this) ?_
  simp (maxSteps:=2000000) only [go_sem,↓reduceIte,Nat.reduceLT,Nat.reduceLeDiff,Nat.reduceAdd,Nat.reduceSub,Nat.reduceMul,Nat.reduceEqDiff,reduceCtorEq,Int.reduceToNat,Int.reduceEq,Int.reduceBEq,Int.reduceBNe,Int.reduceLT,Int.reduceLE,Int.reduceNeg,Int.reduceAdd,Int.reduceSub,Int.reduceMul,Int.reduceGE,Int.reduceGT,endO,wlT,wlO]
  refine loopI (ι:={ i:Nat // i≤l.length }) (fun i=>⟨44,ffTm L l i.1,ffS L l i.1,ltA 0 L,[],11⟩) (fun i=>l.length - i.1) ⟨0,by omega⟩ ?_ ?_
  ·refine le_tr (le_nilown (tmps':=ffTm L l 0) 2 67 (fun e=>esF l (([]:List Nat).getD e 0)) (by simp [TmpsNil,look,ffTm,idxT]) rfl) ?_
   exact le_ren id rfl rfl (by simp [ffTm,TmpsLe,look,SV.ren,SC.ren,idσ,SV.okN,SC.okN]) (ff_same (ys:=idxT L l 0) 10 (fun i h=>h) (fun _ _=>rfl) rfl rfl rfl rfl rfl rfl rfl rfl rfl (by simp [idxT]) (fun e he=>by simp [idxT] at he)) (arr_ltσ (fun i h=>Nat.lt_trans h (show 3<11 by decide)) (fun _ _ _ _=>rfl) rfl rfl rfl) rfl
  rintro ⟨i,hi⟩
  have hsu:=idxT_succ (L:=L) (l:=l) (i:=i)
  have hil:=idxT_len (L:=L) (l:=l) i
  generalize hys:idxT L l i=ys at hsu hil ⊢
  simp (maxSteps:=2000000) only [go_sem,↓reduceIte,Nat.reduceLT,Nat.reduceLeDiff,Nat.reduceAdd,Nat.reduceSub,Nat.reduceMul,Nat.reduceEqDiff,reduceCtorEq,Int.reduceToNat,Int.reduceEq,Int.reduceBEq,Int.reduceBNe,Int.reduceLT,Int.reduceLE,Int.reduceNeg,Int.reduceAdd,Int.reduceSub,Int.reduceMul,Int.reduceGE,Int.reduceGT,endO,ffTm,ffS,hys,ffL,wlO,wlC,ltA]
  refine both (fun hlt=>?_) (fun hge=>?_)
  ·rw [decide_eq_true_eq] at hlt
   have hlt:i<l.length:=by omega
   have hwi:=hw.at hlt
   refine And.intro ⟨hlt,Nat.le_refl _⟩ (And.intro hlt ?_)
   refine callV (.c (.bo (finB L (l.getD i sp0).s))) _ (fun E=>rfl) (fun E a w' hs=>final_calls w' _ _ L o _ hL hwi (ltL_at hs rfl rfl rfl) (st_ownL hs 4 i hlt rfl rfl rfl rfl rfl)) ?_
   simp (maxSteps:=2000000) only [go_sem,↓reduceIte,Nat.reduceLT,Nat.reduceLeDiff,Nat.reduceAdd,Nat.reduceSub,Nat.reduceMul,Nat.reduceEqDiff,reduceCtorEq,Int.reduceToNat,Int.reduceEq,Int.reduceBEq,Int.reduceBNe,Int.reduceLT,Int.reduceLE,Int.reduceNeg,Int.reduceAdd,Int.reduceSub,Int.reduceMul,Int.reduceGE,Int.reduceGT,endO]
   rw [wr_succ (by omega)]
   refine both (fun hf=>?_) (fun hf=>?_)
   ·rw [if_pos hf] at hsu
    refine And.intro (by decide) (And.intro ⟨Nat.le_refl _,by omega,by simp only [maxLen];omega⟩ ?_)
    refine backI ⟨i+1,by omega⟩ (by simp only;omega) (le_ren (fun j=>if j=10 then 13 else j) rfl rfl (by simp [ffTm,TmpsLe,look,SV.ren,SC.ren,idσ,SV.okN,SC.okN,hsu]) ?_ (arr_ltA (p:=(· < 11)) (fun i h=>Nat.lt_trans h (show 3<11 by decide)) (fun i h=>by rw [if_neg (by omega)]) rfl rfl rfl) rfl)
    show OwnLe (· < 11) _ _ (ffS L l (i+1))
    unfold ffS
    rw [hsu]
    refine ff_same (ys:=ys++[i]) 13 (fun i h=>h) (fun i h=>by rw [if_neg (by omega)]) rfl rfl rfl rfl rfl rfl rfl rfl rfl (by simp) (fun e he=>?_)
    rcases Nat.lt_or_ge e ys.length with h1 | h1
    ·simp only [appAt,if_pos h1]
     rw [List.getD_eq_getElem?_getD,List.getD_eq_getElem?_getD,List.getElem?_append_left h1]
    ·have h2:e=ys.length:=by simp at he;omega
     subst h2
     simp only [appAt,Nat.lt_irrefl,if_false,Nat.sub_self]
     rw [List.getD_eq_getElem?_getD (l:=ys++[i]),List.getElem?_append_right (Nat.le_refl _),Nat.sub_self]
     rfl
   ·rw [if_neg (by rw [hf];exact Bool.false_ne_true)] at hsu
    refine backI ⟨i+1,by omega⟩ (by simp only;omega) (le_ren id rfl rfl (by simp [ffTm,TmpsLe,look,SV.ren,SC.ren,idσ,SV.okN,SC.okN,hsu]) ?_ (arr_ltA (p:=(· < 11)) (fun i h=>Nat.lt_trans h (show 3<11 by decide)) (fun i h=>rfl) rfl rfl rfl) rfl)
    show OwnLe (· < 11) _ _ (ffS L l (i+1))
    unfold ffS
    rw [hsu]
    exact ff_same (ys:=ys) 10 (fun i h=>h) (fun _ _=>rfl) rfl rfl rfl rfl rfl rfl rfl rfl rfl (Nat.le_refl _) (fun _ _=>rfl)
  ·rw [decide_eq_false_iff_not] at hge
   have hin:i=l.length:=by omega
   subst hin
   have hys2:ys=idxL L l:=hys.symm
   subst hys2
   obtain ⟨zs,hzp,hzm,hzu⟩:=srt_ex hnd
   refine call_intro (f:=51) (cr_sortK (ρ:=sortFin_ren) (C:=mkC Try.prog [] w rs26 R) (i:=10) (ty:=67) (g:=52) (k:=2) (cap:=none) (cl:=[]) (ys:=idxL L l) (zs:=zs) sortFin 0 (esF l) (ordI l) (by decide) (fun w=>by kernel_rfl) (fun w=>by kernel_rfl) rfl (by omega) (enters_of Try.func52 (by kernel_rfl) rfl) (swo_idx hnd) hzu (fun E a w' hs W hW x hx y hy=>?_)) (fun k hk=>by rw [List.mem_singleton] at hk;subst hk;exact Nat.lt_succ_self 10) ?_
   ·have hx1:=(idx_lt hx).1
    have hy1:=(idx_lt hy).1
    have hpos:0<(idxL L l).length:=List.length_pos_of_mem hx
    have W1:∀ k,k<l.length→Arr W eI 1 ((SC.sl (5,k,0) 1 0 (l.getD k sp0).s.words.length none).den E) (endF (l.getD k sp0).s).words:=fun k hk =>
     arr_ownW (d:=0) hs (5,k,0) (10,0,0) _ _ _ _ _ _ _ (by simp only [atN,look,Nat.reduceEqDiff,reduceIte,Fm.get,hk,and_self];rfl) (by simp only [atN,look,Nat.reduceEqDiff,reduceIte,Fm.get,and_self];rfl) (by simp) hpos rfl (Nat.le_refl _) (fun _ _=>rfl) hW
    have W2:∀ k,k<l.length→Arr W R4.enc 4 ((SC.sl (6,k,0) 4 0 (l.getD k sp0).s.regs.length none).den E) (endF (l.getD k sp0).s).regs:=fun k hk =>
     arr_ownW (d:=r40) hs (6,k,0) (10,0,0) _ _ _ _ _ _ _ (by simp only [atN,look,Nat.reduceEqDiff,reduceIte,Fm.get,hk,and_self];rfl) (by simp only [atN,look,Nat.reduceEqDiff,reduceIte,Fm.get,and_self];rfl) (by simp) hpos rfl (Nat.le_refl _) (fun _ _=>rfl) hW
    have X1:=W1 x hx1;have X2:=W2 x hx1;have Y1:=W1 y hy1;have Y2:=W2 y hy1
    clear W1 W2
    have hsh:=shp_idx hnd hx1 hy1
    obtain ⟨ba,c,e1,_⟩:=id X2
    obtain ⟨bb,c',e2,_⟩:=id Y2
    have hg:(#[Value.agg (List.map (SC.den E) (esF l x)).toArray,Value.agg (List.map (SC.den E) (esF l y)).toArray]++(SC.denL E []).toArray) = #[.agg #[(SC.sl (5,x,0) 1 0 (l.getD x sp0).s.words.length none).den E,.slice ba (endF (l.getD x sp0).s).regs.length c],.agg #[(SC.sl (5,y,0) 1 0 (l.getD y sp0).s.words.length none).den E,.slice bb (endF (l.getD y sp0).s).regs.length c']]:=by
     rw [← e1,← e2];simp [esF,SC.denL]
    rw [hg]
    rw [e1] at X2
    rw [e2] at Y2
    refine (orderW _ _ ba bb c c' _ _ W (endF (l.getD x sp0).s) (endF (l.getD y sp0).s) X1 Y1 X2 Y2 rfl rfl hsh.2).mono ?_
    rintro e w2 ⟨rfl,hb2⟩
    exact ⟨rfl,hb2.grow⟩
   simp (maxSteps:=2000000) only [go_sem,↓reduceIte,Nat.reduceLT,Nat.reduceLeDiff,Nat.reduceAdd,Nat.reduceSub,Nat.reduceMul,Nat.reduceEqDiff,reduceCtorEq,Int.reduceToNat,Int.reduceEq,Int.reduceBEq,Int.reduceBNe,Int.reduceLT,Int.reduceLE,Int.reduceNeg,Int.reduceAdd,Int.reduceSub,Int.reduceMul,Int.reduceGE,Int.reduceGT,endO]
   rw [← hR,hF]
   have hzl:zs.length=(finsL L (l.map (·.s))).length:=by rw [← hzm,List.length_map]
   refine ff_ret (zs:=zs) (l:=l) ?_ hzl (hzp.nodup_iff.2 (List.nodup_range.filter _)) (fun k hk=>(idx_lt (hzp.mem_iff.1 hk)).1) (fun k hk=>?_) rfl rfl rfl
   ·rw [← hzl,hzp.length_eq]
   ·have e1:zs.getD k 0=zs[k]:=by rw [List.getD_eq_getElem?_getD,List.getElem?_eq_getElem hk];rfl
    rw [e1,← hzm,List.getD_eq_getElem?_getD,List.getElem?_map,List.getElem?_eq_getElem hk]
    rfl
end Go.Proofs.Ytmcpdafmkkjlcaa.Z
namespace Go.Proofs.Ytmcpdafmkkjlcaa.Z
open Go Go.RowKit
theorem fn_eq_iff {a b:Fn}:a=b↔a.words=b.words∧a.regs=b.regs:=by
 cases a;cases b;simp
instance:DecidableEq Fn:=fun a b=>decidable_of_iff _ fn_eq_iff.symm
theorem lt_ownG {C:Ctx} {E:Env} {S:St} {a:Act} {w:World} (hs:Sat C.B C.W C.w0 E S a w) {L:Lt} (b:Nat) (h5:look S.own b=some (.one (.ar L.words.length 1 (ats eI L.words 0) 3))) (h6:look S.own (b+1)=some (.one (.ar L.thr.length 1 (thC (b+2) L) 80))) (h7:look S.own (b+2)=some (.fam L.thr.length (thO L))):LtR w ((SV.agg (twS b L)).den E) L :=
 ⟨(SC.sl (b,0,0) 1 0 L.words.length none).den E,(SC.sl (b+1,0,0) 1 0 L.thr.length none).den E,by simp [SV.den,twS],own_at (d:=0) hs b _ h5 rfl,nest_own (d:=in0) hs (b+1,0,0) (b+2) _ rfl (thC (b+2) L) (by simp [atN,h6,Fm.get];rfl) (fun _ _=>rfl) (fun k hk=>by simp [atN,h7,Fm.get,hk,thO];rfl)⟩
end Go.Proofs.Ytmcpdafmkkjlcaa.Z
namespace Go.Proofs.Ytmcpdafmkkjlcaa.Z
open Go Go.RowKit
def ir63:IR:=(.seq (.ops [⟨(some 4),(.new 83 [(.v (.int .i64 0)),(.v (.int .i64 0)),(.v (.int .i64 0)),(.v (.int .i64 0)),(.v (.int .i64 0)),(.v (.int .i64 0)),(.v (.int .i64 0))]),none⟩]) (.kill [2,3,5,6,7,8,9,10,11] (.seq (.ops [⟨(some 5),(.mv (.t 0)),none⟩,⟨(some 6),(.mv (.t 1)),none⟩,⟨(some 7),(.build [(.v (.int .i64 0)),(.v (.int .i64 0)),(.v (.int .i64 0)),(.v (.int .i64 0)),(.v (.int .i64 0)),(.v (.int .i64 0)),(.v (.int .i64 0))] [(0,(1,(.k (.c (.v (.int .i64 1)))))),(1,(1,(.t 5))),(2,(1,(.t 6)))]),none⟩,⟨none,(.st 7 (.t 4) (.t 7)),none⟩]) (.kill [0,1,5,6,7] .ret))))
def rs63:List RS:=[(.cell 4 true 7)]
def nt63:Nat:=8
def ir65:IR:=(.seq (.ops [⟨(some 4),(.new 83 [(.v (.int .i64 0)),(.v (.int .i64 0)),(.v (.int .i64 0)),(.v (.int .i64 0)),(.v (.int .i64 0)),(.v (.int .i64 0)),(.v (.int .i64 0))]),none⟩]) (.kill [2,3,5,6,7,8,9,10,11] (.seq (.ops [⟨(some 5),(.mv (.t 0)),none⟩,⟨(some 6),(.mv (.t 1)),none⟩,⟨(some 7),(.build [(.v (.int .i64 0)),(.v (.int .i64 0)),(.v (.int .i64 0)),(.v (.int .i64 0)),(.v (.int .i64 0)),(.v (.int .i64 0)),(.v (.int .i64 0))] [(0,(1,(.k (.c (.v (.int .i64 2)))))),(2,(1,(.t 5))),(3,(1,(.t 6))),(4,(1,(.k (.c (.v (.int .i64 (-1)))))))]),none⟩,⟨none,(.st 7 (.t 4) (.t 7)),none⟩]) (.kill [0,1,5,6,7] .ret))))
def rs65:List RS:=[(.cell 4 true 7)]
def nt65:Nat:=8
def ir64:IR:=(.seq (.ops [⟨(some 4),(.new 83 [(.v (.int .i64 0)),(.v (.int .i64 0)),(.v (.int .i64 0)),(.v (.int .i64 0)),(.v (.int .i64 0)),(.v (.int .i64 0)),(.v (.int .i64 0))]),none⟩]) (.kill [2,3,5,6,7,8,9,10,11] (.seq (.ops [⟨(some 5),(.mv (.t 0)),none⟩,⟨(some 6),(.mv (.t 1)),none⟩,⟨(some 7),(.build [(.v (.int .i64 0)),(.v (.int .i64 0)),(.v (.int .i64 0)),(.v (.int .i64 0)),(.v (.int .i64 0)),(.v (.int .i64 0)),(.v (.int .i64 0))] [(0,(1,(.k (.c (.v (.int .i64 7)))))),(1,(1,(.t 5))),(3,(1,(.t 6))),(6,(1,(.k (.c (.v (.int .i64 1))))))]),none⟩,⟨none,(.st 7 (.t 4) (.t 7)),none⟩]) (.kill [0,1,5,6,7] .ret))))
def rs64:List RS:=[(.cell 4 true 7)]
def nt64:Nat:=8
def ir67:IR:=(.seq (.ops [⟨(some 4),(.new 83 [(.v (.int .i64 0)),(.v (.int .i64 0)),(.v (.int .i64 0)),(.v (.int .i64 0)),(.v (.int .i64 0)),(.v (.int .i64 0)),(.v (.int .i64 0))]),none⟩]) (.kill [2,3,5,6,7,8,9,10,11] (.seq (.ops [⟨(some 5),(.mv (.t 0)),none⟩,⟨(some 6),(.mv (.t 1)),none⟩,⟨(some 7),(.build [(.v (.int .i64 0)),(.v (.int .i64 0)),(.v (.int .i64 0)),(.v (.int .i64 0)),(.v (.int .i64 0)),(.v (.int .i64 0)),(.v (.int .i64 0))] [(0,(1,(.k (.c (.v (.int .i64 1)))))),(1,(1,(.t 5))),(2,(1,(.t 6)))]),none⟩,⟨none,(.st 7 (.t 4) (.t 7)),none⟩]) (.kill [0,1,5,6,7] .ret))))
def rs67:List RS:=[(.cell 4 true 7)]
def nt67:Nat:=8
def ir66:IR:=(.seq (.ops [⟨(some 4),(.new 83 [(.v (.int .i64 0)),(.v (.int .i64 0)),(.v (.int .i64 0)),(.v (.int .i64 0)),(.v (.int .i64 0)),(.v (.int .i64 0)),(.v (.int .i64 0))]),none⟩]) (.kill [2,3,5,6,7,8,9,10,11] (.seq (.ops [⟨(some 5),(.mv (.t 0)),none⟩,⟨(some 6),(.mv (.t 1)),none⟩,⟨(some 7),(.build [(.v (.int .i64 0)),(.v (.int .i64 0)),(.v (.int .i64 0)),(.v (.int .i64 0)),(.v (.int .i64 0)),(.v (.int .i64 0)),(.v (.int .i64 0))] [(0,(1,(.k (.c (.v (.int .i64 2)))))),(2,(1,(.t 5))),(3,(1,(.t 6))),(4,(1,(.k (.c (.v (.int .i64 (-1)))))))]),none⟩,⟨none,(.st 7 (.t 4) (.t 7)),none⟩]) (.kill [0,1,5,6,7] .ret))))
def rs66:List RS:=[(.cell 4 true 7)]
def nt66:Nat:=8
def ir68:IR:=(.seq (.ops [⟨(some 0),(.new 83 [(.v (.int .i64 0)),(.v (.int .i64 0)),(.v (.int .i64 0)),(.v (.int .i64 0)),(.v (.int .i64 0)),(.v (.int .i64 0)),(.v (.int .i64 0))]),none⟩]) (.kill [1,2,3,4,5,6,7,8,9,10,11] (.seq (.ops [⟨(some 1),(.build [(.v (.int .i64 0)),(.v (.int .i64 0)),(.v (.int .i64 0)),(.v (.int .i64 0)),(.v (.int .i64 0)),(.v (.int .i64 0)),(.v (.int .i64 0))] [(0,(1,(.k (.c (.v (.int .i64 4))))))]),none⟩,⟨none,(.st 7 (.t 0) (.t 1)),none⟩]) (.kill [1] .ret))))
def rs68:List RS:=[(.cell 0 true 7)]
def nt68:Nat:=2
set_option maxRecDepth 100000 in
set_option maxHeartbeats 400000 in
theorem pload_calls (w:World) (r a:Int):Calls Try.prog 63 #[.int .i64 r,.int .i64 a] w (RetV w (.agg (cLd r a).enc.toArray)):=by
 refine enter0 (A:=[]) (c:=ir63) (rs:=rs63) (nt:=nt63) [.c (.v (.int .i64 r)),.c (.v (.int .i64 a))] #[.int .i64 r,.int .i64 a] Try.func63 rfl (by kernel_rfl) (by kernel_rfl) rfl (fun E'=>by simp [SV.den,SC.den]) (of_decide_eq_true rfl) ?_
 simp (maxSteps:=2000000) only [ir63,nt63,rs63,go_sem,↓reduceIte,Nat.reduceLT,Nat.reduceLeDiff,Nat.reduceAdd,Nat.reduceSub,Nat.reduceMul,Nat.reduceEqDiff,reduceCtorEq,Int.reduceToNat,Int.reduceEq,Int.reduceBEq,Int.reduceBNe,Int.reduceLT,Int.reduceLE,Int.reduceNeg,Int.reduceAdd,Int.reduceSub,Int.reduceMul,Int.reduceGE,Int.reduceGT,endO]
 exact retV fun E=>by simp [SV.den,SC.den,cLd,Ins.enc]
set_option maxRecDepth 100000 in
set_option maxHeartbeats 400000 in
theorem pstore_calls (w:World) (a v:Int):Calls Try.prog 65 #[.int .i64 a,.int .i64 v] w (RetV w (.agg (cSt a v).enc.toArray)):=by
 refine enter0 (A:=[]) (c:=ir65) (rs:=rs65) (nt:=nt65) [.c (.v (.int .i64 a)),.c (.v (.int .i64 v))] #[.int .i64 a,.int .i64 v] Try.func65 rfl (by kernel_rfl) (by kernel_rfl) rfl (fun E'=>by simp [SV.den,SC.den]) (of_decide_eq_true rfl) ?_
 simp (maxSteps:=2000000) only [ir65,nt65,rs65,go_sem,↓reduceIte,Nat.reduceLT,Nat.reduceLeDiff,Nat.reduceAdd,Nat.reduceSub,Nat.reduceMul,Nat.reduceEqDiff,reduceCtorEq,Int.reduceToNat,Int.reduceEq,Int.reduceBEq,Int.reduceBNe,Int.reduceLT,Int.reduceLE,Int.reduceNeg,Int.reduceAdd,Int.reduceSub,Int.reduceMul,Int.reduceGE,Int.reduceGT,endO]
 exact retV fun E=>by simp [SV.den,SC.den,cSt,Ins.enc]
set_option maxRecDepth 100000 in
set_option maxHeartbeats 400000 in
theorem pskip_calls (w:World) (r v:Int):Calls Try.prog 64 #[.int .i64 r,.int .i64 v] w (RetV w (.agg (cSk r v).enc.toArray)):=by
 refine enter0 (A:=[]) (c:=ir64) (rs:=rs64) (nt:=nt64) [.c (.v (.int .i64 r)),.c (.v (.int .i64 v))] #[.int .i64 r,.int .i64 v] Try.func64 rfl (by kernel_rfl) (by kernel_rfl) rfl (fun E'=>by simp [SV.den,SC.den]) (of_decide_eq_true rfl) ?_
 simp (maxSteps:=2000000) only [ir64,nt64,rs64,go_sem,↓reduceIte,Nat.reduceLT,Nat.reduceLeDiff,Nat.reduceAdd,Nat.reduceSub,Nat.reduceMul,Nat.reduceEqDiff,reduceCtorEq,Int.reduceToNat,Int.reduceEq,Int.reduceBEq,Int.reduceBNe,Int.reduceLT,Int.reduceLE,Int.reduceNeg,Int.reduceAdd,Int.reduceSub,Int.reduceMul,Int.reduceGE,Int.reduceGT,endO]
 exact retV fun E=>by simp [SV.den,SC.den,cSk,Ins.enc]
set_option maxRecDepth 100000 in
set_option maxHeartbeats 400000 in
theorem rload_calls (w:World) (r a:Int):Calls Try.prog 67 #[.int .i64 r,.int .i64 a] w (RetV w (.agg (cLd r a).enc.toArray)):=by
 refine enter0 (A:=[]) (c:=ir67) (rs:=rs67) (nt:=nt67) [.c (.v (.int .i64 r)),.c (.v (.int .i64 a))] #[.int .i64 r,.int .i64 a] Try.func67 rfl (by kernel_rfl) (by kernel_rfl) rfl (fun E'=>by simp [SV.den,SC.den]) (of_decide_eq_true rfl) ?_
 simp (maxSteps:=2000000) only [ir67,nt67,rs67,go_sem,↓reduceIte,Nat.reduceLT,Nat.reduceLeDiff,Nat.reduceAdd,Nat.reduceSub,Nat.reduceMul,Nat.reduceEqDiff,reduceCtorEq,Int.reduceToNat,Int.reduceEq,Int.reduceBEq,Int.reduceBNe,Int.reduceLT,Int.reduceLE,Int.reduceNeg,Int.reduceAdd,Int.reduceSub,Int.reduceMul,Int.reduceGE,Int.reduceGT,endO]
 exact retV fun E=>by simp [SV.den,SC.den,cLd,Ins.enc]
set_option maxRecDepth 100000 in
set_option maxHeartbeats 400000 in
theorem rstore_calls (w:World) (a v:Int):Calls Try.prog 66 #[.int .i64 a,.int .i64 v] w (RetV w (.agg (cSt a v).enc.toArray)):=by
 refine enter0 (A:=[]) (c:=ir66) (rs:=rs66) (nt:=nt66) [.c (.v (.int .i64 a)),.c (.v (.int .i64 v))] #[.int .i64 a,.int .i64 v] Try.func66 rfl (by kernel_rfl) (by kernel_rfl) rfl (fun E'=>by simp [SV.den,SC.den]) (of_decide_eq_true rfl) ?_
 simp (maxSteps:=2000000) only [ir66,nt66,rs66,go_sem,↓reduceIte,Nat.reduceLT,Nat.reduceLeDiff,Nat.reduceAdd,Nat.reduceSub,Nat.reduceMul,Nat.reduceEqDiff,reduceCtorEq,Int.reduceToNat,Int.reduceEq,Int.reduceBEq,Int.reduceBNe,Int.reduceLT,Int.reduceLE,Int.reduceNeg,Int.reduceAdd,Int.reduceSub,Int.reduceMul,Int.reduceGE,Int.reduceGT,endO]
 exact retV fun E=>by simp [SV.den,SC.den,cSt,Ins.enc]
set_option maxRecDepth 100000 in
set_option maxHeartbeats 400000 in
theorem rfence_calls (w:World):Calls Try.prog 68 #[] w (RetV w (.agg cFe.enc.toArray)):=by
 refine enter0 (A:=[]) (c:=ir68) (rs:=rs68) (nt:=nt68) [] #[] Try.func68 rfl (by kernel_rfl) (by kernel_rfl) rfl (fun E'=>rfl) (of_decide_eq_true rfl) ?_
 simp (maxSteps:=2000000) only [ir68,nt68,rs68,go_sem,↓reduceIte,Nat.reduceLT,Nat.reduceLeDiff,Nat.reduceAdd,Nat.reduceSub,Nat.reduceMul,Nat.reduceEqDiff,reduceCtorEq,Int.reduceToNat,Int.reduceEq,Int.reduceBEq,Int.reduceBNe,Int.reduceLT,Int.reduceLE,Int.reduceNeg,Int.reduceAdd,Int.reduceSub,Int.reduceMul,Int.reduceGE,Int.reduceGT,endO]
 exact retV fun E=>by simp [SV.den,SC.den,cFe,Ins.enc]
theorem retNs {P:Program} {A:List Nat} {w:World} {rs:List RS} {nx:Nat} {T:Nat→SV} {O:Nat→Own} {v:SV} {S:St} (σ:Nat→Nm→Nm) (hv:∀ b,v=(T b).ren (σ b)∧(T b).okN (NewIds b nx))
  (ho:∀ b,OwnLe (NewIds b nx) (σ b) S.own (O b)) (hi:∀ b,InjN (σ b) (O b)):RetVC (mkC P A w rs (RetN w nx T O)) v S:=by
 intro E a w' hs
 have hs:=hs.sat
 refine ⟨_,rfl,below_of hs,fun b=>⟨E.via (σ b),fun x=>hs.one _,fun E2 hE2=>?_⟩⟩
 have hR:∀ x:Nm,NewIds b nx x.1→SameR (σ b) E E2 x:=fun x hx=>hE2 x hx
 obtain ⟨H,hH,_⟩:=hs.mem
 have hat:∀ x c,atN (O b) x=some c→NewIds b nx x.1∧∃ d,atN S.own (σ b x)=some d∧BlkLe (NewIds b nx) (σ b) d c:=fun x c hx=>ownLe_at (ho b) hx
 refine ⟨?_,fun x=>H (σ b x),?_,?_,?_⟩
 ·rw [sv_ren hR _ (hv b).2,← (hv b).1]
 ·intro x c hx
  obtain ⟨h1,d,h2,h3⟩:=hat x c hx
  exact blk_le hR h1 h3 (hH.den _ _ h2)
 ·intro x y c d hx hy hne n
  obtain ⟨_,c',h2,_⟩:=hat x c hx
  obtain ⟨_,d',g2,_⟩:=hat y d hy
  exact hH.disj _ _ c' d' h2 g2 (fun e=>hne (hi b x y c d hx hy e)) n
 ·intro x c hx n o hn
  obtain ⟨_,c',h2,_⟩:=hat x c hx
  obtain ⟨h3,h4⟩:=hH.sub _ c' h2 n o hn
  refine ⟨h3,?_⟩
  rcases h4 with h4 | h4
  ·exact h4
  ·exact h4.elim
theorem lt1 {p:Nat→Prop} (h0:p 0):∀ e,e<1→p e:=fun e he=>(show e=0 by omega) ▸ h0
theorem lt2 {p:Nat→Prop} (h0:p 0) (h1:p 1):∀ e,e<2→p e:=fun e he=>by
 rcases (show e=0∨e=1 by omega) with rfl | rfl <;> assumption
theorem lt3 {p:Nat→Prop} (h0:p 0) (h1:p 1) (h2:p 2):∀ e,e<3→p e:=fun e he=>by
 rcases (show e=0∨e=1∨e=2 by omega) with rfl | rfl | rfl <;> assumption
theorem lt4 {p:Nat→Prop} (h0:p 0) (h1:p 1) (h2:p 2) (h3:p 3):∀ e,e<4→p e:=fun e he=>by
 rcases (show e=0∨e=1∨e=2∨e=3 by omega) with rfl | rfl | rfl | rfl <;> assumption
theorem lt5 {p:Nat→Prop} (h0:p 0) (h1:p 1) (h2:p 2) (h3:p 3) (h4:p 4):∀ e,e<5→p e:=fun e he=>by
 rcases (show e=0∨e=1∨e=2∨e=3∨e=4 by omega) with rfl | rfl | rfl | rfl | rfl <;> assumption
def ltσ (wd th:Nat) (ids:List Nat) (b:Nat) (x:Nm):Nm:=if x.1=b then (wd,x.2) else if x.1=b+1 then (th,x.2) else if x.1=b+2 then (ids.getD x.2.1 0,0,0) else x
theorem tw_at {b:Nat} {F:Lt} {x:Nm} {c:Blk} (h:atN (twO b F) x=some c):x=(b,0,0)∨x=(b+1,0,0)∨∃ k,k<F.thr.length∧x=(b+2,k,0):=by
 obtain ⟨x1,x2,x3⟩:=x
 by_cases h1:b=x1
 ·subst h1
  simp [atN,twO,look,Fm.get] at h
  exact Or.inl (by rw [h.1.1,h.1.2])
 ·by_cases h2:b+1=x1
  ·subst h2
   simp [atN,twO,look,Fm.get] at h
   exact Or.inr (Or.inl (by rw [h.1.1,h.1.2]))
  ·by_cases h3:b+2=x1
   ·subst h3
    simp [atN,twO,look,Fm.get] at h
    exact Or.inr (Or.inr ⟨x2,h.1.1,by rw [h.1.2]⟩)
   ·simp [atN,twO,look,Fm.get,h1,h2,h3] at h
theorem ret_lt {P:Program} {A:List Nat} {w:World} {rs:List RS} {F:Lt} {T:Nat→SV} {v:SV} {S:St} (wd th:Nat) (ids:List Nat) {mw mt:Nat} {atw att:Nat→List SC}
  (hv:∀ b,v=(T b).ren (ltσ wd th ids b)∧(T b).okN (NewIds b 3))
  (h0:look S.own wd=some (.one (.ar mw 1 atw 3))) (hw:F.words.length≤mw∧∀ e,e<F.words.length→atw e=ats eI F.words 0 e)
  (h1:look S.own th=some (.one (.ar mt 1 att 80))) (ht:F.thr.length≤mt∧∀ e,e<F.thr.length→att e=[.sl (ids.getD e 0,0,0) 7 0 (F.thr.getD e []).length none])
  (hi:∀ k,k<F.thr.length→∃ m at_,look S.own (ids.getD k 0)=some (.one (.ar m 7 at_ 83))∧(F.thr.getD k []).length≤m∧∀ e,e<(F.thr.getD k []).length→at_ e=ats Ins.enc (F.thr.getD k []) in0 e)
  (hn:wd≠th∧∀ k,k<F.thr.length→ids.getD k 0≠wd∧ids.getD k 0≠th∧∀ j,j<F.thr.length→ids.getD k 0=ids.getD j 0→k=j):RetVC (mkC P A w rs (RetN w 3 T (fun b=>twO b F))) v S:=by
 have s0:∀ b,ltσ wd th ids b (b,0,0)=(wd,0,0):=fun b=>by simp [ltσ]
 have s1:∀ b,ltσ wd th ids b (b+1,0,0)=(th,0,0):=fun b=>by simp [ltσ]
 have s2:∀ b k,ltσ wd th ids b (b+2,k,0)=(ids.getD k 0,0,0):=fun b k=>by simp [ltσ]
 refine retNs (ltσ wd th ids) hv (fun b=>?_) (fun b=>?_)
 ·refine ⟨⟨⟨by omega,by omega⟩,?_⟩,⟨⟨by omega,by omega⟩,?_⟩,⟨⟨by omega,by omega⟩,fun k hk=>?_⟩,trivial⟩
  ·rw [s0];simp only [atN,h0,Fm.get,and_self,if_true];exact arLe_of hw.1 hw.2
  ·rw [s1];simp only [atN,h1,Fm.get,and_self,if_true]
   exact ⟨ht.1,rfl,rfl,fun e he=>⟨by rw [ht.2 e he];simp only [thC,SC.renL,SC.ren,s2],by simp [thC,SC.okL,SC.okN,NewIds]⟩⟩
  ·obtain ⟨m,at_,g1,g2,g3⟩:=hi k hk
   rw [s2];simp only [atN,g1,Fm.get,and_self,if_true];exact arLe_of g2 g3
 ·intro x y c d hx hy e
  rcases tw_at hx with rfl | rfl | ⟨k,hk,rfl⟩ <;> rcases tw_at hy with rfl | rfl | ⟨j,hj,rfl⟩ <;> simp only [s0,s1,s2,Prod.mk.injEq,and_true] at e
  ·rfl
  ·exact absurd e hn.1
  ·exact absurd e.symm (hn.2 j hj).1
  ·exact absurd e.symm hn.1
  ·rfl
  ·exact absurd e.symm (hn.2 j hj).2.1
  ·exact absurd e (hn.2 k hk).1
  ·exact absurd e (hn.2 k hk).2.1
  ·rw [(hn.2 k hk).2.2 j hj e]
end Go.Proofs.Ytmcpdafmkkjlcaa.Z
namespace Go.Proofs.Ytmcpdafmkkjlcaa.Z
open Go Go.RowKit
def ir69:IR:=(.seq (.ops [⟨(some 2),(.new 25 [(.v (.slice none 0 0)),(.v (.slice none 0 0))]),none⟩]) (.kill [1,3,4,5,6,7,8,9,10,11] (.seq (.ops [⟨(some 5),(.call 66 [(.k (.c (.v (.int .i64 1)))),(.k (.c (.v (.int .i64 1))))]),none⟩,⟨(some 6),(.mkSl 83 1 7 [(.v (.int .i64 0)),(.v (.int .i64 0)),(.v (.int .i64 0)),(.v (.int .i64 0)),(.v (.int .i64 0)),(.v (.int .i64 0)),(.v (.int .i64 0))] [(0,(7,(.t 5)))]),none⟩,⟨(some 3),(.mv (.t 6)),none⟩]) (.kill [5,6] (.seq (.seq (.ops [⟨(some 7),(.mv (.t 0)),none⟩]) (.kill [0] (.cond (.t 7) (.ops [⟨(some 8),(.mv (.t 3)),none⟩,⟨(some 9),(.call 68 []),none⟩,⟨(some 10),(.mkSl 83 1 7 [(.v (.int .i64 0)),(.v (.int .i64 0)),(.v (.int .i64 0)),(.v (.int .i64 0)),(.v (.int .i64 0)),(.v (.int .i64 0)),(.v (.int .i64 0))] [(0,(7,(.t 9)))]),none⟩,⟨(some 11),(.app 83 7 56 [(.v (.int .i64 0)),(.v (.int .i64 0)),(.v (.int .i64 0)),(.v (.int .i64 0)),(.v (.int .i64 0)),(.v (.int .i64 0)),(.v (.int .i64 0))] (.t 8) (.t 10)),none⟩,⟨(some 3),(.mv (.t 11)),none⟩]) .skip))) (.kill [7,8,9,10,11] (.seq (.ops [⟨(some 12),(.mv (.t 3)),none⟩,⟨(some 13),(.call 67 [(.k (.c (.v (.int .i64 0)))),(.k (.c (.v (.int .i64 0))))]),none⟩,⟨(some 14),(.build [(.v (.int .i64 0)),(.v (.int .i64 0)),(.v (.int .i64 0)),(.v (.int .i64 0)),(.v (.int .i64 0)),(.v (.int .i64 0)),(.v (.int .i64 0))] [(0,(1,(.k (.c (.v (.int .i64 7)))))),(6,(1,(.k (.c (.v (.int .i64 1))))))]),none⟩,⟨(some 15),(.call 67 [(.k (.c (.v (.int .i64 1)))),(.k (.c (.v (.int .i64 2))))]),none⟩,⟨(some 16),(.mkSl 83 3 7 [(.v (.int .i64 0)),(.v (.int .i64 0)),(.v (.int .i64 0)),(.v (.int .i64 0)),(.v (.int .i64 0)),(.v (.int .i64 0)),(.v (.int .i64 0)),(.v (.int .i64 0)),(.v (.int .i64 0)),(.v (.int .i64 0)),(.v (.int .i64 0)),(.v (.int .i64 0)),(.v (.int .i64 0)),(.v (.int .i64 0)),(.v (.int .i64 0)),(.v (.int .i64 0)),(.v (.int .i64 0)),(.v (.int .i64 0)),(.v (.int .i64 0)),(.v (.int .i64 0)),(.v (.int .i64 0))] [(0,(7,(.t 13))),(7,(7,(.t 14))),(14,(7,(.t 15)))]),none⟩,⟨(some 17),(.app 83 7 56 [(.v (.int .i64 0)),(.v (.int .i64 0)),(.v (.int .i64 0)),(.v (.int .i64 0)),(.v (.int .i64 0)),(.v (.int .i64 0)),(.v (.int .i64 0))] (.t 12) (.t 16)),none⟩,⟨(some 3),(.mv (.t 17)),none⟩]) (.kill [12,13,14,15,16,17] (.seq (.ops [⟨(some 18),(.build [(.v (.int .i64 0)),(.v (.int .i64 0)),(.v (.int .i64 0)),(.v (.int .i64 0)),(.v (.int .i64 0)),(.v (.int .i64 0)),(.v (.int .i64 0))] [(0,(1,(.k (.c (.v (.int .i64 3)))))),(2,(1,(.k (.c (.v (.int .i64 0)))))),(5,(1,(.k (.c (.v (.int .i64 1))))))]),none⟩,⟨(some 19),(.call 67 [(.k (.c (.v (.int .i64 1)))),(.k (.c (.v (.int .i64 1))))]),none⟩,⟨(some 20),(.build [(.v (.int .i64 0)),(.v (.int .i64 0)),(.v (.int .i64 0)),(.v (.int .i64 0)),(.v (.int .i64 0)),(.v (.int .i64 0)),(.v (.int .i64 0))] [(0,(1,(.k (.c (.v (.int .i64 7)))))),(1,(1,(.k (.c (.v (.int .i64 1)))))),(3,(1,(.k (.c (.v (.int .i64 1)))))),(6,(1,(.k (.c (.v (.int .i64 1))))))]),none⟩,⟨(some 21),(.call 66 [(.k (.c (.v (.int .i64 2)))),(.k (.c (.v (.int .i64 (-1)))))]),none⟩,⟨(some 22),(.mkSl 83 4 7 [(.v (.int .i64 0)),(.v (.int .i64 0)),(.v (.int .i64 0)),(.v (.int .i64 0)),(.v (.int .i64 0)),(.v (.int .i64 0)),(.v (.int .i64 0)),(.v (.int .i64 0)),(.v (.int .i64 0)),(.v (.int .i64 0)),(.v (.int .i64 0)),(.v (.int .i64 0)),(.v (.int .i64 0)),(.v (.int .i64 0)),(.v (.int .i64 0)),(.v (.int .i64 0)),(.v (.int .i64 0)),(.v (.int .i64 0)),(.v (.int .i64 0)),(.v (.int .i64 0)),(.v (.int .i64 0)),(.v (.int .i64 0)),(.v (.int .i64 0)),(.v (.int .i64 0)),(.v (.int .i64 0)),(.v (.int .i64 0)),(.v (.int .i64 0)),(.v (.int .i64 0))] [(0,(7,(.t 18))),(7,(7,(.t 19))),(14,(7,(.t 20))),(21,(7,(.t 21)))]),none⟩,⟨(some 4),(.mv (.t 22)),none⟩]) (.kill [18,19,20,21,22] (.seq (.ops [⟨(some 23),(.mkSl 3 3 1 [(.v (.int .i64 0)),(.v (.int .i64 0)),(.v (.int .i64 0))] [(0,(1,(.k (.c (.v (.int .i64 1)))))),(1,(1,(.k (.c (.v (.int .i64 0)))))),(2,(1,(.k (.c (.v (.int .i64 7))))))]),none⟩,⟨(some 24),(.mv (.t 3)),none⟩,⟨(some 25),(.mv (.t 4)),none⟩,⟨(some 26),(.mkSl 80 2 1 [(.v (.slice none 0 0)),(.v (.slice none 0 0))] [(0,(1,(.t 24))),(1,(1,(.t 25)))]),none⟩,⟨(some 27),(.build [(.v (.slice none 0 0)),(.v (.slice none 0 0))] [(0,(1,(.t 23))),(1,(1,(.t 26)))]),none⟩,⟨none,(.st 2 (.t 2) (.t 27)),none⟩]) (.kill [3,4,23,24,25,26,27] .ret))))))))))))
def rs69:List RS:=[(.cell 2 true 2)]
def nt69:Nat:=28
set_option maxRecDepth 100000 in
set_option maxHeartbeats 1000000 in
theorem rprotect_no (w:World):Calls Try.prog 69 #[.bool false] w (RetN w 3 (fun b=>.agg (twS b (clL 8))) (fun b=>twO b (clL 8))):=by
 refine enter0 (A:=[]) (c:=ir69) (rs:=rs69) (nt:=nt69) [.c (.v (.bool false))] #[.bool false] Try.func69 rfl (by kernel_rfl) (by kernel_rfl) rfl (fun E'=>by simp [SV.den,SC.den]) (of_decide_eq_true rfl) ?_
 simp (maxSteps:=2000000) only [ir69,nt69,rs69,go_sem,↓reduceIte,Nat.reduceLT,Nat.reduceLeDiff,Nat.reduceAdd,Nat.reduceSub,Nat.reduceMul,Nat.reduceEqDiff,reduceCtorEq,Int.reduceToNat,Int.reduceEq,Int.reduceBEq,Int.reduceBNe,Int.reduceLT,Int.reduceLE,Int.reduceNeg,Int.reduceAdd,Int.reduceSub,Int.reduceMul,Int.reduceGE,Int.reduceGT,endO]
 refine callV (.agg ((cSt 1 1).enc.map .v)) _ (fun E=>rfl) (fun E a w' hs=>rstore_calls w' 1 1) ?_
 simp (maxSteps:=2000000) only [go_sem,↓reduceIte,Nat.reduceLT,Nat.reduceLeDiff,Nat.reduceAdd,Nat.reduceSub,Nat.reduceMul,Nat.reduceEqDiff,reduceCtorEq,Int.reduceToNat,Int.reduceEq,Int.reduceBEq,Int.reduceBNe,Int.reduceLT,Int.reduceLE,Int.reduceNeg,Int.reduceAdd,Int.reduceSub,Int.reduceMul,Int.reduceGE,Int.reduceGT,endO,cSt,Ins.enc]
 refine And.intro (by decide) ?_
 refine callV (.agg ((cLd 0 0).enc.map .v)) _ (fun E=>rfl) (fun E a w' hs=>rload_calls w' 0 0) ?_
 simp (maxSteps:=2000000) only [go_sem,↓reduceIte,Nat.reduceLT,Nat.reduceLeDiff,Nat.reduceAdd,Nat.reduceSub,Nat.reduceMul,Nat.reduceEqDiff,reduceCtorEq,Int.reduceToNat,Int.reduceEq,Int.reduceBEq,Int.reduceBNe,Int.reduceLT,Int.reduceLE,Int.reduceNeg,Int.reduceAdd,Int.reduceSub,Int.reduceMul,Int.reduceGE,Int.reduceGT,endO,cLd,Ins.enc]
 refine callV (.agg ((cLd 1 2).enc.map .v)) _ (fun E=>rfl) (fun E a w' hs=>rload_calls w' 1 2) ?_
 simp (maxSteps:=2000000) only [go_sem,↓reduceIte,Nat.reduceLT,Nat.reduceLeDiff,Nat.reduceAdd,Nat.reduceSub,Nat.reduceMul,Nat.reduceEqDiff,reduceCtorEq,Int.reduceToNat,Int.reduceEq,Int.reduceBEq,Int.reduceBNe,Int.reduceLT,Int.reduceLE,Int.reduceNeg,Int.reduceAdd,Int.reduceSub,Int.reduceMul,Int.reduceGE,Int.reduceGT,endO,cLd,Ins.enc]
 refine And.intro (by decide) (And.intro (by decide) ?_)
 refine callV (.agg ((cLd 1 1).enc.map .v)) _ (fun E=>rfl) (fun E a w' hs=>rload_calls w' 1 1) ?_
 simp (maxSteps:=2000000) only [go_sem,↓reduceIte,Nat.reduceLT,Nat.reduceLeDiff,Nat.reduceAdd,Nat.reduceSub,Nat.reduceMul,Nat.reduceEqDiff,reduceCtorEq,Int.reduceToNat,Int.reduceEq,Int.reduceBEq,Int.reduceBNe,Int.reduceLT,Int.reduceLE,Int.reduceNeg,Int.reduceAdd,Int.reduceSub,Int.reduceMul,Int.reduceGE,Int.reduceGT,endO,cLd,Ins.enc]
 refine callV (.agg ((cSt 2 (-1)).enc.map .v)) _ (fun E=>rfl) (fun E a w' hs=>rstore_calls w' 2 (-1)) ?_
 simp (maxSteps:=2000000) only [go_sem,↓reduceIte,Nat.reduceLT,Nat.reduceLeDiff,Nat.reduceAdd,Nat.reduceSub,Nat.reduceMul,Nat.reduceEqDiff,reduceCtorEq,Int.reduceToNat,Int.reduceEq,Int.reduceBEq,Int.reduceBNe,Int.reduceLT,Int.reduceLE,Int.reduceNeg,Int.reduceAdd,Int.reduceSub,Int.reduceMul,Int.reduceGE,Int.reduceGT,endO,cSt,Ins.enc]
 refine And.intro (by decide) (And.intro (by decide) (And.intro (by decide) ?_))
 exact ret_lt 5 6 [3,4] (fun b=>⟨by simp [twS,clL,clT,SV.ren,SC.renL,SC.ren,ltσ],by simp [twS,SV.okN,SC.okL,SC.okN,NewIds]⟩) rfl ⟨by decide,lt3 rfl rfl rfl⟩ rfl ⟨by decide,lt2 rfl rfl⟩
  (lt2 ⟨4,_,rfl,by decide,lt4 rfl rfl rfl rfl⟩ ⟨4,_,rfl,by decide,lt4 rfl rfl rfl rfl⟩) ⟨by decide,by decide⟩
set_option maxRecDepth 100000 in
set_option maxHeartbeats 1000000 in
theorem rprotect_yes (w:World):Calls Try.prog 69 #[.bool true] w (RetN w 3 (fun b=>.agg (twS b (clL 9))) (fun b=>twO b (clL 9))):=by
 refine enter0 (A:=[]) (c:=ir69) (rs:=rs69) (nt:=nt69) [.c (.v (.bool true))] #[.bool true] Try.func69 rfl (by kernel_rfl) (by kernel_rfl) rfl (fun E'=>by simp [SV.den,SC.den]) (of_decide_eq_true rfl) ?_
 simp (maxSteps:=2000000) only [ir69,nt69,rs69,go_sem,↓reduceIte,Nat.reduceLT,Nat.reduceLeDiff,Nat.reduceAdd,Nat.reduceSub,Nat.reduceMul,Nat.reduceEqDiff,reduceCtorEq,Int.reduceToNat,Int.reduceEq,Int.reduceBEq,Int.reduceBNe,Int.reduceLT,Int.reduceLE,Int.reduceNeg,Int.reduceAdd,Int.reduceSub,Int.reduceMul,Int.reduceGE,Int.reduceGT,endO]
 refine callV (.agg ((cSt 1 1).enc.map .v)) _ (fun E=>rfl) (fun E a w' hs=>rstore_calls w' 1 1) ?_
 simp (maxSteps:=2000000) only [go_sem,↓reduceIte,Nat.reduceLT,Nat.reduceLeDiff,Nat.reduceAdd,Nat.reduceSub,Nat.reduceMul,Nat.reduceEqDiff,reduceCtorEq,Int.reduceToNat,Int.reduceEq,Int.reduceBEq,Int.reduceBNe,Int.reduceLT,Int.reduceLE,Int.reduceNeg,Int.reduceAdd,Int.reduceSub,Int.reduceMul,Int.reduceGE,Int.reduceGT,endO,cSt,Ins.enc]
 refine And.intro (by decide) ?_
 refine callV (.agg (cFe.enc.map .v)) _ (fun E=>rfl) (fun E a w' hs=>rfence_calls w') ?_
 simp (maxSteps:=2000000) only [go_sem,↓reduceIte,Nat.reduceLT,Nat.reduceLeDiff,Nat.reduceAdd,Nat.reduceSub,Nat.reduceMul,Nat.reduceEqDiff,reduceCtorEq,Int.reduceToNat,Int.reduceEq,Int.reduceBEq,Int.reduceBNe,Int.reduceLT,Int.reduceLE,Int.reduceNeg,Int.reduceAdd,Int.reduceSub,Int.reduceMul,Int.reduceGE,Int.reduceGT,endO,cFe,Ins.enc]
 refine And.intro (by decide) (And.intro (by decide) ?_)
 refine callV (.agg ((cLd 0 0).enc.map .v)) _ (fun E=>rfl) (fun E a w' hs=>rload_calls w' 0 0) ?_
 simp (maxSteps:=2000000) only [go_sem,↓reduceIte,Nat.reduceLT,Nat.reduceLeDiff,Nat.reduceAdd,Nat.reduceSub,Nat.reduceMul,Nat.reduceEqDiff,reduceCtorEq,Int.reduceToNat,Int.reduceEq,Int.reduceBEq,Int.reduceBNe,Int.reduceLT,Int.reduceLE,Int.reduceNeg,Int.reduceAdd,Int.reduceSub,Int.reduceMul,Int.reduceGE,Int.reduceGT,endO,cLd,Ins.enc]
 refine callV (.agg ((cLd 1 2).enc.map .v)) _ (fun E=>rfl) (fun E a w' hs=>rload_calls w' 1 2) ?_
 simp (maxSteps:=2000000) only [go_sem,↓reduceIte,Nat.reduceLT,Nat.reduceLeDiff,Nat.reduceAdd,Nat.reduceSub,Nat.reduceMul,Nat.reduceEqDiff,reduceCtorEq,Int.reduceToNat,Int.reduceEq,Int.reduceBEq,Int.reduceBNe,Int.reduceLT,Int.reduceLE,Int.reduceNeg,Int.reduceAdd,Int.reduceSub,Int.reduceMul,Int.reduceGE,Int.reduceGT,endO,cLd,Ins.enc]
 refine And.intro (by decide) (And.intro (by decide) ?_)
 refine callV (.agg ((cLd 1 1).enc.map .v)) _ (fun E=>rfl) (fun E a w' hs=>rload_calls w' 1 1) ?_
 simp (maxSteps:=2000000) only [go_sem,↓reduceIte,Nat.reduceLT,Nat.reduceLeDiff,Nat.reduceAdd,Nat.reduceSub,Nat.reduceMul,Nat.reduceEqDiff,reduceCtorEq,Int.reduceToNat,Int.reduceEq,Int.reduceBEq,Int.reduceBNe,Int.reduceLT,Int.reduceLE,Int.reduceNeg,Int.reduceAdd,Int.reduceSub,Int.reduceMul,Int.reduceGE,Int.reduceGT,endO,cLd,Ins.enc]
 refine callV (.agg ((cSt 2 (-1)).enc.map .v)) _ (fun E=>rfl) (fun E a w' hs=>rstore_calls w' 2 (-1)) ?_
 simp (maxSteps:=2000000) only [go_sem,↓reduceIte,Nat.reduceLT,Nat.reduceLeDiff,Nat.reduceAdd,Nat.reduceSub,Nat.reduceMul,Nat.reduceEqDiff,reduceCtorEq,Int.reduceToNat,Int.reduceEq,Int.reduceBEq,Int.reduceBNe,Int.reduceLT,Int.reduceLE,Int.reduceNeg,Int.reduceAdd,Int.reduceSub,Int.reduceMul,Int.reduceGE,Int.reduceGT,endO,cSt,Ins.enc]
 refine And.intro (by decide) (And.intro (by decide) (And.intro (by decide) ?_))
 exact ret_lt 7 8 [5,6] (fun b=>⟨by simp [twS,clL,clT,SV.ren,SC.renL,SC.ren,ltσ],by simp [twS,SV.okN,SC.okL,SC.okN,NewIds]⟩) rfl ⟨by decide,lt3 rfl rfl rfl⟩ rfl ⟨by decide,lt2 rfl rfl⟩
  (lt2 ⟨5,_,rfl,by decide,lt5 rfl rfl rfl rfl rfl⟩ ⟨4,_,rfl,by decide,lt4 rfl rfl rfl rfl⟩) ⟨by decide,by decide⟩
end Go.Proofs.Ytmcpdafmkkjlcaa.Z
