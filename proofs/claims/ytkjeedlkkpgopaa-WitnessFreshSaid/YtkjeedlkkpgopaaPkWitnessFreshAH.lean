/- WitnessFreshSaid: what its proof is made of. No condition. -/
import Derived.Test.YtkjeedlkkpgopaaPkWitnessFreshAG
set_option linter.unusedSimpArgs false
set_option linter.unusedVariables false
namespace Go.Proofs.Ytkjeedlkkpgopaa
open Go.RowKit
def OwnD (w:World) (base:Nat) (v:Value) (m:MC):Prop :=
 ∃ a b c d e,v = .agg #[a,b,c,d,e]∧OwnE w base 3 eI 1 a m.cell∧OwnE w base 3 eI 1 b m.stack∧OwnE w base 3 eI 1 c m.queue∧OwnE w base 3 eI 1 d m.set∧OwnE w base 98 eP 2 e m.table
theorem OwnD.base {w:World} {base base' : Nat} {v:Value} {m:MC} (h:OwnD w base v m) (hb:base'≤base):OwnD w base' v m:=by
 obtain ⟨a,b,c,d,e,rfl,h1,h2,h3,h4,h5⟩:=h
 exact ⟨a,b,c,d,e,rfl,h1.base hb,h2.base hb,h3.base hb,h4.base hb,h5.base hb⟩
theorem OwnD.ext {w w' : World} {base:Nat} {v:Value} {m:MC} (h:OwnD w base v m) (hb:Below w.heap.size w w'):OwnD w' base v m:=by
 obtain ⟨a,b,c,d,e,rfl,h1,h2,h3,h4,h5⟩:=h
 exact ⟨a,b,c,d,e,rfl,h1.ext hb,h2.ext hb,h3.ext hb,h4.ext hb,h5.ext hb⟩
theorem OwnD.keep {w w' : World} {base g:Nat} {v:Value} {m:MC} (h:OwnD w base v m) (hg:w.grownBy w' (some g)) (hlt:g<base):OwnD w' base v m:=by
 obtain ⟨a,b,c,d,e,rfl,h1,h2,h3,h4,h5⟩:=h
 exact ⟨a,b,c,d,e,rfl,h1.keep hg hlt,h2.keep hg hlt,h3.keep hg hlt,h4.keep hg hlt,h5.keep hg hlt⟩
def RetD (W:World) (m:MC) (r:Ending) (w' : World):Prop:=∃ v',r = .returned v'∧OwnD w' W.heap.size v' m∧Below W.heap.size W w'
def PhiC (B bx:Nat) (a b c d e:Value) (m:MC):Nat→Value→World→Prop
 | 0,v,_=>∃ ba,v = .slice ba 0 0
 | 4,v,_=>∃ ba,v = .slice ba 0 0
 | 8,v,_=>∃ ba,v = .slice ba 0 0
 | 12,v,_=>∃ ba,v = .slice ba 0 0
 | 16,v,_=>∃ ba,v = .slice ba 0 0
 | 1,v,_=>v = .pointer (some ⟨bx,0,none⟩)
 | 5,v,_=>v = .pointer (some ⟨bx,1,none⟩)
 | 9,v,_=>v = .pointer (some ⟨bx,2,none⟩)
 | 13,v,_=>v = .pointer (some ⟨bx,3,none⟩)
 | 17,v,_=>v = .pointer (some ⟨bx,4,none⟩)
 | 2,v,_=>v=a
 | 6,v,_=>v=b
 | 10,v,_=>v=c
 | 14,v,_=>v=d
 | 18,v,_=>v=e
 | 3,v,w=>OwnE w B 3 eI 1 v m.cell
 | 7,v,w=>OwnE w B 3 eI 1 v m.stack
 | 11,v,w=>OwnE w B 3 eI 1 v m.queue
 | 15,v,w=>OwnE w B 3 eI 1 v m.set
 | 19,v,w=>OwnE w B 98 eP 2 v m.table
 | 20,v,w=>∃ p1 q1 p2 q2 p3 q3 p4 q4 p5 q5,v = .agg #[.slice p1 m.cell.length q1,.slice p2 m.stack.length q2,.slice p3 m.queue.length q3,.slice p4 m.set.length q4,.slice p5 m.table.length q5] ∧
   OwnE w B 3 eI 1 (.slice p1 m.cell.length q1) m.cell∧OwnE w B 3 eI 1 (.slice p2 m.stack.length q2) m.stack∧OwnE w B 3 eI 1 (.slice p3 m.queue.length q3) m.queue ∧
   OwnE w B 3 eI 1 (.slice p4 m.set.length q4) m.set∧OwnE w B 98 eP 2 (.slice p5 m.table.length q5) m.table
 | _,_,_=>True
theorem PhiC_stab (B bx:Nat) (a b c d e:Value) (m:MC):∀ i v w w',PhiC B bx a b c d e m i v w→Below w.heap.size w w'→PhiC B bx a b c d e m i v w':=by
 intro i v w w' h hb
 unfold PhiC at h ⊢
 split <;> simp only at h <;> first | exact h.ext hb | exact h | trivial | skip
 obtain ⟨p1,q1,p2,q2,p3,q3,p4,q4,p5,q5,h0,h1,h2,h3,h4,h5⟩:=h
 exact ⟨p1,q1,p2,q2,p3,q3,p4,q4,p5,q5,h0,h1.ext hb,h2.ext hb,h3.ext hb,h4.ext hb,h5.ext hb⟩
theorem full_own {α:Type} {w w' : World} {B:Nat} {e:TypeId} {enc:α→List Value} {size:Nat} {ba:Option Addr} {v' : Value} {xs:List α} (hB:B≤w.heap.size)
  (h:(xs=[]∧v' = .slice ba 0 0∧w' = w)∨(xs≠[]∧w'.ownsRow w.heap.size e size v' (0+xs.length) (([]++xs).flatMap enc))):OwnE w' B e enc size v' xs:=by
 rcases h with ⟨h1,h2,_⟩ | ⟨_,h⟩
 ·exact Or.inl ⟨h1,ba,h2⟩
 ·simp only [Nat.zero_add,List.nil_append] at h
  exact OwnE.base (Or.inr h) hB
set_option maxRecDepth 100000 in
set_option maxHeartbeats 2000000 in
theorem mCopied {a b c d e:Value} {m:MC} {w:World} (h:Cont w (.agg #[a,b,c,d,e]) m) (hok:m.ok 0) :
  Calls Try.prog 89 #[.agg #[a,b,c,d,e]] w (RetD w m):=by
 obtain ⟨_,_,_,_,_,hv,h1,h2,h3,h4,h5⟩:=h
 cases hv
 have H1:=Lib.hid h1;clear h1
 have H2:=Lib.hid h2;clear h2
 have H3:=Lib.hid h3;clear h3
 have H4:=Lib.hid h4;clear h4
 have H5:=Lib.hid h5;clear h5
 obtain ⟨k1,k2,k3,k4,k5⟩:=hok
 go_enter Try.func89,Try.ntmps89
 go_wp2_with fail
 have hb00:Below w.heap.size w ((w.alloc (.cells #[a,b,c,d,e] 70)).alloc (.cells #[.slice none 0 0,.slice none 0 0,.slice none 0 0,.slice none 0 0,.slice none 0 0] 70)):=(below_box _ _).trans ((below_box _ _).mono (by simp))
 have hbs:w.heap.size+2≤((w.alloc (.cells #[a,b,c,d,e] 70)).alloc (.cells #[.slice none 0 0,.slice none 0 0,.slice none 0 0,.slice none 0 0,.slice none 0 0] 70)).heap.size:=by simp
 have X:Hid (∀ j u,#[a,b,c,d,e][j]? = some u→((w.alloc (.cells #[a,b,c,d,e] 70)).alloc (.cells #[.slice none 0 0,.slice none 0 0,.slice none 0 0,.slice none 0 0,.slice none 0 0] 70)).cell? ⟨w.heap.size,j,none⟩=some u) :=
  fun j u h=>((below_box _ _).cell (by simp)).trans (box_cell w _ _ j u h)
 have Y:Hid (((w.alloc (.cells #[a,b,c,d,e] 70)).alloc (.cells #[.slice none 0 0,.slice none 0 0,.slice none 0 0,.slice none 0 0,.slice none 0 0] 70)).heap[w.heap.size+1]? = some (.cells #[.slice none 0 0,.slice none 0 0,.slice none 0 0,.slice none 0 0,.slice none 0 0] 70)):=by
  show _=_
  have:=heap_alloc_new (w.alloc (.cells #[a,b,c,d,e] 70)) (.cells #[.slice none 0 0,.slice none 0 0,.slice none 0 0,.slice none 0 0,.slice none 0 0] 70)
  simpa using this
 generalize ((w.alloc (.cells #[a,b,c,d,e] 70)).alloc (.cells #[.slice none 0 0,.slice none 0 0,.slice none 0 0,.slice none 0 0,.slice none 0 0] 70))=W1 at *
 refine wp_region_facts_lit 21 (PhiC W1.heap.size w.heap.size a b c d e m) (fun w w'=>Below w.heap.size w w') (by kernel_rfl) (by kernel_rfl) (by simp) ext_refl ext_trans (PhiC_stab _ _ _ _ _ _ _ _) ?_ ?_
 ·refine ⟨?_,?_,?_,?_,?_,?_,?_,?_,?_,?_,?_,?_,?_,?_,?_,?_,?_,?_,?_,?_,?_,trivial⟩
  all_goals intro A W hR hd hs hag hpre
  all_goals rw [if_pos (by rfl)]
  all_goals have hlt1:w.heap.size<W1.heap.size:=by omega
  all_goals have hle1:w.heap.size≤W1.drew.heap.size:=by show w.heap.size≤W1.heap.size;omega
  ·go_simp
   exact ⟨below_box _ _,_,rfl,_,rfl⟩
  ·have t1:=hag 1 (noDst (by kernel_rfl))
   have t1' : A.tmps.getD 1 undef = .pointer (some ⟨w.heap.size,0,none⟩):=t1
   clear t1
   go_simp
   exact ⟨Below.refl _ _,_,rfl,rfl⟩
  ·have p:A.tmps.getD 4 undef = .pointer (some ⟨w.heap.size,0,none⟩):=hpre ⟨1,.data⟩ (by simp) rfl _ rfl
   have c:=(hR.cell (show w.heap.size<W1.drew.heap.size by exact hlt1)).trans (X.out 0 _ rfl)
   go_simp
   exact ⟨Below.refl _ _,_,rfl,rfl⟩
  ·obtain ⟨ba,p⟩:∃ ba,A.tmps.getD 3 undef = .slice ba 0 0:=hpre ⟨0,.data⟩ (by simp) rfl _ rfl
   have q:A.tmps.getD 5 undef=a:=hpre ⟨2,.data⟩ (by simp) rfl _ rfl
   exact wp_append_full (.tmp 3) (.tmp 5) rfl tI eI_ok p (arr_empty _ _ _ _) q (H1.out.below (hb00.drew.trans (hR.mono hle1))) (by omega) (by unfold maxLen;omega)
    fun v' w' hb h=>⟨hb,v',rfl,full_own hR.size h⟩
  ·go_simp
   exact ⟨below_box _ _,_,rfl,_,rfl⟩
  ·have t1:=hag 1 (noDst (by kernel_rfl))
   have t1' : A.tmps.getD 1 undef = .pointer (some ⟨w.heap.size,0,none⟩):=t1
   clear t1
   go_simp
   exact ⟨Below.refl _ _,_,rfl,rfl⟩
  ·have p:A.tmps.getD 8 undef = .pointer (some ⟨w.heap.size,1,none⟩):=hpre ⟨5,.data⟩ (by simp) rfl _ rfl
   have c:=(hR.cell (show w.heap.size<W1.drew.heap.size by exact hlt1)).trans (X.out 1 _ rfl)
   go_simp
   exact ⟨Below.refl _ _,_,rfl,rfl⟩
  ·obtain ⟨ba,p⟩:∃ ba,A.tmps.getD 7 undef = .slice ba 0 0:=hpre ⟨4,.data⟩ (by simp) rfl _ rfl
   have q:A.tmps.getD 9 undef=b:=hpre ⟨6,.data⟩ (by simp) rfl _ rfl
   exact wp_append_zero (.tmp 7) (.tmp 9) rfl tI eI_ok p (arr_empty _ _ _ _) q (H2.out.below (hb00.drew.trans (hR.mono hle1))) (by omega) (by unfold maxLen;omega)
    fun v' w' hb h=>⟨hb,v',rfl,full_own hR.size h⟩
  ·go_simp
   exact ⟨below_box _ _,_,rfl,_,rfl⟩
  ·have t1:=hag 1 (noDst (by kernel_rfl))
   have t1' : A.tmps.getD 1 undef = .pointer (some ⟨w.heap.size,0,none⟩):=t1
   clear t1
   go_simp
   exact ⟨Below.refl _ _,_,rfl,rfl⟩
  ·have p:A.tmps.getD 12 undef = .pointer (some ⟨w.heap.size,2,none⟩):=hpre ⟨9,.data⟩ (by simp) rfl _ rfl
   have c:=(hR.cell (show w.heap.size<W1.drew.heap.size by exact hlt1)).trans (X.out 2 _ rfl)
   go_simp
   exact ⟨Below.refl _ _,_,rfl,rfl⟩
  ·obtain ⟨ba,p⟩:∃ ba,A.tmps.getD 11 undef = .slice ba 0 0:=hpre ⟨8,.data⟩ (by simp) rfl _ rfl
   have q:A.tmps.getD 13 undef=c:=hpre ⟨10,.data⟩ (by simp) rfl _ rfl
   exact wp_append_full (.tmp 11) (.tmp 13) rfl tI eI_ok p (arr_empty _ _ _ _) q (H3.out.below (hb00.drew.trans (hR.mono hle1))) (by omega) (by unfold maxLen;omega)
    fun v' w' hb h=>⟨hb,v',rfl,full_own hR.size h⟩
  ·go_simp
   exact ⟨below_box _ _,_,rfl,_,rfl⟩
  ·have t1:=hag 1 (noDst (by kernel_rfl))
   have t1' : A.tmps.getD 1 undef = .pointer (some ⟨w.heap.size,0,none⟩):=t1
   clear t1
   go_simp
   exact ⟨Below.refl _ _,_,rfl,rfl⟩
  ·have p:A.tmps.getD 16 undef = .pointer (some ⟨w.heap.size,3,none⟩):=hpre ⟨13,.data⟩ (by simp) rfl _ rfl
   have c:=(hR.cell (show w.heap.size<W1.drew.heap.size by exact hlt1)).trans (X.out 3 _ rfl)
   go_simp
   exact ⟨Below.refl _ _,_,rfl,rfl⟩
  ·obtain ⟨ba,p⟩:∃ ba,A.tmps.getD 15 undef = .slice ba 0 0:=hpre ⟨12,.data⟩ (by simp) rfl _ rfl
   have q:A.tmps.getD 17 undef=d:=hpre ⟨14,.data⟩ (by simp) rfl _ rfl
   exact wp_append_full (.tmp 15) (.tmp 17) rfl tI eI_ok p (arr_empty _ _ _ _) q (H4.out.below (hb00.drew.trans (hR.mono hle1))) (by omega) (by unfold maxLen;omega)
    fun v' w' hb h=>⟨hb,v',rfl,full_own hR.size h⟩
  ·go_simp
   exact ⟨below_box _ _,_,rfl,_,rfl⟩
  ·have t1:=hag 1 (noDst (by kernel_rfl))
   have t1' : A.tmps.getD 1 undef = .pointer (some ⟨w.heap.size,0,none⟩):=t1
   clear t1
   go_simp
   exact ⟨Below.refl _ _,_,rfl,rfl⟩
  ·have p:A.tmps.getD 20 undef = .pointer (some ⟨w.heap.size,4,none⟩):=hpre ⟨17,.data⟩ (by simp) rfl _ rfl
   have c:=(hR.cell (show w.heap.size<W1.drew.heap.size by exact hlt1)).trans (X.out 4 _ rfl)
   go_simp
   exact ⟨Below.refl _ _,_,rfl,rfl⟩
  ·obtain ⟨ba,p⟩:∃ ba,A.tmps.getD 19 undef = .slice ba 0 0:=hpre ⟨16,.data⟩ (by simp) rfl _ rfl
   have q:A.tmps.getD 21 undef=e:=hpre ⟨18,.data⟩ (by simp) rfl _ rfl
   exact wp_append_full (.tmp 19) (.tmp 21) rfl tP eP_ok p (arr_empty _ _ _ _) q (H5.out.below (hb00.drew.trans (hR.mono hle1))) (by omega) (by unfold maxLen;omega)
    fun v' w' hb h=>⟨hb,v',rfl,full_own hR.size h⟩
  ·have g1:OwnE W W1.heap.size 3 eI 1 (A.tmps.getD 6 undef) m.cell:=hpre ⟨3,.data⟩ (by simp) rfl _ rfl
   have g2:OwnE W W1.heap.size 3 eI 1 (A.tmps.getD 10 undef) m.stack:=hpre ⟨7,.data⟩ (by simp) rfl _ rfl
   have g3:OwnE W W1.heap.size 3 eI 1 (A.tmps.getD 14 undef) m.queue:=hpre ⟨11,.data⟩ (by simp) rfl _ rfl
   have g4:OwnE W W1.heap.size 3 eI 1 (A.tmps.getD 18 undef) m.set:=hpre ⟨15,.data⟩ (by simp) rfl _ rfl
   have g5:OwnE W W1.heap.size 98 eP 2 (A.tmps.getD 22 undef) m.table:=hpre ⟨19,.data⟩ (by simp) rfl _ rfl
   obtain ⟨p1,q1,e1⟩:=g1.form
   obtain ⟨p2,q2,e2⟩:=g2.form
   obtain ⟨p3,q3,e3⟩:=g3.form
   obtain ⟨p4,q4,e4⟩:=g4.form
   obtain ⟨p5,q5,e5⟩:=g5.form
   rw [e1] at g1
   rw [e2] at g2
   rw [e3] at g3
   rw [e4] at g4
   rw [e5] at g5
   have G:Hid (PhiC W1.heap.size w.heap.size a b c d e m 20 (.agg #[.slice p1 m.cell.length q1,.slice p2 m.stack.length q2,.slice p3 m.queue.length q3,.slice p4 m.set.length q4,.slice p5 m.table.length q5]) W) :=
    ⟨p1,q1,p2,q2,p3,q3,p4,q4,p5,q5,rfl,g1,g2,g3,g4,g5⟩
   clear g1 g2 g3 g4 g5 hs hag hd hpre
   simp only [Array.getD_eq_getD_getElem?] at e1 e2 e3 e4 e5
   go_simp
   exact ⟨Below.refl _ _,_,rfl,G.out⟩
 ·intro vs W hR hΦ
  obtain ⟨p1,q1,p2,q2,p3,q3,p4,q4,p5,q5,e20,g1,g2,g3,g4,g5⟩:=hΦ 20 (by omega)
  simp only [putN,List.getElem?_toArray,List.getElem?_cons_succ,List.getElem?_cons_zero,Option.bind_some,Act.put,List.setIfInBounds_toArray,List.set_cons_succ,List.set_cons_zero,List.drop_succ_cons,List.drop_zero,e20]
  have hY:=(hR.block _ (show w.heap.size+1<W1.drew.heap.size by show _<W1.heap.size;omega)).trans Y.out
  have hBW:Below w.heap.size w W:=hb00.drew.trans (hR.mono (show w.heap.size≤W1.heap.size by omega))
  have OB:Hid (OwnD (W.setRow (w.heap.size+1) #[.slice p1 m.cell.length q1,.slice p2 m.stack.length q2,.slice p3 m.queue.length q3,.slice p4 m.set.length q4,.slice p5 m.table.length q5]) w.heap.size (.agg #[.slice p1 m.cell.length q1,.slice p2 m.stack.length q2,.slice p3 m.queue.length q3,.slice p4 m.set.length q4,.slice p5 m.table.length q5]) m):=by
   have G:=grownBy_setRow W (w.heap.size+1) #[.slice p1 m.cell.length q1,.slice p2 m.stack.length q2,.slice p3 m.queue.length q3,.slice p4 m.set.length q4,.slice p5 m.table.length q5]
   exact ⟨_,_,_,_,_,rfl,(g1.keep G (by omega)).base (by omega),(g2.keep G (by omega)).base (by omega),(g3.keep G (by omega)).base (by omega),(g4.keep G (by omega)).base (by omega),(g5.keep G (by omega)).base (by omega)⟩
  have BB:Hid (Below w.heap.size w (W.setRow (w.heap.size+1) #[.slice p1 m.cell.length q1,.slice p2 m.stack.length q2,.slice p3 m.queue.length q3,.slice p4 m.set.length q4,.slice p5 m.table.length q5])) :=
   below_setRow' hBW (by omega) _
  clear g1 g2 g3 g4 g5 e20 hΦ hR
  obtain ⟨⟨z0,z1,z2,z3,z4⟩,⟨f0,f1,f2,f3,f4⟩⟩:=blk5 hY
  go_wp2
  rw [set5 hY]
  clear z0 z1 z2 z3 z4 f0 f1 f2 f3 f4
  obtain ⟨⟨z0,z1,z2,z3,z4⟩,_⟩:=blk5 (setRow_heap W (w.heap.size+1) _ #[.slice p1 m.cell.length q1,.slice p2 m.stack.length q2,.slice p3 m.queue.length q3,.slice p4 m.set.length q4,.slice p5 m.table.length q5] 70 (0,0) hY)
  refine bodyPost_ret (v:=.agg #[.slice p1 m.cell.length q1,.slice p2 m.stack.length q2,.slice p3 m.queue.length q3,.slice p4 m.set.length q4,.slice p5 m.table.length q5])
   (by simp [results,Try.results89,go_sem,z0,z1,z2,z3,z4]) rfl ⟨_,rfl,OB.out,BB.out⟩
end Go.Proofs.Ytkjeedlkkpgopaa
namespace Go.Proofs.Ytkjeedlkkpgopaa
open Go.RowKit
theorem OwnC.base {w:World} {base base' : Nat} {v:Value} {m:MC} (h:OwnC w base v m) (hb:base'≤base):OwnC w base' v m:=by
 obtain ⟨a,b,c,d,e,rfl,h1,h2,h3,h4,h5,h6⟩:=h
 exact ⟨a,b,c,d,e,rfl,own_base h1 hb,own_base h2 hb,own_base h3 hb,own_base h4 hb,own_base h5 hb,h6⟩
theorem arr_one {w:World} {B:Nat} {x:Int} {t:TypeId} (h:w.heap[B]? = some (.cells #[.int .i64 x] t)):Arr w eI 1 (.slice (some ⟨B,0,none⟩) 1 1) [x]:=by
 refine ⟨_,1,rfl,Nat.le_refl _,by unfold maxLen;omega,Or.inr ⟨B,0,rfl,fun k y hk j u hu=>?_⟩⟩
 have hk0:k=0:=by have:=(List.getElem?_eq_some_iff.1 hk).1;simpa using this
 subst hk0
 simp only [List.getElem?_cons_zero,Option.some.injEq] at hk
 subst hk
 have hj0:j=0:=by have:=(List.getElem?_eq_some_iff.1 hu).1;simpa [eI] using this
 subst hj0
 simp only [eI,List.getElem?_cons_zero,Option.some.injEq] at hu
 subst hu
 rw [cell_of_row w B _ _ t (0,0) h]
 rfl
end Go.Proofs.Ytkjeedlkkpgopaa
namespace Go.Proofs.Ytkjeedlkkpgopaa
open Go.RowKit
section
variable {H:Type} {enc:TypeId×Value→H} {P:Program} {w:World} {base:Nat} {spare:Nat→Bool} {held:Bool}
def leavesFields (L:TypeId→Option (List TypeId)) (P:Program):List Field→Nat→Option (List TypeId)
 | [],_=>some []
 | f :: r,off=>if f.offset=off then (L f.type).bind fun l=>if l.length=P.cellsOf f.type then (leavesFields L P r (off+l.length)).map (l++·) else none else none
def leavesIn (P:Program):Nat→TypeId→Option (List TypeId)
 | 0,_=>none
 | n+1,t=>match P.underlying t with
  | some (.struct fs)=>leavesFields (leavesIn P n) P fs.toList 0
  | some (.array k e)=>(leavesIn P n e).bind fun l=>if l.length=P.cellsOf e then some (List.replicate k l).flatten else none
  | some _=>some [t]
  | none=>none
theorem trod_one {t:TypeId} {fuel:Nat} {cs:List Value} {x:DataW H×List MemPlace} {d:TypeDesc} (hu:P.underlying t=some d) (hs:∀ fs,d≠.struct fs) (ha:∀ n e,d≠.array n e)
  (h:DataW.trod enc P w base spare held fuel t cs=some x):∃ c,cs=[c]:=by
 cases fuel with
 | zero=>simp [DataW.trod] at h
 | succ n =>
  rcases cs with _ | ⟨c,_ | ⟨c2,r⟩⟩
  ·exfalso
   cases d <;> first | exact hs _ rfl | exact ha _ _ rfl | simp [DataW.trod,hu] at h
  ·exact ⟨c,rfl⟩
  ·exfalso
   cases d <;> first | exact hs _ rfl | exact ha _ _ rfl | simp [DataW.trod,hu] at h
def LeafAt (enc:TypeId×Value→H) (P:Program) (w:World) (base:Nat) (spare:Nat→Bool) (held:Bool) (bound:Nat) (ws:List Nat) (u:TypeId) (c:Value):Prop :=
 ∃ m y,DataW.trod enc P w base spare held m u [c]=some y∧Rows.uptoBulk y.1≤bound∧∀ k∈y.1.weights P u,k∈ws
theorem bulk_mem {d:DataW H} {l:List (DataW H)} (h:d∈l):Rows.uptoBulk d≤Rows.uptoBulkAll l:=by
 induction l with
 | nil=>cases h
 | cons x r ih =>
  simp only [Rows.uptoBulkAll]
  cases List.mem_cons.1 h with
  | inl e=>subst e;omega
  | inr e=>have:=ih e;omega
theorem one_le_bulk (d:DataW H):1≤Rows.uptoBulk d:=by
 cases d with
 | lit l=>cases l <;> simp [Rows.uptoBulk]
 | nil=>simp [Rows.uptoBulk]
 | ptr d=>simp [Rows.uptoBulk]
 | slice elems spare=>simp [Rows.uptoBulk]
 | agg parts=>simp [Rows.uptoBulk]
 | iface t d=>simp [Rows.uptoBulk]
 | map entries=>simp [Rows.uptoBulk]
 | held h=>simp [Rows.uptoBulk]
theorem length_le_bulk (l:List (DataW H)):l.length≤Rows.uptoBulkAll l:=by
 induction l with
 | nil=>simp [Rows.uptoBulkAll]
 | cons x r ih=>have:=one_le_bulk x;simp only [Rows.uptoBulkAll,List.length_cons];omega
theorem weightsEach_mem {ts:List TypeId} {ds:List (DataW H)} {i:Nat} {t:TypeId} {d:DataW H} (ht:ts[i]? = some t) (hd:ds[i]? = some d):∀ k∈d.weights P t,k∈DataW.weightsEach P ts ds:=by
 intro k hk
 induction ts generalizing ds i with
 | nil=>simp at ht
 | cons t0 ts ih =>
  cases ds with
  | nil=>simp at hd
  | cons d0 ds =>
   simp only [DataW.weightsEach,List.mem_append]
   cases i with
   | zero=>simp at ht hd;subst ht;subst hd;exact Or.inl hk
   | succ i=>exact Or.inr (ih (by simpa using ht) (by simpa using hd))
theorem weightsAll_mem {e:TypeId} {ds:List (DataW H)} {d:DataW H} (hd:d∈ds):∀ k∈d.weights P e,k∈DataW.weightsAll P e ds:=by
 intro k hk
 induction ds with
 | nil=>cases hd
 | cons d0 ds ih =>
  simp only [DataW.weightsAll,List.mem_append]
  cases List.mem_cons.1 hd with
  | inl e=>subst e;exact Or.inl hk
  | inr e=>exact Or.inr (ih e)
theorem LeafAt.mono {b b' : Nat} {ws ws' : List Nat} {u:TypeId} {c:Value} (h:LeafAt enc P w base spare held b ws u c) (hb:b≤b') (hw:∀ k∈ws,k∈ws'):LeafAt enc P w base spare held b' ws' u c:=by
 obtain ⟨m,y,h1,h2,h3⟩:=h
 exact ⟨m,y,h1,by omega,fun k hk=>hw k (h3 k hk)⟩
theorem leavesFields_at {L:TypeId→Option (List TypeId)}:∀ (fs:List Field) (off:Nat) (l:List TypeId),leavesFields L P fs off=some l→∀ i u,l[i]? = some u →
  ∃ (k:Nat) (f:Field) (lf:List TypeId) (j:Nat),fs[k]? = some f∧L f.type=some lf∧lf.length=P.cellsOf f.type∧lf[j]? = some u∧off+i=f.offset+j:=by
 intro fs
 induction fs with
 | nil=>intro off l h i u hi;simp [leavesFields] at h;subst h;simp at hi
 | cons f r ih =>
  intro off l h i u hi
  simp only [leavesFields] at h
  split at h
  ·rename_i ho
   obtain ⟨lf,hlf,h⟩:=Option.bind_eq_some_iff.1 h
   split at h
   ·rename_i hlen
    obtain ⟨l',hl',rfl⟩:=Option.map_eq_some_iff.1 h
    by_cases hlt:i<lf.length
    ·rw [List.getElem?_append_left hlt] at hi
     exact ⟨0,f,lf,i,rfl,hlf,hlen,hi,by omega⟩
    ·rw [List.getElem?_append_right (by omega)] at hi
     obtain ⟨k,f',lf',j,h1,h2,h3,h4,h5⟩:=ih _ _ hl' _ _ hi
     exact ⟨k+1,f',lf',j,by simpa using h1,h2,h3,h4,by omega⟩
   ·cases h
  ·cases h
theorem flatten_rep_at {α:Type}:∀ (k:Nat) (l:List α) (i:Nat) (u:α),(List.replicate k l).flatten[i]? = some u→∃ a j,a<k∧l[j]? = some u∧i=a * l.length+j:=by
 intro k
 induction k with
 | zero=>intro l i u h;simp at h
 | succ k ih =>
  intro l i u h
  rw [List.replicate_succ,List.flatten_cons] at h
  by_cases hlt:i<l.length
  ·rw [List.getElem?_append_left hlt] at h
   exact ⟨0,i,by omega,h,by omega⟩
  ·rw [List.getElem?_append_right (by omega)] at h
   obtain ⟨a,j,h1,h2,h3⟩:=ih l _ u h
   refine ⟨a+1,j,by omega,h2,?_⟩
   rw [Nat.add_mul];omega
theorem leaf_of:∀ (n:Nat) (t:TypeId) (L:List TypeId),leavesIn P n t=some L→∀ (fuel:Nat) (cs:List Value) (x:DataW H×List MemPlace),DataW.trod enc P w base spare held fuel t cs=some x →
  ∀ (i:Nat) (u:TypeId) (c:Value),L[i]? = some u→cs[i]? = some c→LeafAt enc P w base spare held (Rows.uptoBulk x.1) (x.1.weights P t) u c:=by
 intro n
 induction n with
 | zero=>intro t L h;simp [leavesIn] at h
 | succ n ih =>
  intro t L hL fuel cs x hx i u c hi hc
  cases hu:P.underlying t with
  | none=>simp [leavesIn,hu] at hL
  | some d =>
   by_cases hs:∃ fs,d = .struct fs
   ·obtain ⟨fs,rfl⟩:=hs
    simp only [leavesIn,hu] at hL
    obtain ⟨k,f,lf,j,h1,h2,h3,h4,h5⟩:=leavesFields_at _ _ _ hL i u hi
    obtain ⟨xs,n',_,rfl,hlen,hxl,hg⟩:=DataW.trod_struct hu hx
    have h1' : fs[k]? = some f:=by simpa using h1
    have hk:=hg k f h1'
    have hkl:k<xs.length:=by rw [hxl];exact (Array.getElem?_eq_some_iff.1 h1').1
    rw [List.getElem?_eq_getElem hkl] at hk
    have hj:j<lf.length:=(List.getElem?_eq_some_iff.1 h4).1
    have hcj:((cs.drop f.offset).take (P.cellsOf f.type))[j]? = some c:=by
     rw [List.getElem?_take,if_pos (by omega),List.getElem?_drop,← h5,Nat.zero_add];exact hc
    have:=ih f.type lf h2 n' _ _ hk j u c h4 hcj
    have hm:xs[k].1∈xs.map (·.1):=List.mem_map.2 ⟨xs[k],List.getElem_mem hkl,rfl⟩
    refine this.mono ?_ ?_
    ·have:=bulk_mem hm
     simp only [Rows.uptoBulk];omega
    ·intro q hq
     simp only [DataW.weights,hu]
     exact weightsEach_mem (i:=k) (t:=f.type) (d:=xs[k].1) (by rw [List.getElem?_map];rw [h1];rfl) (by rw [List.getElem?_map,List.getElem?_eq_getElem hkl];rfl) q hq
   ·by_cases ha:∃ k e,d = .array k e
    ·obtain ⟨k,e,rfl⟩:=ha
     simp only [leavesIn,hu] at hL
     obtain ⟨l,hl,hL⟩:=Option.bind_eq_some_iff.1 hL
     split at hL
     ·rename_i hlen
      cases hL
      obtain ⟨a,j,h1,h2,h3⟩:=flatten_rep_at _ _ _ _ hi
      obtain ⟨xs,n',_,rfl,_,hxl,hg⟩:=DataW.trod_array hu hx
      have hk:=hg a h1
      have hkl:a<xs.length:=by omega
      rw [List.getElem?_eq_getElem hkl] at hk
      have hj:j<l.length:=(List.getElem?_eq_some_iff.1 h2).1
      have hcj:((cs.drop (a * P.cellsOf e)).take (P.cellsOf e))[j]? = some c:=by
       rw [List.getElem?_take,if_pos (by omega),List.getElem?_drop,← hlen,← h3];exact hc
      have:=ih e l hl n' _ _ hk j u c h2 hcj
      have hm:xs[a].1∈xs.map (·.1):=List.mem_map.2 ⟨xs[a],List.getElem_mem hkl,rfl⟩
      refine this.mono ?_ ?_
      ·have:=bulk_mem hm
       simp only [Rows.uptoBulk];omega
      ·intro q hq
       simp only [DataW.weights,hu]
       exact weightsAll_mem hm q hq
     ·cases hL
    ·have hL' : L=[t]:=by
      simp only [leavesIn,hu] at hL
      cases d <;> first | exact absurd ⟨_,rfl⟩ hs | exact absurd ⟨_,_,rfl⟩ ha | (simpa using hL.symm)
     subst hL'
     obtain ⟨c',rfl⟩:=trod_one hu (fun fs e=>hs ⟨fs,e⟩) (fun k e e'=>ha ⟨k,e,e'⟩) hx
     have hi0:i=0:=by have:=(List.getElem?_eq_some_iff.1 hi).1;simpa using this
     subst hi0
     simp at hi hc
     subst hi;subst hc
     exact ⟨fuel,x,hx,Nat.le_refl _,fun _ h=>h⟩
theorem LeafAt.int {b:Nat} {ws:List Nat} {u:TypeId} {c:Value} {k:IntKind} (hu:P.underlying u=some (.int k)) (h:LeafAt enc P w base spare held b ws u c):∃ n,c = .int k n∧(Lit.int k n).wf=true:=by
 obtain ⟨m,y,h1,_⟩:=h
 obtain ⟨n,hc,_,hw⟩:=DataW.trod_int hu h1
 exact ⟨n,by simpa using hc,hw⟩
theorem LeafAt.bool {b:Nat} {ws:List Nat} {u:TypeId} {c:Value} (hu:P.underlying u=some .bool) (h:LeafAt enc P w base spare held b ws u c):∃ n,c = .bool n:=by
 obtain ⟨m,y,h1,_⟩:=h
 obtain ⟨n,hc,_⟩:=DataW.trod_bool hu h1
 exact ⟨n,by simpa using hc⟩
theorem choose_list {α:Type} {R:Nat→α→Prop}:∀ n,(∀ i,i<n→∃ x,R i x)→∃ xs:List α,xs.length=n∧∀ i x,xs[i]? = some x→R i x:=by
 intro n
 induction n with
 | zero=>intro _;exact ⟨[],rfl,fun i x h=>by simp at h⟩
 | succ n ih =>
  intro h
  obtain ⟨xs,hl,hx⟩:=ih (fun i hi=>h i (by omega))
  obtain ⟨y,hy⟩:=h n (by omega)
  refine ⟨xs++[y],by simp [hl],fun i x hi=>?_⟩
  by_cases hlt:i<xs.length
  ·rw [List.getElem?_append_left hlt] at hi
   exact hx i x hi
  ·rw [List.getElem?_append_right (by omega)] at hi
   have h0:i - xs.length=0:=by have:=(List.getElem?_eq_some_iff.1 hi).1;simp at this;omega
   rw [h0] at hi
   simp at hi
   subst hi
   have:i=n:=by omega
   subst this
   exact hy
theorem LeafAt.slice {α:Type} {b:Nat} {ws:List Nat} {u e:TypeId} {c:Value} (hu:P.underlying u=some (.slice e)) {s:Nat} (hpos:0<s) (hc:P.cellsOf e=s) (encA:α→List Value) (Q:α→Prop)
  (helem:∀ (m:Nat) (cs:List Value) (y:DataW H×List MemPlace),cs.length=s→DataW.trod enc P w base spare held m e cs=some y→∃ x:α,cs=encA x∧Q x)
  (h:LeafAt enc P w base spare held b ws u c):∃ xs:List α,Arr w encA s c xs∧(∀ x∈xs,Q x)∧xs.length+1≤b∧(xs=[]∨∃ k∈ws,xs.length * P.bytesOf e≤k):=by
 obtain ⟨m,y,h1,hb,hw⟩:=h
 rcases DataW.trod_slice hu h1 with ⟨hcs,rfl⟩ | ⟨a,len,cap,elems,rest,n,_,hcs,rfl,hba,hl,hm,hlen,hel,hsp,hns⟩
 ·simp only [List.cons.injEq,and_true] at hcs
  subst hcs
  refine ⟨[],Arr.nil _ _ _,by simp,?_,Or.inl rfl⟩
  simp only [Rows.uptoBulk] at hb
  simpa using hb
 ·simp only [List.cons.injEq,and_true] at hcs
  subst hcs
  have each:∀ i,i<len→∃ x:α,(∃ cs,w.cells? base (a.add (i * s)) s=some cs∧cs=encA x)∧Q x:=by
   intro i hi
   have h2:=hel i hi
   rw [List.getElem?_eq_getElem (by omega),hc] at h2
   obtain ⟨cs,h3,h4⟩:=Option.bind_eq_some_iff.1 h2
   obtain ⟨x,h5,h6⟩:=helem n cs _ (World.cells?_some h3).2.1 h4
   exact ⟨x,⟨cs,h3,h5⟩,h6⟩
  obtain ⟨xs,hxl,hx⟩:=choose_list len each
  refine ⟨xs,?_,?_,?_,?_⟩
  ·refine ⟨some a,cap,by rw [hxl],by omega,hm,?_⟩
   by_cases h0:xs=[]
   ·exact Or.inl h0
   ·right
    by_cases hspot:a.spot=none
    ·obtain ⟨ab,ao,sp⟩:=a
     simp only at hspot
     subst hspot
     refine ⟨ab,ao,rfl,fun k x hk j u hj=>?_⟩
     obtain ⟨⟨cs,h3,rfl⟩,_⟩:=hx k x hk
     obtain ⟨_,hlc,hcell⟩:=World.cells?_some h3
     have hjs:j<s:=by rw [← hlc];exact (List.getElem?_eq_some_iff.1 hj).1
     have h4:=hcell j hjs
     rw [hj] at h4
     rw [← h4]
     congr 1
     unfold Addr.add
     split <;> split <;> simp_all
    ·exfalso
     obtain ⟨x0,hx0⟩:∃ x0,xs[0]? = some x0:=by cases xs with | nil=>exact absurd rfl h0 | cons y _=>exact ⟨y,rfl⟩
     obtain ⟨⟨cs,h3,_⟩,_⟩:=hx 0 x0 hx0
     obtain ⟨_,hlc,hcell⟩:=World.cells?_some h3
     have h4:=hcell 0 hpos
     rw [Nat.zero_mul] at h4
     have e:(a.add 0).add 0=a:=by simp [Addr.add]
     rw [e,List.getElem?_eq_getElem (by omega)] at h4
     unfold World.cell? at h4
     split at h4
     ·cases hs:a.spot with
      | none=>exact hspot hs
      | some q=>rw [hs] at h4;simp at h4
     ·cases h4
  ·intro x hx'
   obtain ⟨i,hi⟩:=List.getElem?_of_mem hx'
   exact (hx i x hi).2
  ·have h2:=length_le_bulk (elems.map (·.1))
   simp only [Rows.uptoBulk,List.length_map] at hb h2
   omega
  ·right
   refine ⟨_,hw (((elems.map (·.1)).length+(rest.map (·.1)).length) * P.bytesOf e) ?_,?_⟩
   ·simp only [DataW.weights,hu]
    exact List.mem_cons_self
   ·rw [hxl,List.length_map,hlen]
    exact Nat.mul_le_mul_right _ (by omega)
end
end Go.Proofs.Ytkjeedlkkpgopaa
namespace Go.Proofs.Ytkjeedlkkpgopaa
open Go.RowKit Go.ChangeShapes Go.WideShapes Go.ChangeAt
theorem MC.ok.le {m:MC} {j k:Nat} (h:m.ok k) (hj:j≤k):m.ok j:=by simp only [MC.ok] at *;omega
section
variable {H:Type} {enc:TypeId×Value→H} {w:World}
end
end Go.Proofs.Ytkjeedlkkpgopaa
namespace Go.Proofs.Ytkjeedlkkpgopaa
open Go.RowKit
def RetE {α:Type} (W:World) (e:TypeId) (enc:α→List Value) (s:Nat) (l:List α) (r:Ending) (w' : World):Prop:=∃ v',r = .returned v'∧OwnE w' W.heap.size e enc s v' l∧Below W.heap.size W w'
theorem wpList_append_empty {P:Program} {w:World} {ops:Array Oper} {rest:List Oper} {o:Oper} {a:Act} {Q:Exit→Act→World→Prop} (hgd:o.guard=none) (s x:Operand) {t e:TypeId} {size bytes:Nat}
  (ho:o.op = .call { callee:=.builtin .append,args:=#[s,x],argTypes:=#[t,t] }) (T:ElemT P t e size bytes)
  {α:Type} {enc:α→List Value} (E:EncT enc size) {ba:Option Addr} {xs:List α} (hs:a.eval s = .slice ba 0 0)
  {v2:Value} (hx:a.eval x=v2) (hxs:Arr w enc size v2 xs)
  (hbytes:xs.length * bytes≤281474976710656) (h63:xs.length≤maxLen)
  (h:∀ v' w',Below w.heap.size w w'→OwnE w' w.heap.size e enc size v' xs→wpList P ops Q rest (a.put o.dst v') w'):wpList P ops Q (o :: rest) a w :=
 wpList_plain hgd fun _ hK=>wp_append_zero s x ho T E hs (arr_empty _ _ _ _) hx hxs (by simpa using hbytes) (by simpa using h63) fun v' w' hb h2=>hK _ _ (h v' w' hb (by
  rcases h2 with ⟨h1,h2,_⟩ | ⟨_,h2⟩
  ·exact Or.inl ⟨h1,ba,h2⟩
  ·simp only [Nat.zero_add,List.nil_append] at h2
   exact Or.inr h2))
theorem tE_stack:ElemT Try.prog 146 3 1 8:=⟨Try.underlying146,tI.ex,by decide⟩
set_option maxRecDepth 100000 in
set_option maxHeartbeats 400000 in
theorem clone_stack {v:Value} {l:List Int} {w:World} (h:Arr w eI 1 v l) (hl:l.length * 8≤281474976710656) :
  Calls Try.prog 126 #[v] w (RetE w 3 eI 1 l):=by
 have h0:=h
 obtain ⟨ba,cap,rfl,hlc,hcm,hc⟩:=h
 have H:=Lib.hid h0;clear h0
 have HC:=Lib.hid hc;clear hc
 have HL:=Lib.hid hl;clear hl
 have HM:=Lib.hid (Nat.le_trans hlc hcm);clear hlc hcm
 have hq:=fun wx=>Lib.run_eql_slice_nil (P:=Try.prog) wx 146 _ ba l.length cap 0 0 Try.underlying146
 rcases ba with _ | ba
 ·have hl0:l=[]:=by
   rcases HC.out with h | ⟨_,_,h,_⟩
   ·exact h
   ·cases h
  have HL0:=Lib.hid hl0;clear hl0
  go_enter Try.func126,Try.ntmps126
  go_wp2
  go_ret
  exact ⟨_,rfl,Or.inl ⟨HL0.out,none,rfl⟩,Below.refl _ _⟩
 ·go_enter Try.func126,Try.ntmps126
  go_wp2_with (at_builtin;refine wpList_append_empty rfl (.tmp 5) (.tmp 6) rfl tE_stack eI_ok rfl rfl (H.out.below (below_box _ _)) HL.out HM.out ?_;intro v' w' hb ho)
  have HO:=Lib.hid ho;clear ho
  go_wp2
  go_ret
  exact ⟨v',rfl,HO.out.base (by simp),below_from (hb.mono (by simp))⟩
theorem tE_queue:ElemT Try.prog 147 3 1 8:=⟨Try.underlying147,tI.ex,by decide⟩
set_option maxRecDepth 100000 in
set_option maxHeartbeats 400000 in
theorem clone_queue {v:Value} {l:List Int} {w:World} (h:Arr w eI 1 v l) (hl:l.length * 8≤281474976710656) :
  Calls Try.prog 129 #[v] w (RetE w 3 eI 1 l):=by
 have h0:=h
 obtain ⟨ba,cap,rfl,hlc,hcm,hc⟩:=h
 have H:=Lib.hid h0;clear h0
 have HC:=Lib.hid hc;clear hc
 have HL:=Lib.hid hl;clear hl
 have HM:=Lib.hid (Nat.le_trans hlc hcm);clear hlc hcm
 have hq:=fun wx=>Lib.run_eql_slice_nil (P:=Try.prog) wx 147 _ ba l.length cap 0 0 Try.underlying147
 rcases ba with _ | ba
 ·have hl0:l=[]:=by
   rcases HC.out with h | ⟨_,_,h,_⟩
   ·exact h
   ·cases h
  have HL0:=Lib.hid hl0;clear hl0
  go_enter Try.func129,Try.ntmps129
  go_wp2
  go_ret
  exact ⟨_,rfl,Or.inl ⟨HL0.out,none,rfl⟩,Below.refl _ _⟩
 ·go_enter Try.func129,Try.ntmps129
  go_wp2_with (at_builtin;refine wpList_append_empty rfl (.tmp 5) (.tmp 6) rfl tE_queue eI_ok rfl rfl (H.out.below (below_box _ _)) HL.out HM.out ?_;intro v' w' hb ho)
  have HO:=Lib.hid ho;clear ho
  go_wp2
  go_ret
  exact ⟨v',rfl,HO.out.base (by simp),below_from (hb.mono (by simp))⟩
theorem tE_set:ElemT Try.prog 150 3 1 8:=⟨Try.underlying150,tI.ex,by decide⟩
set_option maxRecDepth 100000 in
set_option maxHeartbeats 400000 in
theorem clone_set {v:Value} {l:List Int} {w:World} (h:Arr w eI 1 v l) (hl:l.length * 8≤281474976710656) :
  Calls Try.prog 135 #[v] w (RetE w 3 eI 1 l):=by
 have h0:=h
 obtain ⟨ba,cap,rfl,hlc,hcm,hc⟩:=h
 have H:=Lib.hid h0;clear h0
 have HC:=Lib.hid hc;clear hc
 have HL:=Lib.hid hl;clear hl
 have HM:=Lib.hid (Nat.le_trans hlc hcm);clear hlc hcm
 have hq:=fun wx=>Lib.run_eql_slice_nil (P:=Try.prog) wx 150 _ ba l.length cap 0 0 Try.underlying150
 rcases ba with _ | ba
 ·have hl0:l=[]:=by
   rcases HC.out with h | ⟨_,_,h,_⟩
   ·exact h
   ·cases h
  have HL0:=Lib.hid hl0;clear hl0
  go_enter Try.func135,Try.ntmps135
  go_wp2
  go_ret
  exact ⟨_,rfl,Or.inl ⟨HL0.out,none,rfl⟩,Below.refl _ _⟩
 ·go_enter Try.func135,Try.ntmps135
  go_wp2_with (at_builtin;refine wpList_append_empty rfl (.tmp 5) (.tmp 6) rfl tE_set eI_ok rfl rfl (H.out.below (below_box _ _)) HL.out HM.out ?_;intro v' w' hb ho)
  have HO:=Lib.hid ho;clear ho
  go_wp2
  go_ret
  exact ⟨v',rfl,HO.out.base (by simp),below_from (hb.mono (by simp))⟩
theorem tE_table:ElemT Try.prog 151 98 2 16:=⟨Try.underlying151,tP.ex,by decide⟩
set_option maxRecDepth 100000 in
set_option maxHeartbeats 400000 in
theorem clone_table {v:Value} {l:List (Int×Int)} {w:World} (h:Arr w eP 2 v l) (hl:l.length * 16≤281474976710656) :
  Calls Try.prog 150 #[v] w (RetE w 98 eP 2 l):=by
 have h0:=h
 obtain ⟨ba,cap,rfl,hlc,hcm,hc⟩:=h
 have H:=Lib.hid h0;clear h0
 have HC:=Lib.hid hc;clear hc
 have HL:=Lib.hid hl;clear hl
 have HM:=Lib.hid (Nat.le_trans hlc hcm);clear hlc hcm
 have hq:=fun wx=>Lib.run_eql_slice_nil (P:=Try.prog) wx 151 _ ba l.length cap 0 0 Try.underlying151
 rcases ba with _ | ba
 ·have hl0:l=[]:=by
   rcases HC.out with h | ⟨_,_,h,_⟩
   ·exact h
   ·cases h
  have HL0:=Lib.hid hl0;clear hl0
  go_enter Try.func150,Try.ntmps150
  go_wp2
  go_ret
  exact ⟨_,rfl,Or.inl ⟨HL0.out,none,rfl⟩,Below.refl _ _⟩
 ·go_enter Try.func150,Try.ntmps150
  go_wp2_with (at_builtin;refine wpList_append_empty rfl (.tmp 5) (.tmp 6) rfl tE_table eP_ok rfl rfl (H.out.below (below_box _ _)) HL.out HM.out ?_;intro v' w' hb ho)
  have HO:=Lib.hid ho;clear ho
  go_wp2
  go_ret
  exact ⟨v',rfl,HO.out.base (by simp),below_from (hb.mono (by simp))⟩
end Go.Proofs.Ytkjeedlkkpgopaa
namespace Go.Proofs.Ytkjeedlkkpgopaa
open Go.RowKit
structure ElemI (P:Program) (e:TypeId) (size bytes:Nat) (z:Value):Prop where
 ex:∃ i,P.info? e=some i∧i.zero=some z∧i.size=size∧i.bytes=bytes
 zs:z.cells.size=size
 z1:∀ u∈z.cells.toList,u.oneCell' = true
 pos:0<size
theorem ElemI.sizeOf {P:Program} {e:TypeId} {size bytes:Nat} {z:Value} (I:ElemI P e size bytes z) (w:World):(Go.sizeOf e).run P w = .ok size w:=by
 obtain ⟨i0,hi,_,hs,_⟩:=I.ex
 simp [Go.sizeOf,typeInfo,hi,hs]
theorem run_copy_rowS {P:Program} (w:World) (dT sT ty elem:TypeId) (s:Nat) (g o dLen dCap:Nat) (a:Addr) (sLen sCap:Nat) (cur:List Value) (t:TypeId) (cs:List Value)
  (hu:P.underlying dT=some (.slice elem)) (hs:(P.info? elem).map (·.size)=some s)
  (hg:w.heap[g]? = some (.cells cur.toArray t (0,0))) (hn:cs.length=Nat.min sLen dLen * s)
  (hsrc:∀ j v,cs[j]? = some v→w.cell? (a.add j)=some v) (hfit:o+cs.length≤cur.length) (h1:∀ v∈cs,v.oneCell' = true) :
  (Builtin.copy_ #[dT,sT] ty #[.slice (some ⟨g,o,none⟩) dLen dCap,.slice (some a) sLen sCap]).run P w =
   .ok (goInt (Nat.min sLen dLen)) (w.setRow g (splice cur o cs).toArray):=by
 have hl:=run_loadCells_list (P:=P) w a cs hsrc
 have hst:=run_storeCells_at P g o t cs 0 cur.toArray w hg (by simpa using hfit) h1
 cases hq:P.info? elem with
 | none=>simp [hq] at hs
 | some i =>
  have hi:i.size=s:=by simpa [hq] using hs
  subst hi
  simp [Builtin.copy_,run_underlying hu,Builtin.lenOf,Builtin.firstCells,sizeOf,typeInfo,hq,← hn,hl,hst,splice]
theorem wp_copy_rowS {P:Program} {w:World} {o:Oper} {a:Act} {K:Act→World→Prop} {Q:Exit→Act→World→Prop} (d s:Operand) (dT sT:TypeId)
  (ho:o.op = .call { callee:=.builtin .copy,args:=#[d,s],argTypes:=#[dT,sT] }) (elem:TypeId) (size:Nat) (hu:P.underlying dT=some (.slice elem)) (hsz:(P.info? elem).map (·.size)=some size)
  {g off dLen dCap:Nat} {ad:Addr} {sLen sCap:Nat} (hd:a.eval d = .slice (some ⟨g,off,none⟩) dLen dCap) (hs:a.eval s = .slice (some ad) sLen sCap)
  {cur:List Value} {t:TypeId} (hg:w.heap[g]? = some (.cells cur.toArray t (0,0))) (cs:List Value) (hn:cs.length=Nat.min sLen dLen * size)
  (hsrc:∀ j v,cs[j]? = some v→w.cell? (ad.add j)=some v) (hfit:off+cs.length≤cur.length) (h1:∀ v∈cs,v.oneCell' = true)
  (h:∀ w',w' = w.setRow g (splice cur off cs).toArray→K (a.put o.dst (goInt (Nat.min sLen dLen))) w'):o.wp P a w K Q:=by
 have hr:=run_copy_rowS (P:=P) w dT sT o.type elem size g off dLen dCap ad sLen sCap cur t cs hu hsz hg hn hsrc hfit h1
 unfold Oper.wp execOp
 simp only [ho,resolve,invoke,builtin,Sem.run_bind,Sem.run_pure,Result.andThen_ok,List.map_toArray,List.map_cons,List.map_nil,hs,hd,hr]
 exact h _ rfl
theorem wpList_copy_rowS {P:Program} {w:World} {ops:Array Oper} {rest:List Oper} {o:Oper} {a:Act} {Q:Exit→Act→World→Prop} (hgd:o.guard=none) (d s:Operand) (dT sT:TypeId)
  (ho:o.op = .call { callee:=.builtin .copy,args:=#[d,s],argTypes:=#[dT,sT] }) (elem:TypeId) (size:Nat) (hu:P.underlying dT=some (.slice elem)) (hsz:(P.info? elem).map (·.size)=some size)
  {g off dLen dCap:Nat} {ad:Addr} {sLen sCap:Nat} (hd:a.eval d = .slice (some ⟨g,off,none⟩) dLen dCap) (hs:a.eval s = .slice (some ad) sLen sCap)
  {cur:List Value} {t:TypeId} (hg:w.heap[g]? = some (.cells cur.toArray t (0,0))) (cs:List Value) (hn:cs.length=Nat.min sLen dLen * size)
  (hsrc:∀ j v,cs[j]? = some v→w.cell? (ad.add j)=some v) (hfit:off+cs.length≤cur.length) (h1:∀ v∈cs,v.oneCell' = true)
  (h:∀ w',w' = w.setRow g (splice cur off cs).toArray→wpList P ops Q rest (a.put o.dst (goInt (Nat.min sLen dLen))) w'):wpList P ops Q (o :: rest) a w :=
 wpList_plain hgd fun _ hK=>wp_copy_rowS d s dT sT ho elem size hu hsz hd hs hg cs hn hsrc hfit h1 fun w' e=>hK _ _ (h w' e)
theorem step_copy_rowS {P:Program} {w:World} {ops:Array Oper} {o:Oper} {a:Act} {K:Act→World→Prop} {Q:Exit→Act→World→Prop} {F:Prop} (hgd:o.guard=none) (d s:Operand) (dT sT:TypeId)
  (ho:o.op = .call { callee:=.builtin .copy,args:=#[d,s],argTypes:=#[dT,sT] }) (elem:TypeId) (size:Nat) (hu:P.underlying dT=some (.slice elem)) (hsz:(P.info? elem).map (·.size)=some size)
  {g off dLen dCap:Nat} {ad:Addr} {sLen sCap:Nat} (hd:a.eval d = .slice (some ⟨g,off,none⟩) dLen dCap) (hs:a.eval s = .slice (some ad) sLen sCap)
  {cur:List Value} {t:TypeId} (hg:w.heap[g]? = some (.cells cur.toArray t (0,0))) (cs:List Value) (hn:cs.length=Nat.min sLen dLen * size)
  (hsrc:∀ j v,cs[j]? = some v→w.cell? (ad.add j)=some v) (hfit:off+cs.length≤cur.length) (h1:∀ v∈cs,v.oneCell' = true)
  (h:∀ w',w' = w.setRow g (splice cur off cs).toArray→K (a.put o.dst (goInt (Nat.min sLen dLen))) w') :
  if Region.wanted o (yielded ops a.tmps)=true then Oper.wp P o a w K Q else F:=by
 have hw:Region.wanted o (yielded ops a.tmps)=true:=by simp [Region.wanted,hgd]
 rw [if_pos hw]
 exact wp_copy_rowS d s dT sT ho elem size hu hsz hd hs hg cs hn hsrc hfit h1 h
theorem run_append_zeros {P:Program} {w:World} {t tn e:TypeId} (ty:TypeId) {size bytes:Nat} {z:Value} (I:ElemI P e size bytes z) (ht:P.underlying t=some (.slice e)) (htn:P.underlying tn=some (.int .i64))
  (b:Addr) (sLen sCap k:Nat) (olds:List Value) (hlo:olds.length=sLen * size) (holds:∀ j v,olds[j]? = some v→w.cell? (b.add j)=some v) (h0:0<k) (hg:sCap<sLen+k)
  (hbytes:(sLen+k) * bytes≤140737488355328) (h63:sLen+k≤maxLen) :
  ∃ (cap:Nat) (spare:List Value),(Builtin.append_ #[t,tn] ty #[.slice (some b) sLen sCap,.int .i64 k]).run P w =
   .ok (.slice (some ⟨w.heap.size,0,none⟩) (sLen+k) cap) (w.drew.alloc (.cells (olds++(Builtin.zeroCells z.cells k).toList++spare).toArray e))∧sLen+k≤cap∧cap≤maxLen ∧
   (olds++(Builtin.zeroCells z.cells k).toList++spare).length=cap * size:=by
 obtain ⟨i,hi,hz,hsz,hby⟩:=I.ex
 subst hsz
 subst hby
 have hold:(Builtin.firstCells i.size sLen (.slice (some b) sLen sCap)).run P w.drew = .ok olds.toArray w.drew :=
  run_firstCells_some (P:=P) w.drew i.size sLen b sLen sCap olds hlo (by simpa using holds)
 have hr:=Lib.run_append_grow_zeros w t tn ty e i z .i64 .i64 ht htn hi hz (some b) sLen sCap olds hold k h0 I.pos hg (by unfold maxLen at h63;omega) (by
  have:k * i.bytes≤(sLen+k) * i.bytes:=Nat.mul_le_mul_right _ (by omega)
  omega) (growslice_fits hg hbytes)
 have hge:=grownCap_ge w (sLen+k) sCap e
 have hcm:grownCap w (sLen+k) sCap e≤maxLen:=grownCap_le_maxLen w (sLen+k) sCap e h63
 refine ⟨grownCap w (sLen+k) sCap e,(Builtin.zeroCells z.cells (grownCap w (sLen+k) sCap e - (sLen+k))).toList,?_,hge,hcm,?_⟩
 ·rw [hr]
  congr 2
  simp
 ·simp only [List.length_append,Array.length_toList,size_zeroCells,I.zs,hlo,← Nat.add_mul]
  congr 1
  omega
theorem wpList_append_zeros {P:Program} {w:World} {ops:Array Oper} {rest:List Oper} {o:Oper} {a:Act} {Q:Exit→Act→World→Prop} (hgd:o.guard=none) (s x:Operand) {t tn e:TypeId} {size bytes:Nat} {z:Value}
  (ho:o.op = .call { callee:=.builtin .append,args:=#[s,x],argTypes:=#[t,tn] }) (I:ElemI P e size bytes z) (ht:P.underlying t=some (.slice e)) (htn:P.underlying tn=some (.int .i64))
  {b:Addr} {sLen sCap:Nat} (hs:a.eval s = .slice (some b) sLen sCap) (k:Nat) {kk:Int} (hx:a.eval x = .int .i64 kk) (hk:kk=k) (olds:List Value) (hlo:olds.length=sLen * size) (holds:∀ j v,olds[j]? = some v→w.cell? (b.add j)=some v) (h0:0<k) (hg:sCap<sLen+k)
  (hbytes:(sLen+k) * bytes≤140737488355328) (h63:sLen+k≤maxLen)
  (h:∀ w' cap Z spare,w'.heap[w.heap.size]? = some (.cells (olds++(Z++spare)).toArray e (0,0))→Below w.heap.size w w'→w.heap.size<w'.heap.size→Z.length=k * size→sLen+k≤cap→cap≤maxLen→(olds++(Z++spare)).length=cap * size →
   wpList P ops Q rest (a.put o.dst (.slice (some ⟨w.heap.size,0,none⟩) (sLen+k) cap)) w'):wpList P ops Q (o :: rest) a w:=by
 subst hk
 obtain ⟨cap,spare,hr,h1,h2,h3⟩:=run_append_zeros (w:=w) o.type I ht htn b sLen sCap k olds hlo holds h0 hg hbytes h63
 refine wpList_plain hgd fun K hK=>?_
 unfold Oper.wp execOp
 simp only [ho,resolve,invoke,builtin,Sem.run_bind,Sem.run_pure,Result.andThen_ok,List.map_toArray,List.map_cons,List.map_nil,hs,hx,hr]
 rw [List.append_assoc] at h3 ⊢
 refine hK _ _ (h _ cap _ spare (heap_alloc_new w.drew _) (((Below.refl _ _).drew).alloc (Nat.le_refl _) _) (by simp) ?_ h1 h2 h3)
 rw [Array.length_toList,size_zeroCells,I.zs]
theorem run_append_rowS {P:Program} (w:World) {t ty e:TypeId} {size bytes:Nat} {z:Value} (I:ElemI P e size bytes z) (ht:P.underlying t=some (.slice e))
  (g o n cap:Nat) (a:Addr) (m c:Nat) (cur:List Value) (tt:TypeId) (cs:List Value)
  (hg:w.heap[g]? = some (.cells cur.toArray tt (0,0))) (hn:cs.length=m * size) (hroom:n+m≤cap)
  (hsrc:∀ j v,cs[j]? = some v→w.cell? (a.add j)=some v) (hfit:o+n * size+cs.length≤cur.length) (h1:∀ v∈cs,v.oneCell' = true) :
  (Builtin.append_ #[t,t] ty #[.slice (some ⟨g,o,none⟩) n cap,.slice (some a) m c]).run P w =
   .ok (.slice (some ⟨g,o,none⟩) (n+m) cap) (w.setRow g (splice cur (o+n * size) cs).toArray):=by
 obtain ⟨i,hi,_,hs,_⟩:=I.ex
 subst hs
 have hfc:=run_firstCells_some (P:=P) w i.size m a m c cs hn hsrc
 have hst:=run_storeCells_at P g (o+n * i.size) tt cs 0 cur.toArray w hg (by simpa using hfit) h1
 simp only [Nat.add_zero] at hst
 simp [Builtin.append_,run_underlying ht,sizeOf,typeInfo,hi,Builtin.lenOf,hroom,hfc,Addr.add_lit,hst,splice]
theorem step_append_rowS {P:Program} {w:World} {ops:Array Oper} {o:Oper} {a:Act} {K:Act→World→Prop} {Q:Exit→Act→World→Prop} {F:Prop} (hgd:o.guard=none) (d s:Operand) (dT:TypeId)
  (ho:o.op = .call { callee:=.builtin .append,args:=#[d,s],argTypes:=#[dT,dT] }) {e:TypeId} {size bytes:Nat} {z:Value} (I:ElemI P e size bytes z) (hu:P.underlying dT=some (.slice e))
  {g off n cap:Nat} {ad:Addr} {m c:Nat} (hd:a.eval d = .slice (some ⟨g,off,none⟩) n cap) (hs:a.eval s = .slice (some ad) m c)
  {cur:List Value} {t:TypeId} (hg:w.heap[g]? = some (.cells cur.toArray t (0,0))) (cs:List Value) (hn:cs.length=m * size) (hroom:n+m≤cap)
  (hsrc:∀ j v,cs[j]? = some v→w.cell? (ad.add j)=some v) (hfit:off+n * size+cs.length≤cur.length) (h1:∀ v∈cs,v.oneCell' = true)
  (h:∀ w',w' = w.setRow g (splice cur (off+n * size) cs).toArray→K (a.put o.dst (.slice (some ⟨g,off,none⟩) (n+m) cap)) w') :
  if Region.wanted o (yielded ops a.tmps)=true then Oper.wp P o a w K Q else F:=by
 have hw:Region.wanted o (yielded ops a.tmps)=true:=by simp [Region.wanted,hgd]
 rw [if_pos hw]
 have hr:=run_append_rowS (P:=P) w (ty:=o.type) I hu g off n cap ad m c cur t cs hg hn hroom hsrc hfit h1
 unfold Oper.wp execOp
 simp only [ho,resolve,invoke,builtin,Sem.run_bind,Sem.run_pure,Result.andThen_ok,List.map_toArray,List.map_cons,List.map_nil,hs,hd,hr]
 exact h _ rfl
theorem mem_zeroCells {z:Array Value} {n:Nat} {u:Value} (h:u∈(Builtin.zeroCells z n).toList):u∈z.toList:=by
  simp only [Builtin.zeroCells] at h
  simp only [Array.toList_map,Array.toList_range,List.mem_map,List.mem_range] at h
  obtain ⟨a,ha,rfl⟩:=h
  have h0 : 0 < z.size := by rcases Nat.eq_zero_or_pos z.size with h | h;· rw [h] at ha;omega
                             · exact h
  have h1:a % z.size<z.size:=Nat.mod_lt _ h0
  simp [getElem!_pos,h1]
theorem run_clear_rowS {P:Program} (w:World) {t ty e:TypeId} {size bytes:Nat} {z:Value} (I:ElemI P e size bytes z) (ht:P.underlying t=some (.slice e))
  (g o n c:Nat) (cur:List Value) (tt:TypeId)
  (hg:w.heap[g]? = some (.cells cur.toArray tt (0,0))) (hn:n≠0) (hfit:o+n * size≤cur.length) :
  ∃ cs:List Value,cs.length=n * size∧(Builtin.clear_ #[t] ty #[.slice (some ⟨g,o,none⟩) n c]).run P w =
   .ok (.tuple #[]) (w.setRow g (splice cur o cs).toArray):=by
 obtain ⟨i,hi,hz,hs,_⟩:=I.ex
 subst hs
 refine ⟨(Builtin.zeroCells z.cells n).toList,by rw [Array.length_toList,size_zeroCells,I.zs],?_⟩
 have hst:=run_storeCells_at P g o tt (Builtin.zeroCells z.cells n).toList 0 cur.toArray w hg (by rw [Array.length_toList,size_zeroCells,I.zs];simpa using hfit) (by
  intro u hu
  exact I.z1 u (mem_zeroCells hu))
 have hv:(zeroValue e).run P w = .ok z w:=by simp [zeroValue,typeInfo,hi,hz]
 obtain ⟨k,rfl⟩:∃ k,n=k+1:=⟨n - 1,by omega⟩
 simp [Builtin.clear_,run_underlying ht,hv,hst,splice]
theorem wpList_clear_rowS {P:Program} {w:World} {ops:Array Oper} {rest:List Oper} {o:Oper} {a:Act} {Q:Exit→Act→World→Prop} (hgd:o.guard=none) (d:Operand) (dT:TypeId)
  (ho:o.op = .call { callee:=.builtin .clear,args:=#[d],argTypes:=#[dT] }) {e:TypeId} {size bytes:Nat} {z:Value} (I:ElemI P e size bytes z) (hu:P.underlying dT=some (.slice e))
  {g off n c:Nat} (hd:a.eval d = .slice (some ⟨g,off,none⟩) n c) {cur:List Value} {t:TypeId} (hg:w.heap[g]? = some (.cells cur.toArray t (0,0))) (hn:n≠0) (hfit:off+n * size≤cur.length)
  (h:∀ w' cs,cs.length=n * size→w' = w.setRow g (splice cur off cs).toArray→wpList P ops Q rest (a.put o.dst (.tuple #[])) w'):wpList P ops Q (o :: rest) a w:=by
 obtain ⟨cs,hcs,hr⟩:=run_clear_rowS (P:=P) w (ty:=o.type) I hu g off n c cur t hg hn hfit
 refine wpList_plain hgd fun K hK=>?_
 unfold Oper.wp execOp
 simp only [ho,resolve,invoke,builtin,Sem.run_bind,Sem.run_pure,Result.andThen_ok,List.map_toArray,List.map_cons,List.map_nil,hd,hr]
 exact hK _ _ (h _ cs hcs rfl)
theorem splice_at {α:Type} (X Z R E:List α) (k:Nat) (hX:X.length=k) (hZ:Z.length=E.length):splice (X++(Z++R)) k E=X++(E++R):=by
 subst hX
 unfold splice
 rw [List.take_left,← hZ]
 congr 2
 rw [← List.append_assoc,show X.length+Z.length=(X++Z).length by simp,List.drop_left]
theorem splice_ins {α:Type} (X Y S E:List α) (k s:Nat) (hX:X.length=k) (hE:E.length=s) (hS:s≤S.length) :
  splice (splice (X++(Y++S)) (k+s) Y) k E=X++(E++(Y++S.drop s)):=by
 obtain ⟨Z,R,hZR,hZ⟩:∃ Z R,Y++S=Z++R∧Z.length=s:=⟨(Y++S).take s,(Y++S).drop s,(List.take_append_drop _ _).symm,by rw [List.length_take,List.length_append];omega⟩
 have e1:splice (X++(Y++S)) (k+s) Y=(X++Z)++(Y++S.drop s):=by
  rw [hZR,← List.append_assoc]
  have hR:R=(R.take Y.length)++R.drop Y.length:=(List.take_append_drop _ _).symm
  have hRl:R.length=Y.length+S.length - s:=by
   have:=congrArg List.length hZR
   simp only [List.length_append] at this
   omega
  rw [hR,splice_at (X++Z) (R.take Y.length) (R.drop Y.length) Y (k+s) (by simp [hX,hZ]) (by rw [List.length_take];omega)]
  congr 2
  have h2:(Y++S).drop (s+Y.length)=R.drop Y.length:=by
   rw [hZR,← hZ,List.drop_append,show Z.length+Y.length - Z.length=Y.length by omega,List.drop_eq_nil_of_le (by omega),List.nil_append]
  rw [← h2,List.drop_append,show s+Y.length - Y.length=s by omega,List.drop_eq_nil_of_le (by omega),List.nil_append]
 rw [e1,List.append_assoc,splice_at X Z (Y++S.drop s) E k hX (by rw [hZ,hE])]
theorem splice_new {α:Type} (X Z S E Y:List α) (k s:Nat) (hX:X.length=k) (hE:E.length=s) (hZ:Z.length=s+Y.length) :
  splice (splice (X++(Z++S)) k E) (k+s) Y=X++(E++(Y++S)):=by
 have hz:Z=Z.take s++Z.drop s:=(List.take_append_drop _ _).symm
 rw [hz,List.append_assoc,splice_at X (Z.take s) (Z.drop s++S) E k hX (by rw [List.length_take,hE];omega),← List.append_assoc,
  splice_at (X++E) (Z.drop s) S Y (k+s) (by simp [hX,hE]) (by rw [List.length_drop];omega),List.append_assoc]
end Go.Proofs.Ytkjeedlkkpgopaa
namespace Go.Proofs.Ytkjeedlkkpgopaa
open Go.RowKit
theorem zI:ElemI Try.prog 3 1 8 (.int .i64 0):=by
 obtain ⟨i0,hi,hz0,hz1,hz2⟩:=info_parts (show (Try.prog.info? 3).map (fun i=>(i.zero,i.size,i.bytes))=some (some (.int .i64 0),1,8) by kernel_rfl)
 exact ⟨⟨i0,hi,hz0,hz1,hz2⟩,rfl,by simp [Value.cells,Value.oneCell'],by decide⟩
theorem zP:ElemI Try.prog 98 2 16 (.agg #[.int .i64 0,.int .i64 0]):=by
 obtain ⟨i0,hi,hz0,hz1,hz2⟩:=info_parts (show (Try.prog.info? 98).map (fun i=>(i.zero,i.size,i.bytes))=some (some (.agg #[.int .i64 0,.int .i64 0]),2,16) by kernel_rfl)
 exact ⟨⟨i0,hi,hz0,hz1,hz2⟩,rfl,by simp [Value.cells,Value.oneCell'],by decide⟩
def insAt {α:Type} (l:List α) (i:Nat) (x:α):List α:=l.take i++x :: l.drop i
theorem insAt_len {α:Type} (l:List α) (i:Nat) (x:α) (hi:i≤l.length):(insAt l i x).length=l.length+1:=by simp [insAt];omega
def RetB {α:Type} (W:World) (B:Nat) (e:TypeId) (enc:α→List Value) (s:Nat) (l:List α) (r:Ending) (w' : World):Prop:=∃ v',r = .returned v'∧OwnE w' B e enc s v' l∧Below B W w'
theorem below_grown {w w' : World} {o:Option Nat} {B:Nat} (hB:B≤w.heap.size) (h:w.grownBy w' o) (ho:∀ k,o=some k→B≤k):Below B w w' :=
 ⟨h.os,h.tape,h.output,h.size,fun k hk=>h.block k (by omega) (fun e=>by have:=ho k e.symm;omega)⟩
theorem append_types {P:Program} {t t' ty e:TypeId} {size bytes:Nat} (T:ElemT P t e size bytes) (h' : P.underlying t' = some (.slice e)) (v v2:Value) (w:World) :
  (Builtin.append_ #[t,t'] ty #[v,v2]).run P w=(Builtin.append_ #[t,t] ty #[v,v2]).run P w:=by
 obtain ⟨i,z,hi,_⟩:=T.ex
 cases v <;> simp [Builtin.append_,run_underlying T.ht,run_underlying h',sizeOf,typeInfo,hi]
theorem wpList_append_arr2 {P:Program} {w:World} {ops:Array Oper} {rest:List Oper} {o:Oper} {a:Act} {Q:Exit→Act→World→Prop} (hgd:o.guard=none) (s x:Operand) {t t' e:TypeId} {size bytes:Nat}
  (ho:o.op = .call { callee:=.builtin .append,args:=#[s,x],argTypes:=#[t,t'] }) (ht' : P.underlying t' = some (.slice e)) (T:ElemT P t e size bytes) (base:Nat)
  {v:Value} {n:Nat} {cs:List Value} (hs:a.eval s=v) (hown:w.ownsRow base e size v n cs)
  {α:Type} {enc:α→List Value} (E:EncT enc size) {v2:Value} {xs:List α} (hx:a.eval x=v2) (hxs:Arr w enc size v2 xs)
  (hbytes:(n+xs.length) * bytes≤140737488355328) (h63:n+xs.length≤maxLen) (hbase:base≤w.heap.size)
  (h:∀ v' w',w'.ownsRow base e size v' (n+xs.length) (cs++xs.flatMap enc)→w.grownBy w' v.ownBlock→wpList P ops Q rest (a.put o.dst v') w'):wpList P ops Q (o :: rest) a w:=by
 refine wpList_plain hgd fun K hK=>?_
 obtain ⟨i,z,hi,hz,hsz,hby,hzs⟩:=T.ex
 obtain ⟨v',w',hr,h2,h3⟩:=run_append_arr (P:=P) (w:=w) base t o.type e i z size bytes T.ht hi hz hsz hby hzs T.pos v n cs hown E.len E.one v2 xs hxs h63 hbytes hbase
 rw [← append_types T ht'] at hr
 unfold Oper.wp execOp
 simp only [ho,resolve,invoke,builtin,Sem.run_bind,Sem.run_pure,Result.andThen_ok,List.map_toArray,List.map_cons,List.map_nil,hs,hx,hr]
 exact hK _ _ (h v' w' h2 h3)
theorem wpList_append_empty2 {P:Program} {w:World} {ops:Array Oper} {rest:List Oper} {o:Oper} {a:Act} {Q:Exit→Act→World→Prop} (hgd:o.guard=none) (s x:Operand) {t t' e:TypeId} {size bytes:Nat}
  (ho:o.op = .call { callee:=.builtin .append,args:=#[s,x],argTypes:=#[t,t'] }) (ht' : P.underlying t' = some (.slice e)) (T:ElemT P t e size bytes)
  {α:Type} {enc:α→List Value} (E:EncT enc size) {ba:Option Addr} {xs:List α} (hs:a.eval s = .slice ba 0 0)
  {v2:Value} (hx:a.eval x=v2) (hxs:Arr w enc size v2 xs)
  (hbytes:xs.length * bytes≤140737488355328) (h63:xs.length≤maxLen)
  (h:∀ v' w',Below w.heap.size w w'→OwnE w' w.heap.size e enc size v' xs→wpList P ops Q rest (a.put o.dst v') w'):wpList P ops Q (o :: rest) a w:=by
 refine wpList_plain hgd fun K hK=>?_
 obtain ⟨v',w',hr,h2,h3⟩:=run_append_full (w:=w) T o.type E (arr_empty w enc size ba) hxs (by simpa using hbytes) (by simpa using h63)
 rw [← append_types T ht'] at hr
 unfold Oper.wp execOp
 simp only [ho,resolve,invoke,builtin,Sem.run_bind,Sem.run_pure,Result.andThen_ok,List.map_toArray,List.map_cons,List.map_nil,hs,hx,hr]
 refine hK _ _ (h v' w' h2 ?_)
 rcases h3 with ⟨h1,h2,_⟩ | ⟨_,h2⟩
 ·exact Or.inl ⟨h1,ba,h2⟩
 ·simp only [Nat.zero_add,List.nil_append] at h2
  exact Or.inr h2
set_option maxRecDepth 100000 in
set_option maxHeartbeats 1000000 in
theorem insert_table_grow {w:World} {B g n cap i nb:Nat} {l:List (Int×Int)} {x:(Int×Int)} (hn:n=l.length) (hi:i<n) (hB:B≤w.heap.size)
  (hown:w.ownsRow B 98 2 (.slice (some ⟨g,0,none⟩) n cap) l.length (l.flatMap eP)) (hx:w.heap[nb]? = some (.cells (eP x).toArray 98)) (hc:n=cap) (hbig:(n+1) * 16≤140737488355328) :
  Calls Try.prog 149 #[.slice (some ⟨g,0,none⟩) n cap,.int .i64 i,.slice (some ⟨nb,0,none⟩) 1 1] w (RetB w B 98 eP 2 (insAt l i x)):=by
 subst hc
 have HX:=Lib.hid hx;clear hx
 have HN:=Lib.hid hn;clear hn
 have HO:=Lib.hid hown;clear hown
 have HBG:=Lib.hid hbig;clear hbig
 have hnn:(n:Int)+1>(n:Int):=by omega
 have hin:((i:Int) == (n:Int))=false:=by rw [beq_eq_false_iff_ne];omega
 have hii:(i:Int)≤(n:Int):=by omega
 have hnb:n≤100000000000000:=by have:=HBG.out;omega
 go_enter Try.func149,Try.ntmps149
 go_upto_region 9 with (fail)
 -- the new row
 have ek:((n+1 - i:Nat):Int)=(n:Int)+1 - (i:Int):=by omega
 have hX1:((l.take i).flatMap eP).length=i * 2:=by rw [flat_len eP_ok.len,List.length_take,← HN.out];congr 1;omega
 have hX2:((l.drop i).flatMap eP).length=(n - i) * 2:=by rw [flat_len eP_ok.len,List.length_drop,← HN.out]
 have hcells:=HO.out.cells (g:=g) rfl
 have hsplit:l.flatMap eP=(l.take i).flatMap eP++(l.drop i).flatMap eP:=by rw [← List.flatMap_append,List.take_append_drop]
 obtain ⟨X,eX⟩:∃ X,(l.take i).flatMap eP=X:=⟨_,rfl⟩
 obtain ⟨Y,eY⟩:∃ Y,(l.drop i).flatMap eP=Y:=⟨_,rfl⟩
 have hold:∀ j v,X[j]? = some v→w.cell? ((⟨g,0,none⟩:Addr).add j)=some v:=fun j v hv=>hcells j v (by rw [hsplit,eX,List.getElem?_append_left (List.getElem?_eq_some_iff.1 hv).1];exact hv)
 rw [eX] at hX1
 rw [eY] at hX2
 rw [eX,eY] at hsplit
 have HOLD:=Lib.hid hold;clear hold
 have HX1:=Lib.hid hX1;clear hX1
 have HX2:=Lib.hid hX2;clear hX2
 have HSP:=Lib.hid hsplit;clear hsplit
 have EX:=Lib.hid eX;clear eX
 have EY:=Lib.hid eY;clear eY
 have HC:=Lib.hid hcells;clear hcells
 have EK:=Lib.hid ek;clear ek
 go_upto_region 10 with (at_builtin;refine wpList_append_zeros rfl (.tmp 34) (.tmp 39) rfl zP Try.underlying151 Try.underlying3 rfl (n+1 - i) rfl EK.out.symm X HX1.out HOLD.out (by omega) (by omega) (by have:=HBG.out;omega) (by unfold maxLen;omega) ?_;intro W1 cap2 Z spare hG0 hB1 hS1 hZ hcap hcm hlen;have HG0:=Lib.hid hG0;clear hG0;have HB1:=Lib.hid hB1;clear hB1;have HLEN:=Lib.hid hlen;clear hlen;have HZ:=Lib.hid hZ;clear hZ;have HS1:=Lib.hid hS1;clear hS1)
 have hG0:=HG0.out
 have hB1:=HB1.out
 have hsrc1:∀ j v,(eP x)[j]? = some v→W1.cell? ((⟨nb,0,none⟩:Addr).add j)=some v:=fun j v hv=>by
  have:=cell_of_row w nb j _ _ (0,0) HX.out
  rw [show (⟨nb,0,none⟩:Addr).add j=⟨nb,j,none⟩ by unfold Addr.add;split <;> simp_all]
  exact keeps_below hB1 _ _ (this.trans (by simpa using hv))
 have hk1:((i:Nat)+(n+1 - i):Nat)=n+1:=by omega
 rw [hk1]
 have hn1:(eP x).length=Nat.min 1 (n+1 - i) * 2:=by rw [eP_ok.len];have:Nat.min 1 (n+1 - i)=1:=Nat.min_eq_left (by omega);rw [this]
 have hf1:i * 2+(eP x).length≤(X++(Z++spare)).length:=by rw [HLEN.out,eP_ok.len];omega
 have h11:∀ v∈eP x,v.oneCell' = true:=eP_ok.one x
 have hG1:=setRow_heap W1 w.heap.size _ (splice (X++(Z++spare)) (i * 2) (eP x)).toArray 98 (0,0) HG0.out
 have hB2:Below w.heap.size w (W1.setRow w.heap.size (splice (X++(Z++spare)) (i * 2) (eP x)).toArray):=below_setRow' HB1.out (Nat.le_refl _) _
 have hsrc2:∀ j v,Y[j]? = some v→(W1.setRow w.heap.size (splice (X++(Z++spare)) (i * 2) (eP x)).toArray).cell? ((⟨g,i * 2,none⟩:Addr).add j)=some v:=fun j v hv=>by
  have h0:=HC.out (i * 2+j) v (by rw [HSP.out,List.getElem?_append_right (by rw [HX1.out];omega),HX1.out];rw [← hv];congr 1;omega)
  have ea:(⟨g,i * 2,none⟩:Addr).add j=(⟨g,0,none⟩:Addr).add (i * 2+j):=by unfold Addr.add;split <;> split <;> simp_all
  rw [ea]
  exact keeps_below hB2 _ _ h0
 have hl2:(splice (X++(Z++spare)) (i * 2) (eP x)).length=(X++(Z++spare)).length:=length_splice _ _ _ hf1
 have hfin:splice (splice (X++(Z++spare)) (i * 2) (eP x)) (i * 2+2) Y=(insAt l i x).flatMap eP++spare:=by
  rw [splice_new X Z spare (eP x) Y (i * 2) 2 (by rw [HX1.out]) (eP_ok.len x) (by rw [HZ.out,HX2.out];omega)]
  simp only [insAt,List.flatMap_append,List.flatMap_cons,EX.out,EY.out,List.append_assoc]
 have HSRC1:=Lib.hid hsrc1;clear hsrc1
 have HN1:=Lib.hid hn1;clear hn1
 have HF1:=Lib.hid hf1;clear hf1
 have H11:=Lib.hid h11;clear h11
 have HG1:=Lib.hid hG1;clear hG1
 have HB2:=Lib.hid hB2;clear hB2
 have HSRC2:=Lib.hid hsrc2;clear hsrc2
 have HL2:=Lib.hid hl2;clear hl2
 have HFIN:=Lib.hid hfin;clear hfin
 clear hG0 hB1
 go_upto_region 11 with (refine wpList_copy_rowS rfl (.tmp 43) (.tmp 44) 151 68 rfl 98 2 Try.underlying151 (by kernel_rfl) rfl rfl HG0.out (eP x) HN1.out HSRC1.out HF1.out H11.out ?_;intro W2 e2;subst e2)
 generalize W1.setRow w.heap.size (splice (X++(Z++spare)) (i * 2) (eP x)).toArray=W2 at *
 generalize splice (X++(Z++spare)) (i * 2) (eP x)=R2 at *
 have HG1:Hid (W2.drew.heap[w.heap.size]? = some (.cells R2.toArray 98 (0,0))):=HG1
 have HSRC2:Hid (∀ j v,Y[j]? = some v→W2.drew.cell? ((⟨g,i * 2,none⟩:Addr).add j)=some v):=HSRC2
 have hn2:Y.length=Nat.min (n - i) (n - i) * 2:=by rw [HX2.out];congr 1;simp only [Nat.min_def];split <;> omega
 have hf2:(i+1) * 2+Y.length≤R2.length:=by rw [HL2.out,HLEN.out,HX2.out];omega
 have h12:∀ v∈Y,v.oneCell' = true:=fun v hv=>by rw [← EY.out] at hv;obtain ⟨y,_,h⟩:=List.mem_flatMap.1 hv;exact eP_ok.one y v h
 have hcm2:cap2≤maxLen:=hcm
 have hret:OwnE (W2.drew.setRow w.heap.size (splice R2 ((i+1) * 2) Y).toArray) B 98 eP 2 (.slice (some ⟨w.heap.size,0,none⟩) (n+1) cap2) (insAt l i x):=by
  have hl:(insAt l i x).length=n+1:=by rw [insAt_len l i x (by rw [← HN.out];omega),HN.out]
  refine Or.inr ⟨flat_len eP_ok.len _,Or.inr ⟨w.heap.size,cap2,((insAt l i x).flatMap eP++spare).toArray,by rw [hl],hB,?_,by omega,hcm2,?_,?_⟩⟩
  ·have:=setRow_heap W2.drew w.heap.size _ (splice R2 ((i+1) * 2) Y).toArray 98 (0,0) HG1.out
   rw [this]
   have e:=HFIN.out
   rw [show i * 2+2=(i+1) * 2 by omega] at e
   rw [e]
  ·have e:=congrArg List.length HFIN.out
   rw [length_splice _ _ _ (by rw [show i * 2+2=(i+1) * 2 by omega];exact hf2),HL2.out,HLEN.out] at e
   first | exact e.symm | simpa using e.symm
  ·rw [← flat_len eP_ok.len];exact List.take_left
 have hbel:Below w.heap.size w (W2.drew.setRow w.heap.size (splice R2 ((i+1) * 2) Y).toArray):=below_setRow' HB2.out.drew (Nat.le_refl _) _
 have HN2:=Lib.hid hn2;clear hn2
 have HF2:=Lib.hid hf2;clear hf2
 have H12:=Lib.hid h12;clear h12
 have HRET:=Lib.hid hret;clear hret
 have HBEL:=Lib.hid hbel;clear hbel
 have hw1:IntKind.i64.wrap ((i:Int)+(1:Int))=(i:Int)+(1:Int):=by rw [IntKind.wrap_i64];omega
 have hb1:(0:Int)≤(i:Int)+(1:Int):=by omega
 have htn:((i:Int)+(1:Int)).toNat=i+1:=by omega
 have hb3:(i:Int)+1≤(n:Int)+1:=by omega
 have hb4:¬ (cap2=i+1):=by omega
 have hb5:¬ (n=i):=by omega
 go_region_law (refine step_copy_rowS (off:=(i+1) * 2) (dCap:=cap2 - (i+1)) (ad:=⟨g,i * 2,none⟩) (sCap:=n - i) rfl (.tmp 50) (.tmp 53) 151 151 rfl 98 2 Try.underlying151 (by kernel_rfl) (by simp [Act.eval,Act.put]) (by simp [Act.eval,Act.put]) HG1.out Y HN2.out HSRC2.out HF2.out H12.out ?_;intro W3 e3;subst e3)
 go_wp2
 go_ret
 exact ⟨_,rfl,HRET.out,HBEL.out.mono hB⟩
set_option maxRecDepth 100000 in
set_option maxHeartbeats 1000000 in
theorem insert_table_room {w:World} {B g n cap i nb:Nat} {l:List (Int×Int)} {x:(Int×Int)} (hn:n=l.length) (hi:i<n)
  (hown:w.ownsRow B 98 2 (.slice (some ⟨g,0,none⟩) n cap) l.length (l.flatMap eP)) (hx:w.heap[nb]? = some (.cells (eP x).toArray 98)) (hne:nb≠g) (hc:n+1≤cap) :
  Calls Try.prog 149 #[.slice (some ⟨g,0,none⟩) n cap,.int .i64 i,.slice (some ⟨nb,0,none⟩) 1 1] w (RetB w B 98 eP 2 (insAt l i x)):=by
 obtain ⟨hlen0,⟨h0,_⟩ | ⟨g',cap',cur,he,hBg,hg,_,hcm,hcs,htk⟩⟩:=hown
 ·cases h0
 simp only [Value.slice.injEq,Option.some.injEq,Addr.mk.injEq] at he
 obtain ⟨⟨rfl,-⟩,-,rfl⟩:=he
 have hX1:((l.take i).flatMap eP).length=i * 2:=by rw [flat_len eP_ok.len,List.length_take,← hn];omega
 have hX2:((l.drop i).flatMap eP).length=(n - i) * 2:=by rw [flat_len eP_ok.len,List.length_drop,← hn]
 have hsplit:l.flatMap eP=(l.take i).flatMap eP++(l.drop i).flatMap eP:=by rw [← List.flatMap_append,List.take_append_drop]
 obtain ⟨X,eX⟩:∃ X,(l.take i).flatMap eP=X:=⟨_,rfl⟩
 obtain ⟨Y,eY⟩:∃ Y,(l.drop i).flatMap eP=Y:=⟨_,rfl⟩
 obtain ⟨S,eS⟩:∃ S,cur.toList.drop (n * 2)=S:=⟨_,rfl⟩
 rw [eX] at hX1
 rw [eY] at hX2
 rw [eX,eY] at hsplit
 have hS:S.length=(cap - n) * 2:=by rw [← eS,List.length_drop,Array.length_toList,hcs];omega
 have hcur:cur=(X++(Y++S)).toArray:=by
  have h1:cur.toList=X++(Y++S):=by rw [← List.append_assoc,← hsplit,← htk,← hn,← eS,List.take_append_drop]
  rw [← h1]
 subst hcur
 clear hlen0 hcs htk eS hsplit
 have hl0:(X++(Y++S)).length=cap * 2:=by simp only [List.length_append,hX1,hX2,hS];omega
 have h1Y:∀ v∈Y,v.oneCell' = true:=fun v hv=>by rw [← eY] at hv;obtain ⟨y,_,h⟩:=List.mem_flatMap.1 hv;exact eP_ok.one y v h
 have hov:∀ lb cb,(callFunc 154 #[.slice (some ⟨nb,0,none⟩) 1 1,.slice (some ⟨g,(i+1) * 2,none⟩) lb cb]).run Try.prog w = .ok (.value (.bool false)) w:=fun lb cb=>by
  rw [run_callFunc_extern Try.func154 (by kernel_rfl) (by kernel_rfl) (by kernel_rfl) (e:=Extern.SlicesOverlaps.overlaps #[68,68] #[4]) (by kernel_rfl),
   Lib.run_overlaps_apart w 68 4 98 Try.underlying68 2 (fun w=>zP.sizeOf w) ⟨nb,0,none⟩ ⟨g,(i+1) * 2,none⟩ 1 1 lb cb hne _ _ _ _ (by simp only [World.shape?,hx];rfl) (by simp only [World.shape?,hg];rfl)
    (by rw [List.size_toArray,hl0];omega) (by simp [World.frozen?,hx]) (by simp [World.frozen?,hx])]
  rfl
 have hg0:w.drew.heap[g]? = some (.cells (X++(Y++S)).toArray 98 (0,0)):=hg
 have hsrcY:∀ j v,Y[j]? = some v→w.drew.cell? ((⟨g,i * 2,none⟩:Addr).add j)=some v:=fun j v hv=>by
  have ea:(⟨g,i * 2,none⟩:Addr).add j=⟨g,i * 2+j,none⟩:=by unfold Addr.add;split <;> simp_all
  rw [ea,cell_of_row w.drew g (i * 2+j) _ _ (0,0) hg0]
  rw [List.getElem?_toArray,List.getElem?_append_right (by rw [hX1];omega),hX1,show i * 2+j - i * 2=j by omega,List.getElem?_append_left (List.getElem?_eq_some_iff.1 hv).1]
  exact hv
 have hnY:Y.length=Nat.min (n+1 - i) (n - i) * 2:=by rw [hX2];congr 1;simp only [Nat.min_def];split <;> omega
 have hfY:(i+1) * 2+Y.length≤(X++(Y++S)).length:=by rw [hl0,hX2];omega
 have hl1:(splice (X++(Y++S)) ((i+1) * 2) Y).length=(X++(Y++S)).length:=length_splice _ _ _ hfY
 have hg1:=setRow_heap w.drew g _ (splice (X++(Y++S)) ((i+1) * 2) Y).toArray 98 (0,0) hg0
 have hx1:(w.drew.setRow g (splice (X++(Y++S)) ((i+1) * 2) Y).toArray).heap[nb]? = some (.cells (eP x).toArray 98):=(setRow_other _ _ _ _ hne).trans hx
 have hnx:(eP x).length=Nat.min 1 (n+1 - i) * 2:=by rw [eP_ok.len];have:Nat.min 1 (n+1 - i)=1:=Nat.min_eq_left (by omega);rw [this]
 have hfx:i * 2+(eP x).length≤(splice (X++(Y++S)) ((i+1) * 2) Y).length:=by rw [hl1,hl0,eP_ok.len];omega
 have hsrcx:∀ j v,(eP x)[j]? = some v→(w.drew.setRow g (splice (X++(Y++S)) ((i+1) * 2) Y).toArray).cell? ((⟨nb,0,none⟩:Addr).add j)=some v:=fun j v hv=>by
  rw [show (⟨nb,0,none⟩:Addr).add j=⟨nb,j,none⟩ by unfold Addr.add;split <;> simp_all,cell_of_row _ nb j _ _ (0,0) hx1]
  simpa using hv
 have hfin:splice (splice (X++(Y++S)) ((i+1) * 2) Y) (i * 2) (eP x)=(insAt l i x).flatMap eP++S.drop 2:=by
  rw [show (i+1) * 2=i * 2+2 by omega,splice_ins X Y S (eP x) (i * 2) 2 hX1 (eP_ok.len x) (by rw [hS];omega)]
  simp only [insAt,List.flatMap_append,List.flatMap_cons,eX,eY,List.append_assoc]
 have hl2:=length_splice (splice (X++(Y++S)) ((i+1) * 2) Y) (i * 2) (eP x) hfx
 have hret:OwnE ((w.drew.setRow g (splice (X++(Y++S)) ((i+1) * 2) Y).toArray).setRow g (splice (splice (X++(Y++S)) ((i+1) * 2) Y) (i * 2) (eP x)).toArray) B 98 eP 2 (.slice (some ⟨g,0,none⟩) (n+1) cap) (insAt l i x):=by
  have hl:(insAt l i x).length=n+1:=by rw [insAt_len l i x (by rw [← hn];omega),hn]
  refine Or.inr ⟨flat_len eP_ok.len _,Or.inr ⟨g,cap,((insAt l i x).flatMap eP++S.drop 2).toArray,by rw [hl],hBg,?_,by omega,hcm,?_,?_⟩⟩
  ·rw [setRow_heap _ g _ _ 98 (0,0) hg1,hfin]
  ·rw [List.size_toArray,← hfin,hl2,hl1,hl0]
  ·rw [← flat_len eP_ok.len];exact List.take_left
 have hbel:Below B w ((w.drew.setRow g (splice (X++(Y++S)) ((i+1) * 2) Y).toArray).setRow g (splice (splice (X++(Y++S)) ((i+1) * 2) Y) (i * 2) (eP x)).toArray) :=
  below_setRow' (below_setRow' (Below.refl _ _).drew hBg _) hBg _
 have h1x:∀ v∈eP x,v.oneCell' = true:=eP_ok.one x
 have hnn:¬ ((n:Int)+1>(cap:Int)):=by omega
 have hin:((i:Int) == (n:Int))=false:=by rw [beq_eq_false_iff_ne];omega
 have hii:(i:Int)≤(n:Int):=by omega
 have hnb:cap≤9223372036854775807:=by unfold maxLen at hcm;omega
 have hw1:IntKind.i64.wrap ((i:Int)+(1:Int))=(i:Int)+(1:Int):=by rw [IntKind.wrap_i64];omega
 have hb1:(0:Int)≤(i:Int)+(1:Int):=by omega
 have htn:((i:Int)+(1:Int)).toNat=i+1:=by omega
 have hb3:(i:Int)+1≤(n:Int)+1:=by omega
 have hb4:¬ (cap=i+1):=by omega
 have hb5:¬ (cap=i):=by omega
 have hb6:(i:Int)≤(n:Int)+1:=by omega
 have HG0:=Lib.hid hg0
 have HG1:=Lib.hid hg1
 have HNY:=Lib.hid hnY
 have HSY:=Lib.hid hsrcY
 have HFY:=Lib.hid hfY
 have H1Y:=Lib.hid h1Y
 have HNX:=Lib.hid hnx
 have HSX:=Lib.hid hsrcx
 have HFX:=Lib.hid hfx
 have H1X:=Lib.hid h1x
 have HRET:=Lib.hid hret
 have HBEL:=Lib.hid hbel
 clear hg hx hg0 hg1 hnY hsrcY hfY h1Y hnx hsrcx hfx h1x hret hbel hl0 hl1 hl2 hfin hx1 hX1 hX2 hS eX eY hn hBg hne
 go_enter Try.func149,Try.ntmps149
 go_upto_region 15 with (simp only [hov])
 go_region_law (refine step_copy_rowS (off:=(i+1) * 2) (dCap:=cap - (i+1)) (ad:=⟨g,i * 2,none⟩) (sCap:=cap - i) rfl (.tmp 73) (.tmp 76) 151 151 rfl 98 2 Try.underlying151 (by kernel_rfl) (by simp [Act.eval,Act.put]) (by simp [Act.eval,Act.put]) HG0.out Y HNY.out HSY.out HFY.out H1Y.out ?_;intro W3 e3;subst e3)
 generalize w.drew.setRow g (splice (X++(Y++S)) ((i+1) * 2) Y).toArray=W2 at *
 generalize splice (X++(Y++S)) ((i+1) * 2) Y=R2 at *
 go_wp2_with (refine wpList_copy_rowS rfl (.tmp 80) (.tmp 81) 151 68 rfl 98 2 Try.underlying151 (by kernel_rfl) rfl rfl HG1.out (eP x) HNX.out HSX.out HFX.out H1X.out ?_;intro W3 e3;subst e3)
 go_ret
 exact ⟨_,rfl,HRET.out,HBEL.out⟩
set_option maxRecDepth 100000 in
set_option maxHeartbeats 1000000 in
theorem insert_table_end {w:World} {B nb:Nat} {v:Value} {l:List (Int×Int)} {x:(Int×Int)} (hB:B≤w.heap.size)
  (hown:OwnE w B 98 eP 2 v l) (hx:w.heap[nb]? = some (.cells (eP x).toArray 98)) (hbig:(l.length+1) * 16≤140737488355328) :
  Calls Try.prog 149 #[v,.int .i64 l.length,.slice (some ⟨nb,0,none⟩) 1 1] w (RetB w B 98 eP 2 (l++[x])):=by
 have hx1:Arr w eP 2 (.slice (some ⟨nb,0,none⟩) 1 1) [x]:=by
  refine ⟨_,1,rfl,Nat.le_refl _,by unfold maxLen;omega,Or.inr ⟨nb,0,rfl,fun k y hk j u hu=>?_⟩⟩
  have hk0:k=0:=by have:=(List.getElem?_eq_some_iff.1 hk).1;simpa using this
  subst hk0
  simp only [List.getElem?_cons_zero,Option.some.injEq] at hk
  subst hk
  rw [cell_of_row w nb _ _ _ (0,0) hx]
  simpa using hu
 have hlen:l.length≤9223372036854775807:=by omega
 have HX:=Lib.hid hx1;clear hx1
 have H63:Hid (l.length+([x]:List (Int×Int)).length≤maxLen):=by show _≤_;unfold maxLen;simp only [List.length_singleton];omega
 have HBG:Hid ((l.length+([x]:List (Int×Int)).length) * 16≤140737488355328):=hbig
 have H63' : Hid (([x]:List (Int×Int)).length≤maxLen):=by show _≤_;unfold maxLen;simp
 have HBG' : Hid (([x]:List (Int×Int)).length * 16≤140737488355328):=by show _≤_;simp
 rcases hown with ⟨rfl,ba,rfl⟩ | hown
 ·rcases ba with _ | ba
  ·go_enter Try.func149,Try.ntmps149
   go_wp2_with (at_builtin;refine wpList_append_empty2 rfl (.tmp 23) (.tmp 24) rfl Try.underlying68 tE_table eP_ok rfl rfl HX.out HBG'.out H63'.out ?_;intro v' w' hb ho)
   have HO:=Lib.hid ho;clear ho
   go_wp2
   go_ret
   exact ⟨v',rfl,HO.out.base hB,hb.mono hB⟩
  ·go_enter Try.func149,Try.ntmps149
   go_wp2_with (at_builtin;refine wpList_append_empty2 rfl (.tmp 23) (.tmp 24) rfl Try.underlying68 tE_table eP_ok rfl rfl HX.out HBG'.out H63'.out ?_;intro v' w' hb ho)
   have HO:=Lib.hid ho;clear ho
   go_wp2
   go_ret
   exact ⟨v',rfl,HO.out.base hB,hb.mono hB⟩
 ·obtain ⟨ba,cap,rfl⟩:=own_form hown
  have hbl:∀ k,(Value.slice ba l.length cap).ownBlock=some k→B≤k:=fun k hk=>(hown.lt k hk).1
  have HOWN:=Lib.hid hown;clear hown
  have HBL:=Lib.hid hbl;clear hbl
  rcases ba with _ | ba
  ·go_enter Try.func149,Try.ntmps149
   go_wp2_with (at_builtin;refine wpList_append_arr2 rfl (.tmp 23) (.tmp 24) rfl Try.underlying68 tE_table B rfl HOWN.out eP_ok rfl HX.out HBG.out H63.out hB ?_;intro v' w' ho hg;have HO:=Lib.hid ho;clear ho;have HG:=Lib.hid hg;clear hg)
   go_wp2
   all_goals (go_ret;exact ⟨v',rfl,Or.inr (by simpa using HO.out),below_grown hB HG.out HBL.out⟩)
  ·go_enter Try.func149,Try.ntmps149
   go_wp2_with (at_builtin;refine wpList_append_arr2 rfl (.tmp 23) (.tmp 24) rfl Try.underlying68 tE_table B rfl HOWN.out eP_ok rfl HX.out HBG.out H63.out hB ?_;intro v' w' ho hg;have HO:=Lib.hid ho;clear ho;have HG:=Lib.hid hg;clear hg)
   go_wp2
   all_goals (go_ret;exact ⟨v',rfl,Or.inr (by simpa using HO.out),below_grown hB HG.out HBL.out⟩)
theorem insert_table {w:World} {B nb i:Nat} {v:Value} {l:List (Int×Int)} {x:(Int×Int)} (hi:i≤l.length) (hB:B≤w.heap.size)
  (hown:OwnE w B 98 eP 2 v l) (hx:w.heap[nb]? = some (.cells (eP x).toArray 98)) (hne:∀ k,v.ownBlock=some k→l≠[]→nb≠k) (hbig:(l.length+1) * 16≤140737488355328) :
  Calls Try.prog 149 #[v,.int .i64 i,.slice (some ⟨nb,0,none⟩) 1 1] w (RetB w B 98 eP 2 (insAt l i x)):=by
 by_cases he:i=l.length
 ·subst he
  have e:insAt l l.length x=l++[x]:=by simp [insAt]
  rw [e]
  exact insert_table_end hB hown hx hbig
 ·have hl:l≠[]:=by rintro rfl;simp at hi;exact he (by simpa using hi)
  rcases hown with ⟨h,_⟩ | hown
  ·exact absurd h hl
  have hown0:=hown
  obtain ⟨_,⟨_,h⟩ | ⟨g,cap,cur,rfl,hBg,hg,hnc,_⟩⟩:=hown
  ·exact absurd (List.eq_nil_of_length_eq_zero h) hl
  by_cases hc:l.length=cap
  ·exact insert_table_grow rfl (by omega) hB hown0 hx hc hbig
  ·exact insert_table_room rfl (by omega) hown0 hx (hne g rfl hl) (by omega)
set_option maxRecDepth 100000 in
set_option maxHeartbeats 1000000 in
theorem insert_set_grow {w:World} {B g n cap i nb:Nat} {l:List Int} {x:Int} (hn:n=l.length) (hi:i<n) (hB:B≤w.heap.size)
  (hown:w.ownsRow B 3 1 (.slice (some ⟨g,0,none⟩) n cap) l.length (l.flatMap eI)) (hx:w.heap[nb]? = some (.cells (eI x).toArray 3)) (hc:n=cap) (hbig:(n+1) * 8≤140737488355328) :
  Calls Try.prog 134 #[.slice (some ⟨g,0,none⟩) n cap,.int .i64 i,.slice (some ⟨nb,0,none⟩) 1 1] w (RetB w B 3 eI 1 (insAt l i x)):=by
 subst hc
 have HX:=Lib.hid hx;clear hx
 have HN:=Lib.hid hn;clear hn
 have HO:=Lib.hid hown;clear hown
 have HBG:=Lib.hid hbig;clear hbig
 have hnn:(n:Int)+1>(n:Int):=by omega
 have hin:((i:Int) == (n:Int))=false:=by rw [beq_eq_false_iff_ne];omega
 have hii:(i:Int)≤(n:Int):=by omega
 have hnb:n≤100000000000000:=by have:=HBG.out;omega
 go_enter Try.func134,Try.ntmps134
 go_upto_region 9 with (fail)
 -- the new row
 have ek:((n+1 - i:Nat):Int)=(n:Int)+1 - (i:Int):=by omega
 have hX1:((l.take i).flatMap eI).length=i * 1:=by rw [flat_len eI_ok.len,List.length_take,← HN.out];congr 1;omega
 have hX2:((l.drop i).flatMap eI).length=(n - i) * 1:=by rw [flat_len eI_ok.len,List.length_drop,← HN.out]
 have hcells:=HO.out.cells (g:=g) rfl
 have hsplit:l.flatMap eI=(l.take i).flatMap eI++(l.drop i).flatMap eI:=by rw [← List.flatMap_append,List.take_append_drop]
 obtain ⟨X,eX⟩:∃ X,(l.take i).flatMap eI=X:=⟨_,rfl⟩
 obtain ⟨Y,eY⟩:∃ Y,(l.drop i).flatMap eI=Y:=⟨_,rfl⟩
 have hold:∀ j v,X[j]? = some v→w.cell? ((⟨g,0,none⟩:Addr).add j)=some v:=fun j v hv=>hcells j v (by rw [hsplit,eX,List.getElem?_append_left (List.getElem?_eq_some_iff.1 hv).1];exact hv)
 rw [eX] at hX1
 rw [eY] at hX2
 rw [eX,eY] at hsplit
 have HOLD:=Lib.hid hold;clear hold
 have HX1:=Lib.hid hX1;clear hX1
 have HX2:=Lib.hid hX2;clear hX2
 have HSP:=Lib.hid hsplit;clear hsplit
 have EX:=Lib.hid eX;clear eX
 have EY:=Lib.hid eY;clear eY
 have HC:=Lib.hid hcells;clear hcells
 have EK:=Lib.hid ek;clear ek
 go_upto_region 10 with (at_builtin;refine wpList_append_zeros rfl (.tmp 34) (.tmp 39) rfl zI Try.underlying150 Try.underlying3 rfl (n+1 - i) rfl EK.out.symm X HX1.out HOLD.out (by omega) (by omega) (by have:=HBG.out;omega) (by unfold maxLen;omega) ?_;intro W1 cap2 Z spare hG0 hB1 hS1 hZ hcap hcm hlen;have HG0:=Lib.hid hG0;clear hG0;have HB1:=Lib.hid hB1;clear hB1;have HLEN:=Lib.hid hlen;clear hlen;have HZ:=Lib.hid hZ;clear hZ;have HS1:=Lib.hid hS1;clear hS1)
 have hG0:=HG0.out
 have hB1:=HB1.out
 have hsrc1:∀ j v,(eI x)[j]? = some v→W1.cell? ((⟨nb,0,none⟩:Addr).add j)=some v:=fun j v hv=>by
  have:=cell_of_row w nb j _ _ (0,0) HX.out
  rw [show (⟨nb,0,none⟩:Addr).add j=⟨nb,j,none⟩ by unfold Addr.add;split <;> simp_all]
  exact keeps_below hB1 _ _ (this.trans (by simpa using hv))
 have hk1:((i:Nat)+(n+1 - i):Nat)=n+1:=by omega
 rw [hk1]
 have hn1:(eI x).length=Nat.min 1 (n+1 - i) * 1:=by rw [eI_ok.len];have:Nat.min 1 (n+1 - i)=1:=Nat.min_eq_left (by omega);rw [this]
 have hf1:i+(eI x).length≤(X++(Z++spare)).length:=by rw [HLEN.out,eI_ok.len];omega
 have h11:∀ v∈eI x,v.oneCell' = true:=eI_ok.one x
 have hG1:=setRow_heap W1 w.heap.size _ (splice (X++(Z++spare)) (i) (eI x)).toArray 3 (0,0) HG0.out
 have hB2:Below w.heap.size w (W1.setRow w.heap.size (splice (X++(Z++spare)) (i) (eI x)).toArray):=below_setRow' HB1.out (Nat.le_refl _) _
 have hsrc2:∀ j v,Y[j]? = some v→(W1.setRow w.heap.size (splice (X++(Z++spare)) (i) (eI x)).toArray).cell? ((⟨g,i,none⟩:Addr).add j)=some v:=fun j v hv=>by
  have h0:=HC.out (i+j) v (by rw [HSP.out,List.getElem?_append_right (by rw [HX1.out];omega),HX1.out];rw [← hv];congr 1;omega)
  have ea:(⟨g,i,none⟩:Addr).add j=(⟨g,0,none⟩:Addr).add (i+j):=by unfold Addr.add;split <;> split <;> simp_all
  rw [ea]
  exact keeps_below hB2 _ _ h0
 have hl2:(splice (X++(Z++spare)) (i) (eI x)).length=(X++(Z++spare)).length:=length_splice _ _ _ hf1
 have hfin:splice (splice (X++(Z++spare)) (i) (eI x)) (i+1) Y=(insAt l i x).flatMap eI++spare:=by
  rw [splice_new X Z spare (eI x) Y (i) 1 (by rw [HX1.out];omega) (eI_ok.len x) (by rw [HZ.out,HX2.out];omega)]
  simp only [insAt,List.flatMap_append,List.flatMap_cons,EX.out,EY.out,List.append_assoc]
 have HSRC1:=Lib.hid hsrc1;clear hsrc1
 have HN1:=Lib.hid hn1;clear hn1
 have HF1:=Lib.hid hf1;clear hf1
 have H11:=Lib.hid h11;clear h11
 have HG1:=Lib.hid hG1;clear hG1
 have HB2:=Lib.hid hB2;clear hB2
 have HSRC2:=Lib.hid hsrc2;clear hsrc2
 have HL2:=Lib.hid hl2;clear hl2
 have HFIN:=Lib.hid hfin;clear hfin
 clear hG0 hB1
 go_upto_region 11 with (refine wpList_copy_rowS rfl (.tmp 43) (.tmp 44) 150 33 rfl 3 1 Try.underlying150 (by kernel_rfl) rfl rfl HG0.out (eI x) HN1.out HSRC1.out HF1.out H11.out ?_;intro W2 e2;subst e2)
 generalize W1.setRow w.heap.size (splice (X++(Z++spare)) (i) (eI x)).toArray=W2 at *
 generalize splice (X++(Z++spare)) (i) (eI x)=R2 at *
 have HG1:Hid (W2.drew.heap[w.heap.size]? = some (.cells R2.toArray 3 (0,0))):=HG1
 have HSRC2:Hid (∀ j v,Y[j]? = some v→W2.drew.cell? ((⟨g,i,none⟩:Addr).add j)=some v):=HSRC2
 have hn2:Y.length=Nat.min (n - i) (n - i) * 1:=by rw [HX2.out];congr 1;simp only [Nat.min_def];split <;> omega
 have hf2:(i+1)+Y.length≤R2.length:=by rw [HL2.out,HLEN.out,HX2.out];omega
 have h12:∀ v∈Y,v.oneCell' = true:=fun v hv=>by rw [← EY.out] at hv;obtain ⟨y,_,h⟩:=List.mem_flatMap.1 hv;exact eI_ok.one y v h
 have hcm2:cap2≤maxLen:=hcm
 have hret:OwnE (W2.drew.setRow w.heap.size (splice R2 ((i+1)) Y).toArray) B 3 eI 1 (.slice (some ⟨w.heap.size,0,none⟩) (n+1) cap2) (insAt l i x):=by
  have hl:(insAt l i x).length=n+1:=by rw [insAt_len l i x (by rw [← HN.out];omega),HN.out]
  refine Or.inr ⟨flat_len eI_ok.len _,Or.inr ⟨w.heap.size,cap2,((insAt l i x).flatMap eI++spare).toArray,by rw [hl],hB,?_,by omega,hcm2,?_,?_⟩⟩
  ·have:=setRow_heap W2.drew w.heap.size _ (splice R2 ((i+1)) Y).toArray 3 (0,0) HG1.out
   rw [this]
   have e:=HFIN.out
   rw [show i+1=(i+1) by omega] at e
   rw [e]
  ·have e:=congrArg List.length HFIN.out
   rw [length_splice _ _ _ (by rw [show i+1=(i+1) by omega];exact hf2),HL2.out,HLEN.out] at e
   first | exact e.symm | simpa using e.symm
  ·rw [← flat_len eI_ok.len];exact List.take_left
 have hbel:Below w.heap.size w (W2.drew.setRow w.heap.size (splice R2 ((i+1)) Y).toArray):=below_setRow' HB2.out.drew (Nat.le_refl _) _
 have HN2:=Lib.hid hn2;clear hn2
 have HF2:=Lib.hid hf2;clear hf2
 have H12:=Lib.hid h12;clear h12
 have HRET:=Lib.hid hret;clear hret
 have HBEL:=Lib.hid hbel;clear hbel
 have hw1:IntKind.i64.wrap ((i:Int)+(1:Int))=(i:Int)+(1:Int):=by rw [IntKind.wrap_i64];omega
 have hb1:(0:Int)≤(i:Int)+(1:Int):=by omega
 have htn:((i:Int)+(1:Int)).toNat=i+1:=by omega
 have hb3:(i:Int)+1≤(n:Int)+1:=by omega
 have hb4:¬ (cap2=i+1):=by omega
 have hb5:¬ (n=i):=by omega
 go_region_law (refine step_copy_rowS (off:=(i+1)) (dCap:=cap2 - (i+1)) (ad:=⟨g,i,none⟩) (sCap:=n - i) rfl (.tmp 50) (.tmp 53) 150 150 rfl 3 1 Try.underlying150 (by kernel_rfl) (by simp [Act.eval,Act.put]) (by simp [Act.eval,Act.put]) HG1.out Y HN2.out HSRC2.out HF2.out H12.out ?_;intro W3 e3;subst e3)
 go_wp2
 go_ret
 exact ⟨_,rfl,HRET.out,HBEL.out.mono hB⟩
set_option maxRecDepth 100000 in
set_option maxHeartbeats 1000000 in
theorem insert_set_room {w:World} {B g n cap i nb:Nat} {l:List Int} {x:Int} (hn:n=l.length) (hi:i<n)
  (hown:w.ownsRow B 3 1 (.slice (some ⟨g,0,none⟩) n cap) l.length (l.flatMap eI)) (hx:w.heap[nb]? = some (.cells (eI x).toArray 3)) (hne:nb≠g) (hc:n+1≤cap) :
  Calls Try.prog 134 #[.slice (some ⟨g,0,none⟩) n cap,.int .i64 i,.slice (some ⟨nb,0,none⟩) 1 1] w (RetB w B 3 eI 1 (insAt l i x)):=by
 obtain ⟨hlen0,⟨h0,_⟩ | ⟨g',cap',cur,he,hBg,hg,_,hcm,hcs,htk⟩⟩:=hown
 ·cases h0
 simp only [Value.slice.injEq,Option.some.injEq,Addr.mk.injEq] at he
 obtain ⟨⟨rfl,-⟩,-,rfl⟩:=he
 have hX1:((l.take i).flatMap eI).length=i:=by rw [flat_len eI_ok.len,List.length_take,← hn];omega
 have hX2:((l.drop i).flatMap eI).length=(n - i) * 1:=by rw [flat_len eI_ok.len,List.length_drop,← hn]
 have hsplit:l.flatMap eI=(l.take i).flatMap eI++(l.drop i).flatMap eI:=by rw [← List.flatMap_append,List.take_append_drop]
 obtain ⟨X,eX⟩:∃ X,(l.take i).flatMap eI=X:=⟨_,rfl⟩
 obtain ⟨Y,eY⟩:∃ Y,(l.drop i).flatMap eI=Y:=⟨_,rfl⟩
 obtain ⟨S,eS⟩:∃ S,cur.toList.drop (n * 1)=S:=⟨_,rfl⟩
 rw [eX] at hX1
 rw [eY] at hX2
 rw [eX,eY] at hsplit
 have hS:S.length=(cap - n) * 1:=by rw [← eS,List.length_drop,Array.length_toList,hcs];omega
 have hcur:cur=(X++(Y++S)).toArray:=by
  have h1:cur.toList=X++(Y++S):=by rw [← List.append_assoc,← hsplit,← htk,← hn,← eS,List.take_append_drop]
  rw [← h1]
 subst hcur
 clear hlen0 hcs htk eS hsplit
 have hl0:(X++(Y++S)).length=cap * 1:=by simp only [List.length_append,hX1,hX2,hS];omega
 have h1Y:∀ v∈Y,v.oneCell' = true:=fun v hv=>by rw [← eY] at hv;obtain ⟨y,_,h⟩:=List.mem_flatMap.1 hv;exact eI_ok.one y v h
 have hov:∀ lb cb,(callFunc 140 #[.slice (some ⟨nb,0,none⟩) 1 1,.slice (some ⟨g,(i+1),none⟩) lb cb]).run Try.prog w = .ok (.value (.bool false)) w:=fun lb cb=>by
  rw [run_callFunc_extern Try.func140 (by kernel_rfl) (by kernel_rfl) (by kernel_rfl) (e:=Extern.SlicesOverlaps.overlaps #[33,33] #[4]) (by kernel_rfl),
   Lib.run_overlaps_apart w 33 4 3 Try.underlying33 1 (fun w=>zI.sizeOf w) ⟨nb,0,none⟩ ⟨g,(i+1),none⟩ 1 1 lb cb hne _ _ _ _ (by simp only [World.shape?,hx];rfl) (by simp only [World.shape?,hg];rfl)
    (by rw [List.size_toArray,hl0];omega) (by simp [World.frozen?,hx]) (by simp [World.frozen?,hx])]
  rfl
 have hg0:w.drew.heap[g]? = some (.cells (X++(Y++S)).toArray 3 (0,0)):=hg
 have hsrcY:∀ j v,Y[j]? = some v→w.drew.cell? ((⟨g,i,none⟩:Addr).add j)=some v:=fun j v hv=>by
  have ea:(⟨g,i,none⟩:Addr).add j=⟨g,i+j,none⟩:=by unfold Addr.add;split <;> simp_all
  rw [ea,cell_of_row w.drew g (i+j) _ _ (0,0) hg0]
  rw [List.getElem?_toArray,List.getElem?_append_right (by rw [hX1];omega),hX1,show i+j - i=j by omega,List.getElem?_append_left (List.getElem?_eq_some_iff.1 hv).1]
  exact hv
 have hnY:Y.length=Nat.min (n+1 - i) (n - i) * 1:=by rw [hX2];congr 1;simp only [Nat.min_def];split <;> omega
 have hfY:(i+1)+Y.length≤(X++(Y++S)).length:=by rw [hl0,hX2];omega
 have hl1:(splice (X++(Y++S)) ((i+1)) Y).length=(X++(Y++S)).length:=length_splice _ _ _ hfY
 have hg1:=setRow_heap w.drew g _ (splice (X++(Y++S)) ((i+1)) Y).toArray 3 (0,0) hg0
 have hx1:(w.drew.setRow g (splice (X++(Y++S)) ((i+1)) Y).toArray).heap[nb]? = some (.cells (eI x).toArray 3):=(setRow_other _ _ _ _ hne).trans hx
 have hnx:(eI x).length=Nat.min 1 (n+1 - i) * 1:=by rw [eI_ok.len];have:Nat.min 1 (n+1 - i)=1:=Nat.min_eq_left (by omega);rw [this]
 have hfx:i+(eI x).length≤(splice (X++(Y++S)) ((i+1)) Y).length:=by rw [hl1,hl0,eI_ok.len];omega
 have hsrcx:∀ j v,(eI x)[j]? = some v→(w.drew.setRow g (splice (X++(Y++S)) ((i+1)) Y).toArray).cell? ((⟨nb,0,none⟩:Addr).add j)=some v:=fun j v hv=>by
  rw [show (⟨nb,0,none⟩:Addr).add j=⟨nb,j,none⟩ by unfold Addr.add;split <;> simp_all,cell_of_row _ nb j _ _ (0,0) hx1]
  simpa using hv
 have hfin:splice (splice (X++(Y++S)) ((i+1)) Y) (i) (eI x)=(insAt l i x).flatMap eI++S.drop 1:=by
  rw [show (i+1)=i+1 by omega,splice_ins X Y S (eI x) (i) 1 hX1 (eI_ok.len x) (by rw [hS];omega)]
  simp only [insAt,List.flatMap_append,List.flatMap_cons,eX,eY,List.append_assoc]
 have hl2:=length_splice (splice (X++(Y++S)) ((i+1)) Y) (i) (eI x) hfx
 have hret:OwnE ((w.drew.setRow g (splice (X++(Y++S)) ((i+1)) Y).toArray).setRow g (splice (splice (X++(Y++S)) ((i+1)) Y) (i) (eI x)).toArray) B 3 eI 1 (.slice (some ⟨g,0,none⟩) (n+1) cap) (insAt l i x):=by
  have hl:(insAt l i x).length=n+1:=by rw [insAt_len l i x (by rw [← hn];omega),hn]
  refine Or.inr ⟨flat_len eI_ok.len _,Or.inr ⟨g,cap,((insAt l i x).flatMap eI++S.drop 1).toArray,by rw [hl],hBg,?_,by omega,hcm,?_,?_⟩⟩
  ·rw [setRow_heap _ g _ _ 3 (0,0) hg1,hfin]
  ·rw [List.size_toArray,← hfin,hl2,hl1,hl0]
  ·rw [← flat_len eI_ok.len];exact List.take_left
 have hbel:Below B w ((w.drew.setRow g (splice (X++(Y++S)) ((i+1)) Y).toArray).setRow g (splice (splice (X++(Y++S)) ((i+1)) Y) (i) (eI x)).toArray) :=
  below_setRow' (below_setRow' (Below.refl _ _).drew hBg _) hBg _
 have h1x:∀ v∈eI x,v.oneCell' = true:=eI_ok.one x
 have hnn:¬ ((n:Int)+1>(cap:Int)):=by omega
 have hin:((i:Int) == (n:Int))=false:=by rw [beq_eq_false_iff_ne];omega
 have hii:(i:Int)≤(n:Int):=by omega
 have hnb:cap≤9223372036854775807:=by unfold maxLen at hcm;omega
 have hw1:IntKind.i64.wrap ((i:Int)+(1:Int))=(i:Int)+(1:Int):=by rw [IntKind.wrap_i64];omega
 have hb1:(0:Int)≤(i:Int)+(1:Int):=by omega
 have htn:((i:Int)+(1:Int)).toNat=i+1:=by omega
 have hb3:(i:Int)+1≤(n:Int)+1:=by omega
 have hb4:¬ (cap=i+1):=by omega
 have hb5:¬ (cap=i):=by omega
 have hb6:(i:Int)≤(n:Int)+1:=by omega
 have HG0:=Lib.hid hg0
 have HG1:=Lib.hid hg1
 have HNY:=Lib.hid hnY
 have HSY:=Lib.hid hsrcY
 have HFY:=Lib.hid hfY
 have H1Y:=Lib.hid h1Y
 have HNX:=Lib.hid hnx
 have HSX:=Lib.hid hsrcx
 have HFX:=Lib.hid hfx
 have H1X:=Lib.hid h1x
 have HRET:=Lib.hid hret
 have HBEL:=Lib.hid hbel
 clear hg hx hg0 hg1 hnY hsrcY hfY h1Y hnx hsrcx hfx h1x hret hbel hl0 hl1 hl2 hfin hx1 hX1 hX2 hS eX eY hn hBg hne
 go_enter Try.func134,Try.ntmps134
 go_upto_region 15 with (simp only [hov])
 go_region_law (refine step_copy_rowS (off:=(i+1)) (dCap:=cap - (i+1)) (ad:=⟨g,i,none⟩) (sCap:=cap - i) rfl (.tmp 73) (.tmp 76) 150 150 rfl 3 1 Try.underlying150 (by kernel_rfl) (by simp [Act.eval,Act.put]) (by simp [Act.eval,Act.put]) HG0.out Y HNY.out HSY.out HFY.out H1Y.out ?_;intro W3 e3;subst e3)
 generalize w.drew.setRow g (splice (X++(Y++S)) ((i+1)) Y).toArray=W2 at *
 generalize splice (X++(Y++S)) ((i+1)) Y=R2 at *
 go_wp2_with (refine wpList_copy_rowS rfl (.tmp 80) (.tmp 81) 150 33 rfl 3 1 Try.underlying150 (by kernel_rfl) rfl rfl HG1.out (eI x) HNX.out HSX.out HFX.out H1X.out ?_;intro W3 e3;subst e3)
 go_ret
 exact ⟨_,rfl,HRET.out,HBEL.out⟩
set_option maxRecDepth 100000 in
set_option maxHeartbeats 1000000 in
theorem insert_set_end {w:World} {B nb:Nat} {v:Value} {l:List Int} {x:Int} (hB:B≤w.heap.size)
  (hown:OwnE w B 3 eI 1 v l) (hx:w.heap[nb]? = some (.cells (eI x).toArray 3)) (hbig:(l.length+1) * 8≤140737488355328) :
  Calls Try.prog 134 #[v,.int .i64 l.length,.slice (some ⟨nb,0,none⟩) 1 1] w (RetB w B 3 eI 1 (l++[x])):=by
 have hx1:Arr w eI 1 (.slice (some ⟨nb,0,none⟩) 1 1) [x]:=by
  refine ⟨_,1,rfl,Nat.le_refl _,by unfold maxLen;omega,Or.inr ⟨nb,0,rfl,fun k y hk j u hu=>?_⟩⟩
  have hk0:k=0:=by have:=(List.getElem?_eq_some_iff.1 hk).1;simpa using this
  subst hk0
  simp only [List.getElem?_cons_zero,Option.some.injEq] at hk
  subst hk
  rw [cell_of_row w nb _ _ _ (0,0) hx]
  simpa using hu
 have hlen:l.length≤9223372036854775807:=by omega
 have HX:=Lib.hid hx1;clear hx1
 have H63:Hid (l.length+([x]:List Int).length≤maxLen):=by show _≤_;unfold maxLen;simp only [List.length_singleton];omega
 have HBG:Hid ((l.length+([x]:List Int).length) * 8≤140737488355328):=hbig
 have H63' : Hid (([x]:List Int).length≤maxLen):=by show _≤_;unfold maxLen;simp
 have HBG' : Hid (([x]:List Int).length * 8≤140737488355328):=by show _≤_;simp
 rcases hown with ⟨rfl,ba,rfl⟩ | hown
 ·rcases ba with _ | ba
  ·go_enter Try.func134,Try.ntmps134
   go_wp2_with (at_builtin;refine wpList_append_empty2 rfl (.tmp 23) (.tmp 24) rfl Try.underlying33 tE_set eI_ok rfl rfl HX.out HBG'.out H63'.out ?_;intro v' w' hb ho)
   have HO:=Lib.hid ho;clear ho
   go_wp2
   go_ret
   exact ⟨v',rfl,HO.out.base hB,hb.mono hB⟩
  ·go_enter Try.func134,Try.ntmps134
   go_wp2_with (at_builtin;refine wpList_append_empty2 rfl (.tmp 23) (.tmp 24) rfl Try.underlying33 tE_set eI_ok rfl rfl HX.out HBG'.out H63'.out ?_;intro v' w' hb ho)
   have HO:=Lib.hid ho;clear ho
   go_wp2
   go_ret
   exact ⟨v',rfl,HO.out.base hB,hb.mono hB⟩
 ·obtain ⟨ba,cap,rfl⟩:=own_form hown
  have hbl:∀ k,(Value.slice ba l.length cap).ownBlock=some k→B≤k:=fun k hk=>(hown.lt k hk).1
  have HOWN:=Lib.hid hown;clear hown
  have HBL:=Lib.hid hbl;clear hbl
  rcases ba with _ | ba
  ·go_enter Try.func134,Try.ntmps134
   go_wp2_with (at_builtin;refine wpList_append_arr2 rfl (.tmp 23) (.tmp 24) rfl Try.underlying33 tE_set B rfl HOWN.out eI_ok rfl HX.out HBG.out H63.out hB ?_;intro v' w' ho hg;have HO:=Lib.hid ho;clear ho;have HG:=Lib.hid hg;clear hg)
   go_wp2
   all_goals (go_ret;exact ⟨v',rfl,Or.inr (by simpa using HO.out),below_grown hB HG.out HBL.out⟩)
  ·go_enter Try.func134,Try.ntmps134
   go_wp2_with (at_builtin;refine wpList_append_arr2 rfl (.tmp 23) (.tmp 24) rfl Try.underlying33 tE_set B rfl HOWN.out eI_ok rfl HX.out HBG.out H63.out hB ?_;intro v' w' ho hg;have HO:=Lib.hid ho;clear ho;have HG:=Lib.hid hg;clear hg)
   go_wp2
   all_goals (go_ret;exact ⟨v',rfl,Or.inr (by simpa using HO.out),below_grown hB HG.out HBL.out⟩)
theorem insert_set {w:World} {B nb i:Nat} {v:Value} {l:List Int} {x:Int} (hi:i≤l.length) (hB:B≤w.heap.size)
  (hown:OwnE w B 3 eI 1 v l) (hx:w.heap[nb]? = some (.cells (eI x).toArray 3)) (hne:∀ k,v.ownBlock=some k→l≠[]→nb≠k) (hbig:(l.length+1) * 8≤140737488355328) :
  Calls Try.prog 134 #[v,.int .i64 i,.slice (some ⟨nb,0,none⟩) 1 1] w (RetB w B 3 eI 1 (insAt l i x)):=by
 by_cases he:i=l.length
 ·subst he
  have e:insAt l l.length x=l++[x]:=by simp [insAt]
  rw [e]
  exact insert_set_end hB hown hx hbig
 ·have hl:l≠[]:=by rintro rfl;simp at hi;exact he (by simpa using hi)
  rcases hown with ⟨h,_⟩ | hown
  ·exact absurd h hl
  have hown0:=hown
  obtain ⟨_,⟨_,h⟩ | ⟨g,cap,cur,rfl,hBg,hg,hnc,_⟩⟩:=hown
  ·exact absurd (List.eq_nil_of_length_eq_zero h) hl
  by_cases hc:l.length=cap
  ·exact insert_set_grow rfl (by omega) hB hown0 hx hc hbig
  ·exact insert_set_room rfl (by omega) hown0 hx (hne g rfl hl) (by omega)
end Go.Proofs.Ytkjeedlkkpgopaa
