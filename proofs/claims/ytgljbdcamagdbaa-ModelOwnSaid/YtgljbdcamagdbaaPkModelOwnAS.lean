/- ModelOwnSaid: what its proof is made of. No condition. -/
import Derived.Test.YtgljbdcamagdbaaPkModelOwnAR
set_option linter.unusedSimpArgs false
set_option linter.unusedVariables false
namespace Go.Proofs.Ytgljbdcamagdbaa.Z
open Go Go.RowKit
def LsP {α:Type} (s:Nat) (enc:α→List Value) (d:α) (ty:Nat) (xs:List α) (v:Value) (h:PH):Prop:=∃ (F:Env) (y:Nm),v=(SC.sl y s 0 xs.length none).den F∧(Blk.ar xs.length s (ats enc xs d) ty).den F y h
def OdV (v:Value) (h:PH):Prop:=h=emp∧∃ ba:Addr,v = .slice (some ba) 0 0
def blkV:Value→Option Nat
 | .slice (some a) _ cap=>if cap=0 then none else some a.block
 | _=>none
theorem lsP_takes {α:Type} {s:Nat} {enc:α→List Value} {d:α} {ty:Nat} {xs:List α} {v:Value} {h:PH} (hl:LsP s enc d ty xs v h) (n:Nat):h n≠none↔blkV v=some n:=by
 obtain ⟨F,y,rfl,hd⟩:=hl
 simp only [Blk.den] at hd
 rcases hd with ⟨_,h1,_,rfl⟩ | ⟨h0,⟨_,h1⟩,_,cells,rfl,_⟩
 ·rw [den_sl]
  by_cases hν:F.ν y=true <;> simp [hν,h1,blkV,emp]
 ·rw [den_sl]
  have hk:F.κ y≠0:=by omega
  simp only [h0,blkV,Option.getD_none,Nat.sub_zero,hk,if_false,sing,Option.some.injEq,Bool.false_eq_true]
  by_cases e:n=F.ρ y
  ·subst e;simp
  ·simp [e]
   exact fun q=>e q.symm
theorem odV_takes {v:Value} {h:PH} (hl:OdV v h) (n:Nat):h n≠none↔blkV v=some n:=by
 obtain ⟨rfl,ba,rfl⟩:=hl
 simp [blkV,emp]
theorem lsP_arr {α:Type} {s:Nat} {enc:α→List Value} {d:α} {ty:Nat} {xs:List α} {v:Value} {h:PH} {w:World} (hl:LsP s enc d ty xs v h) (hw:∀ n u,h n=some u→w.heap[n]? = some u):Arr w enc s v xs:=by
 obtain ⟨F,y,rfl,hd⟩:=hl
 simp only [Blk.den] at hd
 rcases hd with ⟨_,h2,h3,_⟩ | ⟨h1,⟨h2,_⟩,h3,cells,h4,h6,h7⟩
 ·have h0:xs=[]:=List.eq_nil_of_length_eq_zero (by omega)
  subst h0
  exact ⟨if F.ν y=true then none else some ⟨F.ρ y,0,none⟩,0,by simp [SC.den,h2],Nat.le_refl _,by simp [maxLen],Or.inl rfl⟩
 ·have h5:w.heap[F.ρ y]? = some (.cells cells ty (0,0)):=hw _ _ (by rw [h4];simp [sing])
  refine ⟨some ⟨F.ρ y,0,none⟩,F.κ y,by simp [SC.den,h1],by omega,h3,Or.inr ⟨_,_,rfl,fun e z hz j u hu=>?_⟩⟩
  rw [cell_of_row w _ _ _ ty (0,0) h5,Nat.zero_add]
  have he:e<xs.length:=(List.getElem?_eq_some_iff.1 hz).1
  have:=((h7 e he).2 j (.v u) (by
   have:xs.getD e d=z:=by rw [List.getD_eq_getElem?_getD,hz];rfl
   simp only [ats,this,List.getElem?_map,hu];rfl)).1
  rw [den_v] at this
  exact this
theorem odV_arr {α:Type} {s:Nat} {enc:α→List Value} {xs:List α} {v:Value} {h:PH} {w:World} (he:xs=[]) (hl:OdV v h):Arr w enc s v xs:=by
 obtain ⟨_,ba,rfl⟩:=hl
 subst he
 exact arr_empty w enc s (some ba)
def PrtP (o b:Nat) (m:MC) (E:Env) (h:Nat→PH):Prop :=
 LsP 1 eI 0 3 m.cell (E.χ (b,0,0)) (h 0)∧(if o=1 then m.stack=[]∧OdV (E.χ (b,1,0)) (h 1) else LsP 1 eI 0 3 m.stack (E.χ (b,1,0)) (h 1)) ∧
  (if o=2 then m.queue=[]∧OdV (E.χ (b,2,0)) (h 2) else LsP 1 eI 0 3 m.queue (E.χ (b,2,0)) (h 2))∧LsP 1 eI 0 3 m.set (E.χ (b,3,0)) (h 3)∧LsP 2 eP (0,0) 76 m.table (E.χ (b,4,0)) (h 4)
theorem prt_takes {o b:Nat} {m:MC} {E:Env} {h:Nat→PH} (hp:PrtP o b m E h):∀ i,i<5→∀ n,h i n≠none↔blkV (E.χ (b,i,0))=some n:=by
 obtain ⟨h0,h1,h2,h3,h4⟩:=hp
 intro i hi n
 match i,hi with
 | 0,_=>exact lsP_takes h0 n
 | 1,_ =>
  by_cases e:o=1
  ·rw [if_pos e] at h1;exact odV_takes h1.2 n
  ·rw [if_neg e] at h1;exact lsP_takes h1 n
 | 2,_ =>
  by_cases e:o=2
  ·rw [if_pos e] at h2;exact odV_takes h2.2 n
  ·rw [if_neg e] at h2;exact lsP_takes h2 n
 | 3,_=>exact lsP_takes h3 n
 | 4,_=>exact lsP_takes h4 n
def un (h:Nat→PH):PH:=fun n=>(h 0 n).or ((h 1 n).or ((h 2 n).or ((h 3 n).or (h 4 n))))
theorem or_some {α:Type} {a b:Option α} {u:α}:a.or b=some u↔a=some u∨(a=none∧b=some u):=by cases a <;> simp
theorem un_some {h:Nat→PH} {n:Nat} {u:Obj} (hu:un h n=some u):∃ i,i<5∧h i n=some u:=by
 unfold un at hu
 rcases or_some.1 hu with h1 | ⟨_,hu⟩
 ·exact ⟨0,by omega,h1⟩
 rcases or_some.1 hu with h1 | ⟨_,hu⟩
 ·exact ⟨1,by omega,h1⟩
 rcases or_some.1 hu with h1 | ⟨_,hu⟩
 ·exact ⟨2,by omega,h1⟩
 rcases or_some.1 hu with h1 | ⟨_,hu⟩
 ·exact ⟨3,by omega,h1⟩
 ·exact ⟨4,by omega,hu⟩
theorem un_of {h:Nat→PH} (hd:∀ i j n,i<5→j<5→i≠j→h i n=none∨h j n=none) {i n:Nat} {u:Obj} (hi:i<5) (hu:h i n=some u):un h n=some u:=by
 have hz:∀ j,j<5→j≠i→h j n=none:=fun j hj hne=>by
  rcases hd j i n hj hi hne with h1 | h1
  ·exact h1
  ·rw [hu] at h1;cases h1
 unfold un
 match i,hi with
 | 0,_=>simp [hu]
 | 1,_=>simp [hu,hz 0 (by omega) (by omega)]
 | 2,_=>simp [hu,hz 0 (by omega) (by omega),hz 1 (by omega) (by omega)]
 | 3,_=>simp [hu,hz 0 (by omega) (by omega),hz 1 (by omega) (by omega),hz 2 (by omega) (by omega)]
 | 4,_=>simp [hu,hz 0 (by omega) (by omega),hz 1 (by omega) (by omega),hz 2 (by omega) (by omega),hz 3 (by omega) (by omega)]
def ContP (b:Nat) (m:MC) (E:Env) (H:PH):Prop:=∃ (o:Nat) (h:Nat→PH),PrtP o b m E h∧(∀ i j n,i<5→j<5→i≠j→h i n=none∨h j n=none)∧H=un h
theorem contP_takes {b:Nat} {m:MC} {E:Env} {H:PH} (hc:ContP b m E H) (n:Nat):H n≠none↔∃ i,i<5∧blkV (E.χ (b,i,0))=some n:=by
 obtain ⟨o,h,hp,hd,rfl⟩:=hc
 refine ⟨fun hn=>?_,fun ⟨i,hi,hb⟩=>?_⟩
 ·obtain ⟨u,hu⟩:=Option.ne_none_iff_exists'.1 hn
  obtain ⟨i,hi,h1⟩:=un_some hu
  exact ⟨i,hi,(prt_takes hp i hi n).1 (by rw [h1];simp)⟩
 ·obtain ⟨u,hu⟩:=Option.ne_none_iff_exists'.1 ((prt_takes hp i hi n).2 hb)
  rw [un_of hd hi hu];simp
theorem prt_same {o b b' : Nat} {m:MC} {E E2:Env} {h:Nat→PH} (hE:∀ i,i<5→E2.χ (b',i,0)=E.χ (b,i,0)) (hp:PrtP o b m E h):PrtP o b' m E2 h:=by
 unfold PrtP at hp ⊢
 rw [hE 0 (by omega),hE 1 (by omega),hE 2 (by omega),hE 3 (by omega),hE 4 (by omega)]
 exact hp
def cN (b:Nat):List SC:=[.xv (b,0,0),.xv (b,1,0),.xv (b,2,0),.xv (b,3,0),.xv (b,4,0)]
theorem cN_den (b:Nat) (E:Env):(SV.agg (cN b)).den E = .agg #[E.χ (b,0,0),E.χ (b,1,0),E.χ (b,2,0),E.χ (b,3,0),E.χ (b,4,0)]:=by simp [cN,SV.den,SC.den]
theorem contP_cont {b:Nat} {m:MC} {E:Env} {H:PH} {w:World} (hc:ContP b m E H) (hw:∀ n u,H n=some u→w.heap[n]? = some u):Cont w ((SV.agg (cN b)).den E) m:=by
 obtain ⟨o,h,⟨h0,h1,h2,h3,h4⟩,hd,rfl⟩:=hc
 have hw' : ∀ i,i<5→∀ n u,h i n=some u→w.heap[n]? = some u:=fun i hi n u hu=>hw n u (un_of hd hi hu)
 refine ⟨_,_,_,_,_,cN_den b E,lsP_arr h0 (hw' 0 (by omega)),?_,?_,lsP_arr h3 (hw' 3 (by omega)),lsP_arr h4 (hw' 4 (by omega))⟩
 ·by_cases e:o=1
  ·rw [if_pos e] at h1;exact odV_arr h1.1 h1.2
  ·rw [if_neg e] at h1;exact lsP_arr h1 (hw' 1 (by omega))
 ·by_cases e:o=2
  ·rw [if_pos e] at h2;exact odV_arr h2.1 h2.2
  ·rw [if_neg e] at h2;exact lsP_arr h2 (hw' 2 (by omega))
def oC (m:MC) (b:Nat):Own:=[(b,.one (.pr (ContP b m)))]
theorem cont_own {C:Ctx} {E:Env} {S:St} {a:Act} {w:World} (hs:Sat C.B C.W C.w0 E S a w) (b:Nat) {m:MC} (hb:look S.own b=some (.one (.pr (ContP b m)))):Cont w ((SV.agg (cN b)).den E) m:=by
 obtain ⟨H,hH,_⟩:=hs.mem
 have hat:atN S.own (b,0,0)=some (.pr (ContP b m)):=by simp [atN,hb,Fm.get]
 have hd:=hH.den _ _ hat
 simp only [Blk.den] at hd
 exact contP_cont hd fun n u hu=>(hH.sub _ _ hat n u hu).1
def mcF (m:MC) (k:Nat):ArrF:=match k with | 0=>arrOf eI 1 m.cell 0 0 | 1=>arrOf eI 1 m.stack 0 0 | 2=>arrOf eI 1 m.queue 0 0 | 3=>arrOf eI 1 m.set 0 0 | _=>arrOf eP 2 m.table (0,0) 0
def fC (m:MC) (b:Nat):List (Nat×Fm ArrF):=[(b,.fam 5 (mcF m))]
theorem cont_fam {C:Ctx} {E:Env} {S:St} {a:Act} {w:World} (hs:Sat C.B C.W C.w0 E S a w) (b:Nat) {m:MC} (hb:look S.arrs b=some (.fam 5 (mcF m))):Cont w ((SV.agg (cN b)).den E) m:=by
 have f:∀ {α:Type} {enc:α→List Value} {s:Nat} {xs:List α} {d:α} (j:Nat),j<5→mcF m j=arrOf enc s xs d 0→Arr w enc s (E.χ (b,j,0)) xs:=fun {α enc s xs d} j hj he=>arr_of (d:=d) ((holds_of hs).1 (b,j,0) (arrOf enc s xs d 0) (by simp [atN,hb,Fm.get,hj,he]))
 exact ⟨_,_,_,_,_,cN_den b E,f 0 (by omega) rfl,f 1 (by omega) rfl,f 2 (by omega) rfl,f 3 (by omega) rfl,f 4 (by omega) rfl⟩
theorem retB_C {w:World} {m:MC} {e:Ending} {w' : World} (h:RetB w (fun _=>True) 5 cT (mcR m) e w'):RetB w (fun _=>True) 1 (fun b=>.agg (cN b)) (fC m) e w':=by
 obtain ⟨v,rfl,hb,hN⟩:=h
 obtain ⟨N,hN1,hN2⟩:=hN 0
 obtain ⟨hv,hA⟩:=hN2 N fun x _=>⟨rfl,rfl,rfl,rfl⟩
 refine ⟨v,rfl,hb,fun b=>⟨⟨fun _=>0,fun _=>0,fun _=>false,fun x=>N.χ (x.2.1,0,0)⟩,fun x=>hN1 _,fun E2 hE2=>?_⟩⟩
 have hx:∀ i,E2.χ (b,i,0)=N.χ (i,0,0):=fun i=>(hE2 (b,i,0) ⟨Nat.le_refl _,Nat.lt_succ_self _⟩).2.2.2
 refine ⟨by rw [hv,cN_den];simp only [hx];simp [cT,mcS,SV.den,SC.den],fun w'' hp hw'' x A' hx'=>?_⟩
 have hA':=hA w'' hp hw''
 have g:∀ {α:Type} {enc:α→List Value} {s:Nat} {xs:List α} {d:α} (j:Nat),atN (mcR m 0) (j,0,0)=some (arrOf enc s xs d 0)→ArrAt E2 w'' (b,j,0) (arrOf enc s xs d 0):=fun {α enc s xs d} j hj=>by
  have:=hA' (j,0,0) _ hj
  obtain ⟨ba,cap,g1,g2,g3,g4⟩:=this
  refine ⟨ba,cap,(hx j).trans g1,g2,g3,g4.imp id fun ⟨b',off,q1,q2,q3⟩=>⟨b',off,q1,q2,fun k hk=>⟨(q3 k hk).1,fun j u hu=>?_⟩⟩⟩
  have q4:=(q3 k hk).2 j u hu
  rw [arrOf_at,List.getElem?_map] at hu
  obtain ⟨u',_,rfl⟩:=Option.map_eq_some_iff.1 hu
  rw [den_v] at q4 ⊢
  exact q4
 obtain ⟨x1,x2,x3⟩:=x
 simp only [atN,fC,look] at hx'
 split at hx'
 ·rename_i F hF
  split at hF
  ·rename_i e
   cases hF
   simp only [Fm.get] at hx'
   split at hx'
   ·rename_i hh
    obtain ⟨h5,rfl⟩:=hh
    subst e
    cases hx'
    match x2,h5 with
    | 0,_=>exact g 0 rfl
    | 1,_=>exact g 1 rfl
    | 2,_=>exact g 2 rfl
    | 3,_=>exact g 3 rfl
    | 4,_=>exact g 4 rfl
   ·cases hx'
  ·cases hF
 ·cases hx'
theorem ar_env {α:Type} {F G:Env} {x y:Nm} {n s ty:Nat} {enc:α→List Value} {xs:List α} {d:α} {h:PH} (h1:G.ρ x=F.ρ y) (h2:G.κ x=F.κ y) (h3:G.ν x=F.ν y) (hd:(Blk.ar n s (ats enc xs d) ty).den F y h):(Blk.ar n s (ats enc xs d) ty).den G x h:=by
 simp only [Blk.den] at hd ⊢
 rw [h1,h2,h3]
 refine hd.imp id fun ⟨g1,g2,g3,cells,g4,g5,g6⟩=>⟨g1,g2,g3,cells,g4,g5,fun e he=>⟨(g6 e he).1,fun j u hu=>?_⟩⟩
 have:=(g6 e he).2 j u hu
 rw [ats,List.getElem?_map] at hu
 obtain ⟨u',_,rfl⟩:=Option.map_eq_some_iff.1 hu
 rw [den_v] at this ⊢
 exact this
theorem retN_C0 {w:World} {m:MC} {T T' : Nat→SV} {e:Ending} {w' : World} (hT:∀ (N E2:Env) (b:Nat),E2.χ (b,0,0)=(SC.sl (0,0,0) 1 0 m.cell.length none).den N→E2.χ (b,1,0)=(SC.sl (1,0,0) 1 0 m.stack.length none).den N→E2.χ (b,2,0)=(SC.sl (2,0,0) 1 0 m.queue.length none).den N→E2.χ (b,3,0)=(SC.sl (3,0,0) 1 0 m.set.length none).den N→E2.χ (b,4,0)=(SC.sl (4,0,0) 2 0 m.table.length none).den N→(T 0).den N=(T' b).den E2)
  (h:RetN w 5 T (mcO m) e w'):RetN w 1 T' (oC m) e w':=by
 obtain ⟨v,rfl,hb,hN⟩:=h
 obtain ⟨N,hN1,hN2⟩:=hN 0
 obtain ⟨hv,H,h2,h3,h4⟩:=hN2 N fun x _=>⟨rfl,rfl,rfl,rfl⟩
 refine ⟨v,rfl,hb,fun b=>⟨⟨fun _=>0,fun _=>0,fun _=>false,fun x=>match x.2.1 with | 0=>(SC.sl (0,0,0) 1 0 m.cell.length none).den N | 1=>(SC.sl (1,0,0) 1 0 m.stack.length none).den N | 2=>(SC.sl (2,0,0) 1 0 m.queue.length none).den N | 3=>(SC.sl (3,0,0) 1 0 m.set.length none).den N | _=>(SC.sl (4,0,0) 2 0 m.table.length none).den N⟩,fun x=>?_,fun E2 hE2=>?_⟩⟩
 ·simp only []
  split <;> simp [den_sl,Value.oneCell']
 have e0:E2.χ (b,0,0)=(SC.sl (0,0,0) 1 0 m.cell.length none).den N:=(hE2 (b,0,0) ⟨Nat.le_refl _,Nat.lt_succ_self _⟩).2.2.2
 have e1:E2.χ (b,1,0)=(SC.sl (1,0,0) 1 0 m.stack.length none).den N:=(hE2 (b,1,0) ⟨Nat.le_refl _,Nat.lt_succ_self _⟩).2.2.2
 have e2:E2.χ (b,2,0)=(SC.sl (2,0,0) 1 0 m.queue.length none).den N:=(hE2 (b,2,0) ⟨Nat.le_refl _,Nat.lt_succ_self _⟩).2.2.2
 have e3:E2.χ (b,3,0)=(SC.sl (3,0,0) 1 0 m.set.length none).den N:=(hE2 (b,3,0) ⟨Nat.le_refl _,Nat.lt_succ_self _⟩).2.2.2
 have e4:E2.χ (b,4,0)=(SC.sl (4,0,0) 2 0 m.table.length none).den N:=(hE2 (b,4,0) ⟨Nat.le_refl _,Nat.lt_succ_self _⟩).2.2.2
 have a0:atN (mcO m 0) (0,0,0)=some (.ar m.cell.length 1 (ats eI m.cell 0) 3):=rfl
 have a1:atN (mcO m 0) (1,0,0)=some (.ar m.stack.length 1 (ats eI m.stack 0) 3):=rfl
 have a2:atN (mcO m 0) (2,0,0)=some (.ar m.queue.length 1 (ats eI m.queue 0) 3):=rfl
 have a3:atN (mcO m 0) (3,0,0)=some (.ar m.set.length 1 (ats eI m.set 0) 3):=rfl
 have a4:atN (mcO m 0) (4,0,0)=some (.ar m.table.length 2 (ats eP m.table (0,0)) 76):=rfl
 have hdj:∀ i j n,i<5→j<5→i≠j→(fun i=>H (i,0,0)) i n=none∨(fun i=>H (i,0,0)) j n=none:=by
  intro i j n hi hj hne
  have hat:∀ i,i<5→∃ c,atN (mcO m 0) (i,0,0)=some c:=fun i hi=>by
   match i,hi with
   | 0,_=>exact ⟨_,a0⟩
   | 1,_=>exact ⟨_,a1⟩
   | 2,_=>exact ⟨_,a2⟩
   | 3,_=>exact ⟨_,a3⟩
   | 4,_=>exact ⟨_,a4⟩
  obtain ⟨c,hc⟩:=hat i hi
  obtain ⟨d,hd⟩:=hat j hj
  exact h3 _ _ c d hc hd (fun e=>hne (congrArg Prod.fst e)) n
 have hcp:ContP b m E2 (un (fun i=>H (i,0,0))):=⟨0,fun i=>H (i,0,0),⟨⟨N,(0,0,0),e0,h2 _ _ a0⟩,⟨N,(1,0,0),e1,h2 _ _ a1⟩,⟨N,(2,0,0),e2,h2 _ _ a2⟩,⟨N,(3,0,0),e3,h2 _ _ a3⟩,⟨N,(4,0,0),e4,h2 _ _ a4⟩⟩,hdj,rfl⟩
 refine ⟨hv.trans (hT N E2 b e0 e1 e2 e3 e4),fun _=>un (fun i=>H (i,0,0)),fun x c hx=>?_,fun x y c d hx hy hne n=>?_,fun x c hx n u hn=>?_⟩
 ·rcases atN_one hx with ⟨rfl,rfl⟩ | hx
  ·simp only [Blk.den];exact hcp
  ·simp [atN,look] at hx
 ·rcases atN_one hx with ⟨rfl,rfl⟩ | hx
  ·rcases atN_one hy with ⟨rfl,rfl⟩ | hy
   ·exact absurd rfl hne
   ·simp [atN,look] at hy
  ·simp [atN,look] at hx
 ·obtain ⟨i,hi,hu⟩:=un_some hn
  match i,hi with
  | 0,_=>exact h4 (0,0,0) _ a0 n u (by simpa using hu)
  | 1,_=>exact h4 (1,0,0) _ a1 n u (by simpa using hu)
  | 2,_=>exact h4 (2,0,0) _ a2 n u (by simpa using hu)
  | 3,_=>exact h4 (3,0,0) _ a3 n u (by simpa using hu)
  | 4,_=>exact h4 (4,0,0) _ a4 n u (by simpa using hu)
theorem retN_C1 {w:World} {m:MC} {T T' : Nat→SV} {e:Ending} {w' : World} (ba:Addr) (hm:m.stack=[]) (hT:∀ (N E2:Env) (b:Nat),E2.χ (b,0,0)=(SC.sl (0,0,0) 1 0 m.cell.length none).den N→E2.χ (b,1,0)=Value.slice (some ba) 0 0→E2.χ (b,2,0)=(SC.sl (2,0,0) 1 0 m.queue.length none).den N→E2.χ (b,3,0)=(SC.sl (3,0,0) 1 0 m.set.length none).den N→E2.χ (b,4,0)=(SC.sl (4,0,0) 2 0 m.table.length none).den N→(T 0).den N=(T' b).den E2)
  (h:RetN w 5 T (mcX1 m) e w'):RetN w 1 T' (oC m) e w':=by
 obtain ⟨v,rfl,hb,hN⟩:=h
 obtain ⟨N,hN1,hN2⟩:=hN 0
 obtain ⟨hv,H,h2,h3,h4⟩:=hN2 N fun x _=>⟨rfl,rfl,rfl,rfl⟩
 refine ⟨v,rfl,hb,fun b=>⟨⟨fun _=>0,fun _=>0,fun _=>false,fun x=>match x.2.1 with | 0=>(SC.sl (0,0,0) 1 0 m.cell.length none).den N | 1=>Value.slice (some ba) 0 0 | 2=>(SC.sl (2,0,0) 1 0 m.queue.length none).den N | 3=>(SC.sl (3,0,0) 1 0 m.set.length none).den N | _=>(SC.sl (4,0,0) 2 0 m.table.length none).den N⟩,fun x=>?_,fun E2 hE2=>?_⟩⟩
 ·simp only []
  split <;> simp [den_sl,Value.oneCell']
 have e0:E2.χ (b,0,0)=(SC.sl (0,0,0) 1 0 m.cell.length none).den N:=(hE2 (b,0,0) ⟨Nat.le_refl _,Nat.lt_succ_self _⟩).2.2.2
 have e1:E2.χ (b,1,0)=Value.slice (some ba) 0 0:=(hE2 (b,1,0) ⟨Nat.le_refl _,Nat.lt_succ_self _⟩).2.2.2
 have e2:E2.χ (b,2,0)=(SC.sl (2,0,0) 1 0 m.queue.length none).den N:=(hE2 (b,2,0) ⟨Nat.le_refl _,Nat.lt_succ_self _⟩).2.2.2
 have e3:E2.χ (b,3,0)=(SC.sl (3,0,0) 1 0 m.set.length none).den N:=(hE2 (b,3,0) ⟨Nat.le_refl _,Nat.lt_succ_self _⟩).2.2.2
 have e4:E2.χ (b,4,0)=(SC.sl (4,0,0) 2 0 m.table.length none).den N:=(hE2 (b,4,0) ⟨Nat.le_refl _,Nat.lt_succ_self _⟩).2.2.2
 have a0:atN (mcX1 m 0) (0,0,0)=some (.ar m.cell.length 1 (ats eI m.cell 0) 3):=rfl
 have a2:atN (mcX1 m 0) (2,0,0)=some (.ar m.queue.length 1 (ats eI m.queue 0) 3):=rfl
 have a3:atN (mcX1 m 0) (3,0,0)=some (.ar m.set.length 1 (ats eI m.set 0) 3):=rfl
 have a4:atN (mcX1 m 0) (4,0,0)=some (.ar m.table.length 2 (ats eP m.table (0,0)) 76):=rfl
 have hdj:∀ i j n,i<5→j<5→i≠j→(fun i=>if i=1 then emp else H (i,0,0)) i n=none∨(fun i=>if i=1 then emp else H (i,0,0)) j n=none:=by
  intro i j n hi hj hne
  have hat:∀ i,i<5→i≠1→∃ c,atN (mcX1 m 0) (i,0,0)=some c:=fun i hi hn=>by
   match i,hi,hn with
   | 0,_,_=>exact ⟨_,a0⟩
   | 1,_,hn=>exact absurd rfl hn
   | 2,_,_=>exact ⟨_,a2⟩
   | 3,_,_=>exact ⟨_,a3⟩
   | 4,_,_=>exact ⟨_,a4⟩
  by_cases e1:i=1
  ·exact Or.inl (by simp [e1,emp])
  ·by_cases e2:j=1
   ·exact Or.inr (by simp [e2,emp])
   ·obtain ⟨c,hc⟩:=hat i hi e1
    obtain ⟨d,hd⟩:=hat j hj e2
    simp only [e1,e2,if_false]
    exact h3 _ _ c d hc hd (fun e=>hne (congrArg Prod.fst e)) n
 have hcp:ContP b m E2 (un (fun i=>if i=1 then emp else H (i,0,0))):=⟨1,fun i=>if i=1 then emp else H (i,0,0),⟨⟨N,(0,0,0),e0,h2 _ _ a0⟩,⟨hm,rfl,ba,e1⟩,⟨N,(2,0,0),e2,h2 _ _ a2⟩,⟨N,(3,0,0),e3,h2 _ _ a3⟩,⟨N,(4,0,0),e4,h2 _ _ a4⟩⟩,hdj,rfl⟩
 refine ⟨hv.trans (hT N E2 b e0 e1 e2 e3 e4),fun _=>un (fun i=>if i=1 then emp else H (i,0,0)),fun x c hx=>?_,fun x y c d hx hy hne n=>?_,fun x c hx n u hn=>?_⟩
 ·rcases atN_one hx with ⟨rfl,rfl⟩ | hx
  ·simp only [Blk.den];exact hcp
  ·simp [atN,look] at hx
 ·rcases atN_one hx with ⟨rfl,rfl⟩ | hx
  ·rcases atN_one hy with ⟨rfl,rfl⟩ | hy
   ·exact absurd rfl hne
   ·simp [atN,look] at hy
  ·simp [atN,look] at hx
 ·obtain ⟨i,hi,hu⟩:=un_some hn
  match i,hi with
  | 0,_=>exact h4 (0,0,0) _ a0 n u (by simpa using hu)
  | 1,_=>simp [emp] at hu
  | 2,_=>exact h4 (2,0,0) _ a2 n u (by simpa using hu)
  | 3,_=>exact h4 (3,0,0) _ a3 n u (by simpa using hu)
  | 4,_=>exact h4 (4,0,0) _ a4 n u (by simpa using hu)
theorem retN_C2 {w:World} {m:MC} {T T' : Nat→SV} {e:Ending} {w' : World} (ba:Addr) (hm:m.queue=[]) (hT:∀ (N E2:Env) (b:Nat),E2.χ (b,0,0)=(SC.sl (0,0,0) 1 0 m.cell.length none).den N→E2.χ (b,1,0)=(SC.sl (1,0,0) 1 0 m.stack.length none).den N→E2.χ (b,2,0)=Value.slice (some ba) 0 0→E2.χ (b,3,0)=(SC.sl (3,0,0) 1 0 m.set.length none).den N→E2.χ (b,4,0)=(SC.sl (4,0,0) 2 0 m.table.length none).den N→(T 0).den N=(T' b).den E2)
  (h:RetN w 5 T (mcX2 m) e w'):RetN w 1 T' (oC m) e w':=by
 obtain ⟨v,rfl,hb,hN⟩:=h
 obtain ⟨N,hN1,hN2⟩:=hN 0
 obtain ⟨hv,H,h2,h3,h4⟩:=hN2 N fun x _=>⟨rfl,rfl,rfl,rfl⟩
 refine ⟨v,rfl,hb,fun b=>⟨⟨fun _=>0,fun _=>0,fun _=>false,fun x=>match x.2.1 with | 0=>(SC.sl (0,0,0) 1 0 m.cell.length none).den N | 1=>(SC.sl (1,0,0) 1 0 m.stack.length none).den N | 2=>Value.slice (some ba) 0 0 | 3=>(SC.sl (3,0,0) 1 0 m.set.length none).den N | _=>(SC.sl (4,0,0) 2 0 m.table.length none).den N⟩,fun x=>?_,fun E2 hE2=>?_⟩⟩
 ·simp only []
  split <;> simp [den_sl,Value.oneCell']
 have e0:E2.χ (b,0,0)=(SC.sl (0,0,0) 1 0 m.cell.length none).den N:=(hE2 (b,0,0) ⟨Nat.le_refl _,Nat.lt_succ_self _⟩).2.2.2
 have e1:E2.χ (b,1,0)=(SC.sl (1,0,0) 1 0 m.stack.length none).den N:=(hE2 (b,1,0) ⟨Nat.le_refl _,Nat.lt_succ_self _⟩).2.2.2
 have e2:E2.χ (b,2,0)=Value.slice (some ba) 0 0:=(hE2 (b,2,0) ⟨Nat.le_refl _,Nat.lt_succ_self _⟩).2.2.2
 have e3:E2.χ (b,3,0)=(SC.sl (3,0,0) 1 0 m.set.length none).den N:=(hE2 (b,3,0) ⟨Nat.le_refl _,Nat.lt_succ_self _⟩).2.2.2
 have e4:E2.χ (b,4,0)=(SC.sl (4,0,0) 2 0 m.table.length none).den N:=(hE2 (b,4,0) ⟨Nat.le_refl _,Nat.lt_succ_self _⟩).2.2.2
 have a0:atN (mcX2 m 0) (0,0,0)=some (.ar m.cell.length 1 (ats eI m.cell 0) 3):=rfl
 have a1:atN (mcX2 m 0) (1,0,0)=some (.ar m.stack.length 1 (ats eI m.stack 0) 3):=rfl
 have a3:atN (mcX2 m 0) (3,0,0)=some (.ar m.set.length 1 (ats eI m.set 0) 3):=rfl
 have a4:atN (mcX2 m 0) (4,0,0)=some (.ar m.table.length 2 (ats eP m.table (0,0)) 76):=rfl
 have hdj:∀ i j n,i<5→j<5→i≠j→(fun i=>if i=2 then emp else H (i,0,0)) i n=none∨(fun i=>if i=2 then emp else H (i,0,0)) j n=none:=by
  intro i j n hi hj hne
  have hat:∀ i,i<5→i≠2→∃ c,atN (mcX2 m 0) (i,0,0)=some c:=fun i hi hn=>by
   match i,hi,hn with
   | 0,_,_=>exact ⟨_,a0⟩
   | 1,_,_=>exact ⟨_,a1⟩
   | 2,_,hn=>exact absurd rfl hn
   | 3,_,_=>exact ⟨_,a3⟩
   | 4,_,_=>exact ⟨_,a4⟩
  by_cases e1:i=2
  ·exact Or.inl (by simp [e1,emp])
  ·by_cases e2:j=2
   ·exact Or.inr (by simp [e2,emp])
   ·obtain ⟨c,hc⟩:=hat i hi e1
    obtain ⟨d,hd⟩:=hat j hj e2
    simp only [e1,e2,if_false]
    exact h3 _ _ c d hc hd (fun e=>hne (congrArg Prod.fst e)) n
 have hcp:ContP b m E2 (un (fun i=>if i=2 then emp else H (i,0,0))):=⟨2,fun i=>if i=2 then emp else H (i,0,0),⟨⟨N,(0,0,0),e0,h2 _ _ a0⟩,⟨N,(1,0,0),e1,h2 _ _ a1⟩,⟨hm,rfl,ba,e2⟩,⟨N,(3,0,0),e3,h2 _ _ a3⟩,⟨N,(4,0,0),e4,h2 _ _ a4⟩⟩,hdj,rfl⟩
 refine ⟨hv.trans (hT N E2 b e0 e1 e2 e3 e4),fun _=>un (fun i=>if i=2 then emp else H (i,0,0)),fun x c hx=>?_,fun x y c d hx hy hne n=>?_,fun x c hx n u hn=>?_⟩
 ·rcases atN_one hx with ⟨rfl,rfl⟩ | hx
  ·simp only [Blk.den];exact hcp
  ·simp [atN,look] at hx
 ·rcases atN_one hx with ⟨rfl,rfl⟩ | hx
  ·rcases atN_one hy with ⟨rfl,rfl⟩ | hy
   ·exact absurd rfl hne
   ·simp [atN,look] at hy
  ·simp [atN,look] at hx
 ·obtain ⟨i,hi,hu⟩:=un_some hn
  match i,hi with
  | 0,_=>exact h4 (0,0,0) _ a0 n u (by simpa using hu)
  | 1,_=>exact h4 (1,0,0) _ a1 n u (by simpa using hu)
  | 2,_=>simp [emp] at hu
  | 3,_=>exact h4 (3,0,0) _ a3 n u (by simpa using hu)
  | 4,_=>exact h4 (4,0,0) _ a4 n u (by simpa using hu)
end Go.Proofs.Ytgljbdcamagdbaa.Z
namespace Go.Proofs.Ytgljbdcamagdbaa.Z
open Go Go.RowKit
def env5 (F:Nat→Env) (y:Nat→Nm):Env:=⟨fun x=>(F x.1).ρ (y x.1),fun x=>(F x.1).κ (y x.1),fun x=>(F x.1).ν (y x.1),fun _=>.slice none 0 0⟩
def pick5 {α:Type} (a b c d e:α) (i:Nat):α:=match i with | 0=>a | 1=>b | 2=>c | 3=>d | _=>e
theorem takes_ar {E:Env} {x:Nm} {k s ty:Nat} {f:Nat→List SC} {h:PH} (hd:(Blk.ar k s f ty).den E x h) {n:Nat}:h n≠none↔takes E x (.ar k s f ty) n:=takes_iff (by exact trivial) hd
theorem lsP_of {α:Type} {s:Nat} {enc:α→List Value} {d:α} {ty n:Nat} {xs:List α} {v:Value} {h:PH} {F:Env} {y:Nm} (hn:n=xs.length) (hv:v=(SC.sl y s 0 n none).den F) (hd:(Blk.ar n s (ats enc xs d) ty).den F y h):LsP s enc d ty xs v h:=by
 subst hn
 exact ⟨F,y,hv,hd⟩
theorem after_cont {C:Ctx} {S:St} {E:Env} {a:Act} {w w' : World} {e:Ending} {b:Nat} {m m' : MC} (hs:Sat C.B C.W C.w0 E S a w) (hb:look S.own b=some (.one (.pr (ContP b m)))) {E5:Env} {W:Nat→Prop} {eff5:Own} (o:Nat)
  (htk:∀ n,W n→∃ i,i<5∧blkV (E.χ (b,i,0))=some n)
  (hprt:∀ H' : Nm→PH,(∀ x c,atN eff5 x=some c→c.den E5 x (H' x))→∃ h' : Nat→PH,PrtP o b m' E h'∧∀ i,i<5→∀ n u,h' i n=some u→∃ c,atN eff5 (i,0,0)=some c∧H' (i,0,0) n=some u)
  (hE:EffR w E5 5 W (.tup []) 0 (fun _=>eff5) e w'):∃ v,e = .returned v∧After C.B C.W C.w0 E [b] S a w (.tup []) 0 [(b,.one (.pr (ContP b m')))] [] v w':=by
 obtain ⟨v,rfl,hfr,hN⟩:=hE
 obtain ⟨N,hN1,hN2⟩:=hN 5 (Nat.le_refl _)
 refine ⟨v,rfl,N,hN1,fun E2 hs2 hks hag=>?_⟩
 obtain ⟨h1,H',h2,h3,h4⟩:=hN2 E5 (fun x _=>⟨rfl,rfl,rfl,rfl⟩) (fun x hx=>absurd hx.2 (by have:=hx.1;omega))
 have hx:∀ i,i<5→E2.χ (b,i,0)=E.χ (b,i,0):=fun i _=>(hks (b,i,0) (by simp)).2.2.2
 have hat:atN S.own (b,0,0)=some (.pr (ContP b m)):=by simp [atN,hb,Fm.get]
 obtain ⟨h',hp,hh⟩:=hprt H' h2
 have hdj:∀ i j n,i<5→j<5→i≠j→h' i n=none∨h' j n=none:=by
  intro i j n hi hj hne
  cases e1:h' i n with
  | none=>exact Or.inl rfl
  | some u =>
   cases e2:h' j n with
   | none=>exact Or.inr rfl
   | some u' =>
    obtain ⟨c,hc,g1⟩:=hh i hi n u e1
    obtain ⟨d,hd,g2⟩:=hh j hj n u' e2
    rcases h3 _ _ c d hc hd (fun e=>hne (congrArg Prod.fst e)) n with g | g
    ·rw [g1] at g;cases g
    ·rw [g2] at g;cases g
 have hcp:ContP b m' E2 (un h'):=⟨o,h',prt_same hx hp,hdj,rfl⟩
 refine ⟨by rw [h1];rfl,Fits.G ⟨fun H2 hH2=>?_,fun _ _ x A hA=>by simp [atN,look] at hA⟩⟩
 have hW:∀ n,W n→H2 (b,0,0) n≠none:=fun n hn=>by
  have hd:=hH2.den _ _ hat
  simp only [Blk.den] at hd
  obtain ⟨i,hi,hbk⟩:=htk n hn
  exact (contP_takes hd n).2 ⟨i,hi,by rw [hx i hi];exact hbk⟩
 refine ⟨hfr.os,hfr.tape,hfr.output,hfr.size,fun n hn hfree=>hfr.keep n hn fun hw=>hW n hw (hfree (b,0,0) _ (by simp [look]) hat),fun _=>un h',fun x c hx=>?_,fun x y c d hx hy hne n=>?_,fun x c hx n u hn=>?_⟩
 ·rcases atN_one hx with ⟨rfl,rfl⟩ | hx
  ·simp only [Blk.den];exact hcp
  ·simp [atN,look] at hx
 ·rcases atN_one hx with ⟨rfl,rfl⟩ | hx
  ·rcases atN_one hy with ⟨rfl,rfl⟩ | hy
   ·exact absurd rfl hne
   ·simp [atN,look] at hy
  ·simp [atN,look] at hx
 ·obtain ⟨i,hi,hu⟩:=un_some hn
  obtain ⟨c,hc,g1⟩:=hh i hi n u hu
  obtain ⟨k1,k2⟩:=h4 _ c hc n u g1
  exact ⟨k1,k2.imp id fun k=>⟨(b,0,0),_,by simp [look],hat,hW n k⟩⟩
set_option maxRecDepth 100000 in
set_option maxHeartbeats 1000000 in
theorem spoilC0 {C:Ctx} {S:St} {E:Env} {a:Act} {w:World} {b:Nat} {m:MC} {h:Nat→PH} {K:Int} (hok:fitM m) (hK:0≤K∧K≤10000) (hs:Sat C.B C.W C.w0 E S a w) (hb:look S.own b=some (.one (.pr (ContP b m))))
  (hd:∀ i j n,i<5→j<5→i≠j→h i n=none∨h j n=none) (hw:∀ i,i<5→∀ n u,h i n=some u→w.heap[n]? = some u) (h0:LsP 1 eI 0 3 m.cell (E.χ (b,0,0)) (h 0)) (h1:LsP 1 eI 0 3 m.stack (E.χ (b,1,0)) (h 1)) (h2:LsP 1 eI 0 3 m.queue (E.χ (b,2,0)) (h 2)) (h3:LsP 1 eI 0 3 m.set (E.χ (b,3,0)) (h 3)) (h4:LsP 2 eP (0,0) 76 m.table (E.χ (b,4,0)) (h 4)) :
  Calls Try.prog 34 (([.agg (cN b),.c (.v (.int .i64 K))]:List SV).map (SV.den E)).toArray w fun e w'=>∃ v,e = .returned v∧After C.B C.W C.w0 E [b] S a w (.tup []) 0 [(b,.one (.pr (ContP b (spM m K))))] [] v w':=by
 obtain ⟨F0,y0,v0,d0⟩:=id h0
 obtain ⟨F1,y1,v1,d1⟩:=id h1
 obtain ⟨F2,y2,v2,d2⟩:=id h2
 obtain ⟨F3,y3,v3,d3⟩:=id h3
 obtain ⟨F4,y4,v4,d4⟩:=id h4
 obtain ⟨E5,hE5⟩:∃ E5:Env,E5=env5 (pick5 F0 F1 F2 F3 F4) (pick5 y0 y1 y2 y3 y4):=⟨_,rfl⟩
 have g0:(Blk.ar m.cell.length 1 (ats eI m.cell 0) 3).den E5 (0,0,0) (h 0):=by rw [hE5];exact ar_env (F:=F0) (y:=y0) rfl rfl rfl d0
 have u0:(SC.sl (0,0,0) 1 0 m.cell.length none).den E5=E.χ (b,0,0):=by rw [v0,hE5];simp [den_sl,env5,pick5]
 have g1:(Blk.ar m.stack.length 1 (ats eI m.stack 0) 3).den E5 (1,0,0) (h 1):=by rw [hE5];exact ar_env (F:=F1) (y:=y1) rfl rfl rfl d1
 have u1:(SC.sl (1,0,0) 1 0 m.stack.length none).den E5=E.χ (b,1,0):=by rw [v1,hE5];simp [den_sl,env5,pick5]
 have g2:(Blk.ar m.queue.length 1 (ats eI m.queue 0) 3).den E5 (2,0,0) (h 2):=by rw [hE5];exact ar_env (F:=F2) (y:=y2) rfl rfl rfl d2
 have u2:(SC.sl (2,0,0) 1 0 m.queue.length none).den E5=E.χ (b,2,0):=by rw [v2,hE5];simp [den_sl,env5,pick5]
 have g3:(Blk.ar m.set.length 1 (ats eI m.set 0) 3).den E5 (3,0,0) (h 3):=by rw [hE5];exact ar_env (F:=F3) (y:=y3) rfl rfl rfl d3
 have u3:(SC.sl (3,0,0) 1 0 m.set.length none).den E5=E.χ (b,3,0):=by rw [v3,hE5];simp [den_sl,env5,pick5]
 have g4:(Blk.ar m.table.length 2 (ats eP m.table (0,0)) 76).den E5 (4,0,0) (h 4):=by rw [hE5];exact ar_env (F:=F4) (y:=y4) rfl rfl rfl d4
 have u4:(SC.sl (4,0,0) 2 0 m.table.length none).den E5=E.χ (b,4,0):=by rw [v4,hE5];simp [den_sl,env5,pick5]
 have hen:∀ {x:Nm} {c:Blk},atN ([(0,.one (.ar m.cell.length 1 (ats eI m.cell 0) 3)),(1,.one (.ar m.stack.length 1 (ats eI m.stack 0) 3)),(2,.one (.ar m.queue.length 1 (ats eI m.queue 0) 3)),(3,.one (.ar m.set.length 1 (ats eI m.set 0) 3)),(4,.one (.ar m.table.length 2 (ats eP m.table (0,0)) 76))]:Own) x=some c→(x=(0,0,0)∧c = .ar m.cell.length 1 (ats eI m.cell 0) 3)∨(x=(1,0,0)∧c = .ar m.stack.length 1 (ats eI m.stack 0) 3)∨(x=(2,0,0)∧c = .ar m.queue.length 1 (ats eI m.queue 0) 3)∨(x=(3,0,0)∧c = .ar m.set.length 1 (ats eI m.set 0) 3)∨(x=(4,0,0)∧c = .ar m.table.length 2 (ats eP m.table (0,0)) 76):=fun {x c} hx=>by
  rcases atN_one hx with ⟨rfl,rfl⟩ | hx
  ·exact Or.inl ⟨rfl,rfl⟩
  rcases atN_one hx with ⟨rfl,rfl⟩ | hx
  ·exact Or.inr (Or.inl ⟨rfl,rfl⟩)
  rcases atN_one hx with ⟨rfl,rfl⟩ | hx
  ·exact Or.inr (Or.inr (Or.inl ⟨rfl,rfl⟩))
  rcases atN_one hx with ⟨rfl,rfl⟩ | hx
  ·exact Or.inr (Or.inr (Or.inr (Or.inl ⟨rfl,rfl⟩)))
  rcases atN_one hx with ⟨rfl,rfl⟩ | hx
  ·exact Or.inr (Or.inr (Or.inr (Or.inr (⟨rfl,rfl⟩))))
  simp [atN,look] at hx
 have hand:Handed w E5 5 [(0,.one (.ar m.cell.length 1 (ats eI m.cell 0) 3)),(1,.one (.ar m.stack.length 1 (ats eI m.stack 0) 3)),(2,.one (.ar m.queue.length 1 (ats eI m.queue 0) 3)),(3,.one (.ar m.set.length 1 (ats eI m.set 0) 3)),(4,.one (.ar m.table.length 2 (ats eP m.table (0,0)) 76))] []:=by
  refine ⟨fun x=>by rw [hE5];rfl,fun E' hE' ho'=>⟨fun x=>h x.1,fun x c hx=>?_,fun x y c d hx hy hne n=>?_,fun x c hx n u hn=>?_,fun w' hw'=>⟨fun x A hA=>by simp [atN,look] at hA,fun φ hφ=>?_⟩⟩⟩
  ·rcases hen hx with ⟨rfl,rfl⟩ | ⟨rfl,rfl⟩ | ⟨rfl,rfl⟩ | ⟨rfl,rfl⟩ | ⟨rfl,rfl⟩
   ·exact ar_env (hE' (0,0,0) (show 0<5 by decide)).1 (hE' (0,0,0) (show 0<5 by decide)).2.1 (hE' (0,0,0) (show 0<5 by decide)).2.2.1 g0
   ·exact ar_env (hE' (1,0,0) (show 1<5 by decide)).1 (hE' (1,0,0) (show 1<5 by decide)).2.1 (hE' (1,0,0) (show 1<5 by decide)).2.2.1 g1
   ·exact ar_env (hE' (2,0,0) (show 2<5 by decide)).1 (hE' (2,0,0) (show 2<5 by decide)).2.1 (hE' (2,0,0) (show 2<5 by decide)).2.2.1 g2
   ·exact ar_env (hE' (3,0,0) (show 3<5 by decide)).1 (hE' (3,0,0) (show 3<5 by decide)).2.1 (hE' (3,0,0) (show 3<5 by decide)).2.2.1 g3
   ·exact ar_env (hE' (4,0,0) (show 4<5 by decide)).1 (hE' (4,0,0) (show 4<5 by decide)).2.1 (hE' (4,0,0) (show 4<5 by decide)).2.2.1 g4
  ·have hx5:x.1<5∧x.2=(0,0):=by rcases hen hx with ⟨rfl,rfl⟩ | ⟨rfl,rfl⟩ | ⟨rfl,rfl⟩ | ⟨rfl,rfl⟩ | ⟨rfl,rfl⟩ <;> exact ⟨by decide,rfl⟩
   have hy5:y.1<5∧y.2=(0,0):=by rcases hen hy with ⟨rfl,rfl⟩ | ⟨rfl,rfl⟩ | ⟨rfl,rfl⟩ | ⟨rfl,rfl⟩ | ⟨rfl,rfl⟩ <;> exact ⟨by decide,rfl⟩
   exact hd x.1 y.1 n hx5.1 hy5.1 fun e=>hne (Prod.ext e (hx5.2.trans hy5.2.symm))
  ·refine ⟨?_,x,c,hx,?_⟩
   ·rcases hen hx with ⟨rfl,rfl⟩ | ⟨rfl,rfl⟩ | ⟨rfl,rfl⟩ | ⟨rfl,rfl⟩ | ⟨rfl,rfl⟩ <;> exact hw _ (by decide) n u hn
   ·rcases hen hx with ⟨rfl,rfl⟩ | ⟨rfl,rfl⟩ | ⟨rfl,rfl⟩ | ⟨rfl,rfl⟩ | ⟨rfl,rfl⟩
    ·exact (takes_ar g0).1 (by rw [show h 0 n=some u from hn];simp)
    ·exact (takes_ar g1).1 (by rw [show h 1 n=some u from hn];simp)
    ·exact (takes_ar g2).1 (by rw [show h 2 n=some u from hn];simp)
    ·exact (takes_ar g3).1 (by rw [show h 3 n=some u from hn];simp)
    ·exact (takes_ar g4).1 (by rw [show h 4 n=some u from hn];simp)
  ·simp only [List.mem_singleton] at hφ
   subst hφ
   exact hE'
 have hcall:=spoil_c0 w E5 m K hok hK hand
 have hargs:(([.agg (cN b),.c (.v (.int .i64 K))]:List SV).map (SV.den E))=(([.agg [.sl (0,0,0) 1 0 m.cell.length none,.sl (1,0,0) 1 0 m.stack.length none,.sl (2,0,0) 1 0 m.queue.length none,.sl (3,0,0) 1 0 m.set.length none,.sl (4,0,0) 2 0 m.table.length none],.c (.v (.int .i64 K))]:List SV).map (SV.den E5)):=by
  simp only [List.map_cons,List.map_nil,cN,den_xv,den_agg,u0,u1,u2,u3,u4,den_c,den_v]
 rw [hargs]
 refine hcall.mono fun e w' hE=>after_cont (E5:=E5) (eff5:=[(0,.one (.ar m.cell.length 1 (ats eI (List.replicate m.cell.length K) 0) 3)),(1,.one (.ar m.stack.length 1 (ats eI (List.replicate m.stack.length (K+10)) 0) 3)),(2,.one (.ar m.queue.length 1 (ats eI (List.replicate m.queue.length (K+20)) 0) 3)),(3,.one (.ar m.set.length 1 (ats eI (List.replicate m.set.length (K+30)) 0) 3)),(4,.one (.ar m.table.length 2 (ats eP (List.replicate m.table.length (K+50,K)) (0,0)) 76))]) hs hb 0 (fun n hn=>?_) (fun H' hH'=>?_) hE
 ·obtain ⟨x,c,hx,ht⟩:=hn
  rcases hen hx with ⟨rfl,rfl⟩ | ⟨rfl,rfl⟩ | ⟨rfl,rfl⟩ | ⟨rfl,rfl⟩ | ⟨rfl,rfl⟩
  ·exact ⟨0,by decide,(lsP_takes h0 n).1 ((takes_ar g0).2 ht)⟩
  ·exact ⟨1,by decide,(lsP_takes h1 n).1 ((takes_ar g1).2 ht)⟩
  ·exact ⟨2,by decide,(lsP_takes h2 n).1 ((takes_ar g2).2 ht)⟩
  ·exact ⟨3,by decide,(lsP_takes h3 n).1 ((takes_ar g3).2 ht)⟩
  ·exact ⟨4,by decide,(lsP_takes h4 n).1 ((takes_ar g4).2 ht)⟩
 ·refine ⟨fun i=>H' (i,0,0),⟨lsP_of (by simp [spM]) u0.symm (hH' (0,0,0) _ rfl),lsP_of (by simp [spM]) u1.symm (hH' (1,0,0) _ rfl),lsP_of (by simp [spM]) u2.symm (hH' (2,0,0) _ rfl),lsP_of (by simp [spM]) u3.symm (hH' (3,0,0) _ rfl),lsP_of (by simp [spM]) u4.symm (hH' (4,0,0) _ rfl)⟩,fun i hi n u hu=>?_⟩
  match i,hi with
  | 0,_=>exact ⟨_,rfl,by simpa using hu⟩
  | 1,_=>exact ⟨_,rfl,by simpa using hu⟩
  | 2,_=>exact ⟨_,rfl,by simpa using hu⟩
  | 3,_=>exact ⟨_,rfl,by simpa using hu⟩
  | 4,_=>exact ⟨_,rfl,by simpa using hu⟩
set_option maxRecDepth 100000 in
set_option maxHeartbeats 1000000 in
theorem spoilC1 {C:Ctx} {S:St} {E:Env} {a:Act} {w:World} {b:Nat} {m:MC} {h:Nat→PH} {K:Int} (ba:Addr) (hm:m.stack=[]) (hok:fitM m) (hK:0≤K∧K≤10000) (hs:Sat C.B C.W C.w0 E S a w) (hb:look S.own b=some (.one (.pr (ContP b m))))
  (hd:∀ i j n,i<5→j<5→i≠j→h i n=none∨h j n=none) (hw:∀ i,i<5→∀ n u,h i n=some u→w.heap[n]? = some u) (h0:LsP 1 eI 0 3 m.cell (E.χ (b,0,0)) (h 0)) (h1:E.χ (b,1,0)=Value.slice (some ba) 0 0) (h2:LsP 1 eI 0 3 m.queue (E.χ (b,2,0)) (h 2)) (h3:LsP 1 eI 0 3 m.set (E.χ (b,3,0)) (h 3)) (h4:LsP 2 eP (0,0) 76 m.table (E.χ (b,4,0)) (h 4)) :
  Calls Try.prog 34 (([.agg (cN b),.c (.v (.int .i64 K))]:List SV).map (SV.den E)).toArray w fun e w'=>∃ v,e = .returned v∧After C.B C.W C.w0 E [b] S a w (.tup []) 0 [(b,.one (.pr (ContP b (spM m K))))] [] v w':=by
 obtain ⟨F0,y0,v0,d0⟩:=id h0
 obtain ⟨F2,y2,v2,d2⟩:=id h2
 obtain ⟨F3,y3,v3,d3⟩:=id h3
 obtain ⟨F4,y4,v4,d4⟩:=id h4
 obtain ⟨E5,hE5⟩:∃ E5:Env,E5=env5 (pick5 F0 F0 F2 F3 F4) (pick5 y0 y0 y2 y3 y4):=⟨_,rfl⟩
 have g0:(Blk.ar m.cell.length 1 (ats eI m.cell 0) 3).den E5 (0,0,0) (h 0):=by rw [hE5];exact ar_env (F:=F0) (y:=y0) rfl rfl rfl d0
 have u0:(SC.sl (0,0,0) 1 0 m.cell.length none).den E5=E.χ (b,0,0):=by rw [v0,hE5];simp [den_sl,env5,pick5]
 have g2:(Blk.ar m.queue.length 1 (ats eI m.queue 0) 3).den E5 (2,0,0) (h 2):=by rw [hE5];exact ar_env (F:=F2) (y:=y2) rfl rfl rfl d2
 have u2:(SC.sl (2,0,0) 1 0 m.queue.length none).den E5=E.χ (b,2,0):=by rw [v2,hE5];simp [den_sl,env5,pick5]
 have g3:(Blk.ar m.set.length 1 (ats eI m.set 0) 3).den E5 (3,0,0) (h 3):=by rw [hE5];exact ar_env (F:=F3) (y:=y3) rfl rfl rfl d3
 have u3:(SC.sl (3,0,0) 1 0 m.set.length none).den E5=E.χ (b,3,0):=by rw [v3,hE5];simp [den_sl,env5,pick5]
 have g4:(Blk.ar m.table.length 2 (ats eP m.table (0,0)) 76).den E5 (4,0,0) (h 4):=by rw [hE5];exact ar_env (F:=F4) (y:=y4) rfl rfl rfl d4
 have u4:(SC.sl (4,0,0) 2 0 m.table.length none).den E5=E.χ (b,4,0):=by rw [v4,hE5];simp [den_sl,env5,pick5]
 have hen:∀ {x:Nm} {c:Blk},atN ([(0,.one (.ar m.cell.length 1 (ats eI m.cell 0) 3)),(2,.one (.ar m.queue.length 1 (ats eI m.queue 0) 3)),(3,.one (.ar m.set.length 1 (ats eI m.set 0) 3)),(4,.one (.ar m.table.length 2 (ats eP m.table (0,0)) 76))]:Own) x=some c→(x=(0,0,0)∧c = .ar m.cell.length 1 (ats eI m.cell 0) 3)∨(x=(2,0,0)∧c = .ar m.queue.length 1 (ats eI m.queue 0) 3)∨(x=(3,0,0)∧c = .ar m.set.length 1 (ats eI m.set 0) 3)∨(x=(4,0,0)∧c = .ar m.table.length 2 (ats eP m.table (0,0)) 76):=fun {x c} hx=>by
  rcases atN_one hx with ⟨rfl,rfl⟩ | hx
  ·exact Or.inl ⟨rfl,rfl⟩
  rcases atN_one hx with ⟨rfl,rfl⟩ | hx
  ·exact Or.inr (Or.inl ⟨rfl,rfl⟩)
  rcases atN_one hx with ⟨rfl,rfl⟩ | hx
  ·exact Or.inr (Or.inr (Or.inl ⟨rfl,rfl⟩))
  rcases atN_one hx with ⟨rfl,rfl⟩ | hx
  ·exact Or.inr (Or.inr (Or.inr (⟨rfl,rfl⟩)))
  simp [atN,look] at hx
 have hand:Handed w E5 5 [(0,.one (.ar m.cell.length 1 (ats eI m.cell 0) 3)),(2,.one (.ar m.queue.length 1 (ats eI m.queue 0) 3)),(3,.one (.ar m.set.length 1 (ats eI m.set 0) 3)),(4,.one (.ar m.table.length 2 (ats eP m.table (0,0)) 76))] []:=by
  refine ⟨fun x=>by rw [hE5];rfl,fun E' hE' ho'=>⟨fun x=>h x.1,fun x c hx=>?_,fun x y c d hx hy hne n=>?_,fun x c hx n u hn=>?_,fun w' hw'=>⟨fun x A hA=>by simp [atN,look] at hA,fun φ hφ=>?_⟩⟩⟩
  ·rcases hen hx with ⟨rfl,rfl⟩ | ⟨rfl,rfl⟩ | ⟨rfl,rfl⟩ | ⟨rfl,rfl⟩
   ·exact ar_env (hE' (0,0,0) (show 0<5 by decide)).1 (hE' (0,0,0) (show 0<5 by decide)).2.1 (hE' (0,0,0) (show 0<5 by decide)).2.2.1 g0
   ·exact ar_env (hE' (2,0,0) (show 2<5 by decide)).1 (hE' (2,0,0) (show 2<5 by decide)).2.1 (hE' (2,0,0) (show 2<5 by decide)).2.2.1 g2
   ·exact ar_env (hE' (3,0,0) (show 3<5 by decide)).1 (hE' (3,0,0) (show 3<5 by decide)).2.1 (hE' (3,0,0) (show 3<5 by decide)).2.2.1 g3
   ·exact ar_env (hE' (4,0,0) (show 4<5 by decide)).1 (hE' (4,0,0) (show 4<5 by decide)).2.1 (hE' (4,0,0) (show 4<5 by decide)).2.2.1 g4
  ·have hx5:x.1<5∧x.2=(0,0):=by rcases hen hx with ⟨rfl,rfl⟩ | ⟨rfl,rfl⟩ | ⟨rfl,rfl⟩ | ⟨rfl,rfl⟩ <;> exact ⟨by decide,rfl⟩
   have hy5:y.1<5∧y.2=(0,0):=by rcases hen hy with ⟨rfl,rfl⟩ | ⟨rfl,rfl⟩ | ⟨rfl,rfl⟩ | ⟨rfl,rfl⟩ <;> exact ⟨by decide,rfl⟩
   exact hd x.1 y.1 n hx5.1 hy5.1 fun e=>hne (Prod.ext e (hx5.2.trans hy5.2.symm))
  ·refine ⟨?_,x,c,hx,?_⟩
   ·rcases hen hx with ⟨rfl,rfl⟩ | ⟨rfl,rfl⟩ | ⟨rfl,rfl⟩ | ⟨rfl,rfl⟩ <;> exact hw _ (by decide) n u hn
   ·rcases hen hx with ⟨rfl,rfl⟩ | ⟨rfl,rfl⟩ | ⟨rfl,rfl⟩ | ⟨rfl,rfl⟩
    ·exact (takes_ar g0).1 (by rw [show h 0 n=some u from hn];simp)
    ·exact (takes_ar g2).1 (by rw [show h 2 n=some u from hn];simp)
    ·exact (takes_ar g3).1 (by rw [show h 3 n=some u from hn];simp)
    ·exact (takes_ar g4).1 (by rw [show h 4 n=some u from hn];simp)
  ·simp only [List.mem_singleton] at hφ
   subst hφ
   exact hE'
 have hcall:=spoil_c1 w E5 m K ba hok hK hand
 have hargs:(([.agg (cN b),.c (.v (.int .i64 K))]:List SV).map (SV.den E))=(([.agg [.sl (0,0,0) 1 0 m.cell.length none,.v (.slice (some ba) 0 0),.sl (2,0,0) 1 0 m.queue.length none,.sl (3,0,0) 1 0 m.set.length none,.sl (4,0,0) 2 0 m.table.length none],.c (.v (.int .i64 K))]:List SV).map (SV.den E5)):=by
  simp only [List.map_cons,List.map_nil,cN,den_xv,den_agg,u0,u2,u3,u4,den_c,den_v,h1]
 rw [hargs]
 refine hcall.mono fun e w' hE=>after_cont (E5:=E5) (eff5:=[(0,.one (.ar m.cell.length 1 (ats eI (List.replicate m.cell.length K) 0) 3)),(2,.one (.ar m.queue.length 1 (ats eI (List.replicate m.queue.length (K+20)) 0) 3)),(3,.one (.ar m.set.length 1 (ats eI (List.replicate m.set.length (K+30)) 0) 3)),(4,.one (.ar m.table.length 2 (ats eP (List.replicate m.table.length (K+50,K)) (0,0)) 76))]) hs hb 1 (fun n hn=>?_) (fun H' hH'=>?_) hE
 ·obtain ⟨x,c,hx,ht⟩:=hn
  rcases hen hx with ⟨rfl,rfl⟩ | ⟨rfl,rfl⟩ | ⟨rfl,rfl⟩ | ⟨rfl,rfl⟩
  ·exact ⟨0,by decide,(lsP_takes h0 n).1 ((takes_ar g0).2 ht)⟩
  ·exact ⟨2,by decide,(lsP_takes h2 n).1 ((takes_ar g2).2 ht)⟩
  ·exact ⟨3,by decide,(lsP_takes h3 n).1 ((takes_ar g3).2 ht)⟩
  ·exact ⟨4,by decide,(lsP_takes h4 n).1 ((takes_ar g4).2 ht)⟩
 ·refine ⟨fun i=>if i=1 then emp else H' (i,0,0),⟨lsP_of (by simp [spM]) u0.symm (hH' (0,0,0) _ rfl),⟨by simp [spM,hm],rfl,ba,h1⟩,lsP_of (by simp [spM]) u2.symm (hH' (2,0,0) _ rfl),lsP_of (by simp [spM]) u3.symm (hH' (3,0,0) _ rfl),lsP_of (by simp [spM]) u4.symm (hH' (4,0,0) _ rfl)⟩,fun i hi n u hu=>?_⟩
  match i,hi with
  | 0,_=>exact ⟨_,rfl,by simpa using hu⟩
  | 1,_=>simp [emp] at hu
  | 2,_=>exact ⟨_,rfl,by simpa using hu⟩
  | 3,_=>exact ⟨_,rfl,by simpa using hu⟩
  | 4,_=>exact ⟨_,rfl,by simpa using hu⟩
set_option maxRecDepth 100000 in
set_option maxHeartbeats 1000000 in
theorem spoilC2 {C:Ctx} {S:St} {E:Env} {a:Act} {w:World} {b:Nat} {m:MC} {h:Nat→PH} {K:Int} (ba:Addr) (hm:m.queue=[]) (hok:fitM m) (hK:0≤K∧K≤10000) (hs:Sat C.B C.W C.w0 E S a w) (hb:look S.own b=some (.one (.pr (ContP b m))))
  (hd:∀ i j n,i<5→j<5→i≠j→h i n=none∨h j n=none) (hw:∀ i,i<5→∀ n u,h i n=some u→w.heap[n]? = some u) (h0:LsP 1 eI 0 3 m.cell (E.χ (b,0,0)) (h 0)) (h1:LsP 1 eI 0 3 m.stack (E.χ (b,1,0)) (h 1)) (h2:E.χ (b,2,0)=Value.slice (some ba) 0 0) (h3:LsP 1 eI 0 3 m.set (E.χ (b,3,0)) (h 3)) (h4:LsP 2 eP (0,0) 76 m.table (E.χ (b,4,0)) (h 4)) :
  Calls Try.prog 34 (([.agg (cN b),.c (.v (.int .i64 K))]:List SV).map (SV.den E)).toArray w fun e w'=>∃ v,e = .returned v∧After C.B C.W C.w0 E [b] S a w (.tup []) 0 [(b,.one (.pr (ContP b (spM m K))))] [] v w':=by
 obtain ⟨F0,y0,v0,d0⟩:=id h0
 obtain ⟨F1,y1,v1,d1⟩:=id h1
 obtain ⟨F3,y3,v3,d3⟩:=id h3
 obtain ⟨F4,y4,v4,d4⟩:=id h4
 obtain ⟨E5,hE5⟩:∃ E5:Env,E5=env5 (pick5 F0 F1 F0 F3 F4) (pick5 y0 y1 y0 y3 y4):=⟨_,rfl⟩
 have g0:(Blk.ar m.cell.length 1 (ats eI m.cell 0) 3).den E5 (0,0,0) (h 0):=by rw [hE5];exact ar_env (F:=F0) (y:=y0) rfl rfl rfl d0
 have u0:(SC.sl (0,0,0) 1 0 m.cell.length none).den E5=E.χ (b,0,0):=by rw [v0,hE5];simp [den_sl,env5,pick5]
 have g1:(Blk.ar m.stack.length 1 (ats eI m.stack 0) 3).den E5 (1,0,0) (h 1):=by rw [hE5];exact ar_env (F:=F1) (y:=y1) rfl rfl rfl d1
 have u1:(SC.sl (1,0,0) 1 0 m.stack.length none).den E5=E.χ (b,1,0):=by rw [v1,hE5];simp [den_sl,env5,pick5]
 have g3:(Blk.ar m.set.length 1 (ats eI m.set 0) 3).den E5 (3,0,0) (h 3):=by rw [hE5];exact ar_env (F:=F3) (y:=y3) rfl rfl rfl d3
 have u3:(SC.sl (3,0,0) 1 0 m.set.length none).den E5=E.χ (b,3,0):=by rw [v3,hE5];simp [den_sl,env5,pick5]
 have g4:(Blk.ar m.table.length 2 (ats eP m.table (0,0)) 76).den E5 (4,0,0) (h 4):=by rw [hE5];exact ar_env (F:=F4) (y:=y4) rfl rfl rfl d4
 have u4:(SC.sl (4,0,0) 2 0 m.table.length none).den E5=E.χ (b,4,0):=by rw [v4,hE5];simp [den_sl,env5,pick5]
 have hen:∀ {x:Nm} {c:Blk},atN ([(0,.one (.ar m.cell.length 1 (ats eI m.cell 0) 3)),(1,.one (.ar m.stack.length 1 (ats eI m.stack 0) 3)),(3,.one (.ar m.set.length 1 (ats eI m.set 0) 3)),(4,.one (.ar m.table.length 2 (ats eP m.table (0,0)) 76))]:Own) x=some c→(x=(0,0,0)∧c = .ar m.cell.length 1 (ats eI m.cell 0) 3)∨(x=(1,0,0)∧c = .ar m.stack.length 1 (ats eI m.stack 0) 3)∨(x=(3,0,0)∧c = .ar m.set.length 1 (ats eI m.set 0) 3)∨(x=(4,0,0)∧c = .ar m.table.length 2 (ats eP m.table (0,0)) 76):=fun {x c} hx=>by
  rcases atN_one hx with ⟨rfl,rfl⟩ | hx
  ·exact Or.inl ⟨rfl,rfl⟩
  rcases atN_one hx with ⟨rfl,rfl⟩ | hx
  ·exact Or.inr (Or.inl ⟨rfl,rfl⟩)
  rcases atN_one hx with ⟨rfl,rfl⟩ | hx
  ·exact Or.inr (Or.inr (Or.inl ⟨rfl,rfl⟩))
  rcases atN_one hx with ⟨rfl,rfl⟩ | hx
  ·exact Or.inr (Or.inr (Or.inr (⟨rfl,rfl⟩)))
  simp [atN,look] at hx
 have hand:Handed w E5 5 [(0,.one (.ar m.cell.length 1 (ats eI m.cell 0) 3)),(1,.one (.ar m.stack.length 1 (ats eI m.stack 0) 3)),(3,.one (.ar m.set.length 1 (ats eI m.set 0) 3)),(4,.one (.ar m.table.length 2 (ats eP m.table (0,0)) 76))] []:=by
  refine ⟨fun x=>by rw [hE5];rfl,fun E' hE' ho'=>⟨fun x=>h x.1,fun x c hx=>?_,fun x y c d hx hy hne n=>?_,fun x c hx n u hn=>?_,fun w' hw'=>⟨fun x A hA=>by simp [atN,look] at hA,fun φ hφ=>?_⟩⟩⟩
  ·rcases hen hx with ⟨rfl,rfl⟩ | ⟨rfl,rfl⟩ | ⟨rfl,rfl⟩ | ⟨rfl,rfl⟩
   ·exact ar_env (hE' (0,0,0) (show 0<5 by decide)).1 (hE' (0,0,0) (show 0<5 by decide)).2.1 (hE' (0,0,0) (show 0<5 by decide)).2.2.1 g0
   ·exact ar_env (hE' (1,0,0) (show 1<5 by decide)).1 (hE' (1,0,0) (show 1<5 by decide)).2.1 (hE' (1,0,0) (show 1<5 by decide)).2.2.1 g1
   ·exact ar_env (hE' (3,0,0) (show 3<5 by decide)).1 (hE' (3,0,0) (show 3<5 by decide)).2.1 (hE' (3,0,0) (show 3<5 by decide)).2.2.1 g3
   ·exact ar_env (hE' (4,0,0) (show 4<5 by decide)).1 (hE' (4,0,0) (show 4<5 by decide)).2.1 (hE' (4,0,0) (show 4<5 by decide)).2.2.1 g4
  ·have hx5:x.1<5∧x.2=(0,0):=by rcases hen hx with ⟨rfl,rfl⟩ | ⟨rfl,rfl⟩ | ⟨rfl,rfl⟩ | ⟨rfl,rfl⟩ <;> exact ⟨by decide,rfl⟩
   have hy5:y.1<5∧y.2=(0,0):=by rcases hen hy with ⟨rfl,rfl⟩ | ⟨rfl,rfl⟩ | ⟨rfl,rfl⟩ | ⟨rfl,rfl⟩ <;> exact ⟨by decide,rfl⟩
   exact hd x.1 y.1 n hx5.1 hy5.1 fun e=>hne (Prod.ext e (hx5.2.trans hy5.2.symm))
  ·refine ⟨?_,x,c,hx,?_⟩
   ·rcases hen hx with ⟨rfl,rfl⟩ | ⟨rfl,rfl⟩ | ⟨rfl,rfl⟩ | ⟨rfl,rfl⟩ <;> exact hw _ (by decide) n u hn
   ·rcases hen hx with ⟨rfl,rfl⟩ | ⟨rfl,rfl⟩ | ⟨rfl,rfl⟩ | ⟨rfl,rfl⟩
    ·exact (takes_ar g0).1 (by rw [show h 0 n=some u from hn];simp)
    ·exact (takes_ar g1).1 (by rw [show h 1 n=some u from hn];simp)
    ·exact (takes_ar g3).1 (by rw [show h 3 n=some u from hn];simp)
    ·exact (takes_ar g4).1 (by rw [show h 4 n=some u from hn];simp)
  ·simp only [List.mem_singleton] at hφ
   subst hφ
   exact hE'
 have hcall:=spoil_c2 w E5 m K ba hok hK hand
 have hargs:(([.agg (cN b),.c (.v (.int .i64 K))]:List SV).map (SV.den E))=(([.agg [.sl (0,0,0) 1 0 m.cell.length none,.sl (1,0,0) 1 0 m.stack.length none,.v (.slice (some ba) 0 0),.sl (3,0,0) 1 0 m.set.length none,.sl (4,0,0) 2 0 m.table.length none],.c (.v (.int .i64 K))]:List SV).map (SV.den E5)):=by
  simp only [List.map_cons,List.map_nil,cN,den_xv,den_agg,u0,u1,u3,u4,den_c,den_v,h2]
 rw [hargs]
 refine hcall.mono fun e w' hE=>after_cont (E5:=E5) (eff5:=[(0,.one (.ar m.cell.length 1 (ats eI (List.replicate m.cell.length K) 0) 3)),(1,.one (.ar m.stack.length 1 (ats eI (List.replicate m.stack.length (K+10)) 0) 3)),(3,.one (.ar m.set.length 1 (ats eI (List.replicate m.set.length (K+30)) 0) 3)),(4,.one (.ar m.table.length 2 (ats eP (List.replicate m.table.length (K+50,K)) (0,0)) 76))]) hs hb 2 (fun n hn=>?_) (fun H' hH'=>?_) hE
 ·obtain ⟨x,c,hx,ht⟩:=hn
  rcases hen hx with ⟨rfl,rfl⟩ | ⟨rfl,rfl⟩ | ⟨rfl,rfl⟩ | ⟨rfl,rfl⟩
  ·exact ⟨0,by decide,(lsP_takes h0 n).1 ((takes_ar g0).2 ht)⟩
  ·exact ⟨1,by decide,(lsP_takes h1 n).1 ((takes_ar g1).2 ht)⟩
  ·exact ⟨3,by decide,(lsP_takes h3 n).1 ((takes_ar g3).2 ht)⟩
  ·exact ⟨4,by decide,(lsP_takes h4 n).1 ((takes_ar g4).2 ht)⟩
 ·refine ⟨fun i=>if i=2 then emp else H' (i,0,0),⟨lsP_of (by simp [spM]) u0.symm (hH' (0,0,0) _ rfl),lsP_of (by simp [spM]) u1.symm (hH' (1,0,0) _ rfl),⟨by simp [spM,hm],rfl,ba,h2⟩,lsP_of (by simp [spM]) u3.symm (hH' (3,0,0) _ rfl),lsP_of (by simp [spM]) u4.symm (hH' (4,0,0) _ rfl)⟩,fun i hi n u hu=>?_⟩
  match i,hi with
  | 0,_=>exact ⟨_,rfl,by simpa using hu⟩
  | 1,_=>exact ⟨_,rfl,by simpa using hu⟩
  | 2,_=>simp [emp] at hu
  | 3,_=>exact ⟨_,rfl,by simpa using hu⟩
  | 4,_=>exact ⟨_,rfl,by simpa using hu⟩
theorem cr_spoil {C:Ctx} {S:St} {b:Nat} {m:MC} {K:Int} (hP:C.P=Try.prog) (hok:fitM m) (hK:0≤K∧K≤10000) (hb:look S.own b=some (.one (.pr (ContP b m)))) :
  CR C 34 [.agg (cN b),.c (.v (.int .i64 K))] S [b] (.tup []) 0 [(b,.one (.pr (ContP b (spM m K))))] []:=by
 intro E a w hs
 rw [hP]
 obtain ⟨H,hH,_⟩:=hs.mem
 have hat:atN S.own (b,0,0)=some (.pr (ContP b m)):=by simp [atN,hb,Fm.get]
 have hd:=hH.den _ _ hat
 simp only [Blk.den] at hd
 obtain ⟨o,h,⟨h0,h1,h2,h3,h4⟩,hdj,hu⟩:=hd
 have hw:∀ i,i<5→∀ n u,h i n=some u→w.heap[n]? = some u:=fun i hi n u hn=>(hH.sub _ _ hat n u (by rw [hu];exact un_of hdj hi hn)).1
 by_cases e1:o=1
 ·subst e1
  rw [if_pos rfl] at h1
  rw [if_neg (by decide)] at h2
  obtain ⟨q1,_,ba,q2⟩:=h1
  exact spoilC1 ba q1 hok hK hs hb hdj hw h0 q2 h2 h3 h4
 ·rw [if_neg e1] at h1
  by_cases e2:o=2
  ·rw [if_pos e2] at h2
   obtain ⟨q1,_,ba,q2⟩:=h2
   exact spoilC2 ba q1 hok hK hs hb hdj hw h0 h1 q2 h3 h4
  ·rw [if_neg e2] at h2
   exact spoilC0 hok hK hs hb hdj hw h0 h1 h2 h3 h4
end Go.Proofs.Ytgljbdcamagdbaa.Z
namespace Go.Proofs.Ytgljbdcamagdbaa.Z
open Go Go.RowKit
def ir35:IR:=(.seq (.ops [⟨(some 2),(.box 29 (.t 0)),none⟩,⟨(some 4),(.mv (.k (.c (.v (.bool false))))),none⟩]) (.kill [0,3,4,5,6,7,8,9,10,11] (.seq (.ops [⟨(some 9),(.fa 0 (.t 2)),none⟩,⟨(some 10),(.ld false 1 (.t 9)),none⟩,⟨(some 11),(.fa 1 (.t 2)),none⟩,⟨(some 12),(.ld false 1 (.t 11)),none⟩,⟨(some 13),(.fa 2 (.t 2)),none⟩,⟨(some 14),(.ld false 1 (.t 13)),none⟩,⟨(some 15),(.fa 3 (.t 2)),none⟩,⟨(some 16),(.ld false 1 (.t 15)),none⟩,⟨(some 17),(.mkSl 26 4 1 [(.v (.slice none 0 0)),(.v (.slice none 0 0)),(.v (.slice none 0 0)),(.v (.slice none 0 0))] [(0,(1,(.t 10))),(1,(1,(.t 12))),(2,(1,(.t 14))),(3,(1,(.t 16)))]),none⟩,⟨(some 5),(.mv (.t 17)),none⟩]) (.kill [9,10,11,12,13,14,15,16,17] (.seq (.seq (.ops [⟨(some 6),(.mv (.k (.c (.v (.int .i64 0))))),none⟩]) (.blk 0 (.loop (.seq (.seq (.ops [⟨(some 18),(.mv (.t 6)),none⟩,⟨(some 19),(.mv (.t 5)),none⟩,⟨(some 20),(.len (.t 19)),none⟩,⟨(some 21),(.bin .lss (.t 18) (.t 20)),none⟩]) (.kill [4,7,18,19,20,22,23,24,25,26,27,28,29,30,31,32,33,34,35,36,37,38,39,40,41,42,43,44] (.cond (.t 21) .skip (.exit 0)))) (.kill [21] (.seq (.blk 1 (.seq (.ops [⟨(some 7),(.mv (.k (.c (.v (.int .i64 0))))),none⟩]) (.blk 2 (.loop (.seq (.seq (.ops [⟨(some 24),(.mv (.t 7)),none⟩,⟨(some 25),(.mv (.t 5)),none⟩,⟨(some 26),(.mv (.t 6)),none⟩,⟨(some 27),(.ia 1 (.t 25) (.t 26)),none⟩,⟨(some 28),(.ld false 1 (.t 27)),none⟩,⟨(some 29),(.len (.t 28)),none⟩,⟨(some 30),(.bin .lss (.t 24) (.t 29)),none⟩]) (.kill [4,24,25,26,27,28,29,31,32,33,34,35,36,37,38,39,40,41,42,43,44] (.cond (.t 30) .skip (.exit 2)))) (.kill [30] (.seq (.blk 3 (.seq (.ops [⟨(some 33),(.mv (.t 5)),none⟩,⟨(some 34),(.mv (.t 6)),none⟩,⟨(some 35),(.ia 1 (.t 33) (.t 34)),none⟩,⟨(some 36),(.ld false 1 (.t 35)),none⟩,⟨(some 37),(.mv (.t 7)),none⟩,⟨(some 38),(.ia 1 (.t 36) (.t 37)),none⟩,⟨(some 39),(.ld false 1 (.t 38)),none⟩,⟨(some 40),(.mv (.t 1)),none⟩,⟨(some 41),(.mv (.t 6)),none⟩,⟨(some 42),(.bin .mul (.k (.c (.v (.int .i64 10)))) (.t 41)),none⟩,⟨(some 43),(.bin .add (.t 40) (.t 42)),none⟩,⟨(some 44),(.bin .neq (.t 39) (.t 43)),none⟩]) (.kill [33,34,35,36,37,38,39,40,41,42,43] (.cond (.t 44) (.seq (.ops [⟨(some 4),(.mv (.k (.c (.v (.bool false))))),none⟩]) (.kill [1,2,5,6,7,44] .ret)) .skip)))) (.kill [4,33,34,35,36,37,38,39,40,41,42,43,44] (.ops [⟨(some 31),(.mv (.t 7)),none⟩,⟨(some 32),(.bin .add (.t 31) (.k (.c (.v (.int .i64 1))))),none⟩,⟨(some 7),(.mv (.t 32)),none⟩]))))))))) (.kill [4,7,24,25,26,27,28,29,30,31,32,33,34,35,36,37,38,39,40,41,42,43,44] (.ops [⟨(some 22),(.mv (.t 6)),none⟩,⟨(some 23),(.bin .add (.t 22) (.k (.c (.v (.int .i64 1))))),none⟩,⟨(some 6),(.mv (.t 23)),none⟩])))))))) (.kill [4,5,6,7,18,19,20,21,22,23,24,25,26,27,28,29,30,31,32,33,34,35,36,37,38,39,40,41,42,43,44] (.seq (.seq (.ops [⟨(some 8),(.mv (.k (.c (.v (.int .i64 0))))),none⟩]) (.blk 4 (.loop (.seq (.seq (.ops [⟨(some 45),(.mv (.t 8)),none⟩,⟨(some 46),(.fa 4 (.t 2)),none⟩,⟨(some 47),(.ld false 1 (.t 46)),none⟩,⟨(some 48),(.len (.t 47)),none⟩,⟨(some 49),(.bin .lss (.t 45) (.t 48)),none⟩]) (.kill [4,45,46,47,48,50,51,52,53,54,55,56,57,58,59,60,61] (.cond (.t 49) .skip (.exit 4)))) (.kill [49] (.seq (.blk 5 (.seq (.ops [⟨(some 52),(.fa 4 (.t 2)),none⟩,⟨(some 53),(.ld false 1 (.t 52)),none⟩,⟨(some 54),(.mv (.t 8)),none⟩,⟨(some 55),(.ia 2 (.t 53) (.t 54)),none⟩,⟨(some 56),(.ld true 2 (.t 55)),none⟩,⟨(some 57),(.mv (.t 1)),none⟩,⟨(some 58),(.bin .add (.t 57) (.k (.c (.v (.int .i64 50))))),none⟩,⟨(some 59),(.mv (.t 1)),none⟩,⟨(some 60),(.build [(.v (.int .i64 0)),(.v (.int .i64 0))] [(0,(1,(.t 58))),(1,(1,(.t 59)))]),none⟩,⟨(some 61),(.eqa true [true,true] (.t 56) (.t 60)),none⟩]) (.kill [52,53,54,55,56,57,58,59,60] (.cond (.t 61) (.seq (.ops [⟨(some 4),(.mv (.k (.c (.v (.bool false))))),none⟩]) (.kill [1,2,8,61] .ret)) .skip)))) (.kill [4,52,53,54,55,56,57,58,59,60,61] (.ops [⟨(some 50),(.mv (.t 8)),none⟩,⟨(some 51),(.bin .add (.t 50) (.k (.c (.v (.int .i64 1))))),none⟩,⟨(some 8),(.mv (.t 51)),none⟩])))))))) (.kill [1,2,4,8,45,46,47,48,49,50,51,52,53,54,55,56,57,58,59,60,61] (.seq (.ops [⟨(some 4),(.mv (.k (.c (.v (.bool true))))),none⟩]) .ret)))))))))
def rs35:List RS:=[(.t 4)]
def nt35:Nat:=62
theorem rep_at {α:Type} {n i:Nat} {x d:α} (h:i<n):(List.replicate n x).getD i d=x:=by
 rw [List.getD_eq_getElem?_getD,List.getElem?_replicate,if_pos h];rfl
set_option maxRecDepth 100000 in
set_option maxHeartbeats 4000000 in
theorem spoilt_Z {w:World} {v:Value} {m:MC} {K:Int} (hok:fitM m) (hK:0≤K∧K≤10000) (h:Cont w v (spM m K)):Calls Try.prog 35 #[v,.int .i64 K] w (RetV w (.bool true)):=by
 obtain ⟨v0,v1,v2,v3,v4,rfl,h'⟩:=id h
 obtain ⟨o0,o1,o2,o3,o4⟩:=id hok
 refine enterC (A:=[]) (c:=ir35) (rs:=rs35) (nt:=nt35) h [.agg (mcS 0),.c (.v (.int .i64 K))] _ Try.func35 rfl (by kernel_rfl) (by kernel_rfl) rfl (fun E' h0=>by
  simp [mcS,SV.den,SC.den] at h0 ⊢
  simp [h0]) (of_decide_eq_true rfl) ?_
 simp (maxSteps:=2000000) only [ir35,nt35,rs35,go_sem,↓reduceIte,Nat.reduceLT,Nat.reduceLeDiff,Nat.reduceAdd,Nat.reduceSub,Nat.reduceMul,Nat.reduceEqDiff,reduceCtorEq,Int.reduceToNat,Int.reduceEq,Int.reduceBEq,Int.reduceBNe,Int.reduceLT,Int.reduceLE,Int.reduceNeg,Int.reduceAdd,Int.reduceSub,Int.reduceMul,Int.reduceGE,Int.reduceGT,endO,mcS,mcA,spM]
 -- loops
 refine ⟨by decide,loop_unr 5 ?_⟩
 intro ι0 I0 μ0 i0 hk0
 simp (maxSteps:=2000000) only [go_sem,↓reduceIte,Nat.reduceLT,Nat.reduceLeDiff,Nat.reduceAdd,Nat.reduceSub,Nat.reduceMul,Nat.reduceEqDiff,reduceCtorEq,Int.reduceToNat,Int.reduceEq,Int.reduceBEq,Int.reduceBNe,Int.reduceLT,Int.reduceLE,Int.reduceNeg,Int.reduceAdd,Int.reduceSub,Int.reduceMul,Int.reduceGE,Int.reduceGT,endO,segs,List.take_succ_cons,List.take_zero,List.drop_succ_cons,List.drop_zero]
 refine loopI (ι:={ i:Nat // i≤m.cell.length }) (fun i=>⟨62,[(1,.c (.v (.int .i64 K))),(2,.c (.ptr (5,0,0) 0)),(5,.c (.sl (6,0,0) 1 0 4 none)),(6,.c (.v (.int .i64 0))),(7,.c (.v (.int .i64 (i.1:Nat))))],[(5,.one (.bk [.xv (0,0,0),.xv (1,0,0),.xv (2,0,0),.xv (3,0,0),.xv (4,0,0)] 29)),(6,.one (.ar 4 1 (segs 1 [.xv (0,0,0),.xv (1,0,0),.xv (2,0,0),.xv (3,0,0)]) 26))],[(0,.one (arrOf eI 1 (List.replicate m.cell.length K) 0)),(1,.one (arrOf eI 1 (List.replicate m.stack.length (K+10)) 0)),(2,.one (arrOf eI 1 (List.replicate m.queue.length (K+20)) 0)),(3,.one (arrOf eI 1 (List.replicate m.set.length (K+30)) 0)),(4,.one (arrOf eP 2 (List.replicate m.table.length (K+50,K)) (0,0)))],[],7⟩) (fun i=>m.cell.length - i.1) ⟨0,Nat.zero_le _⟩ (le_tmps (by simp [TmpsSub,look])) ?_
 rintro ⟨i,hi⟩
 dsimp only at hi ⊢
 simp (maxSteps:=2000000) only [go_sem,↓reduceIte,Nat.reduceLT,Nat.reduceLeDiff,Nat.reduceAdd,Nat.reduceSub,Nat.reduceMul,Nat.reduceEqDiff,reduceCtorEq,Int.reduceToNat,Int.reduceEq,Int.reduceBEq,Int.reduceBNe,Int.reduceLT,Int.reduceLE,Int.reduceNeg,Int.reduceAdd,Int.reduceSub,Int.reduceMul,Int.reduceGE,Int.reduceGT,endO,segs,List.take_succ_cons,List.take_zero,List.drop_succ_cons,List.drop_zero,eI,List.length_replicate]
 refine both (fun hlt=>?_) (fun hge=>?_)
 ·have hlt:i<m.cell.length:=of_decide_eq_true hlt
  refine ⟨hlt,hlt,fun hne=>?_,fun _=>?_⟩
  ·rw [rep_at hlt,wrI (show -9223372036854775808≤K+0∧K+0≤9223372036854775807 by omega)] at hne
   simp at hne
  ·rw [wr_succ (by omega)]
   exact backI ⟨i+1,hlt⟩ (by simp only;omega) (le_tmps (by simp [TmpsSub,look]))
 have hge:i=m.cell.length:=by have:=of_decide_eq_false hge;omega
 subst hge
 clear hi
 refine hk0 _ ?_
 intro ι1 I1 μ1 i1 hk1
 simp (maxSteps:=2000000) only [go_sem,↓reduceIte,Nat.reduceLT,Nat.reduceLeDiff,Nat.reduceAdd,Nat.reduceSub,Nat.reduceMul,Nat.reduceEqDiff,reduceCtorEq,Int.reduceToNat,Int.reduceEq,Int.reduceBEq,Int.reduceBNe,Int.reduceLT,Int.reduceLE,Int.reduceNeg,Int.reduceAdd,Int.reduceSub,Int.reduceMul,Int.reduceGE,Int.reduceGT,endO,segs,List.take_succ_cons,List.take_zero,List.drop_succ_cons,List.drop_zero]
 refine loopI (ι:={ i:Nat // i≤m.stack.length }) (fun i=>⟨62,[(1,.c (.v (.int .i64 K))),(2,.c (.ptr (5,0,0) 0)),(5,.c (.sl (6,0,0) 1 0 4 none)),(6,.c (.v (.int .i64 1))),(7,.c (.v (.int .i64 (i.1:Nat))))],[(5,.one (.bk [.xv (0,0,0),.xv (1,0,0),.xv (2,0,0),.xv (3,0,0),.xv (4,0,0)] 29)),(6,.one (.ar 4 1 (segs 1 [.xv (0,0,0),.xv (1,0,0),.xv (2,0,0),.xv (3,0,0)]) 26))],[(0,.one (arrOf eI 1 (List.replicate m.cell.length K) 0)),(1,.one (arrOf eI 1 (List.replicate m.stack.length (K+10)) 0)),(2,.one (arrOf eI 1 (List.replicate m.queue.length (K+20)) 0)),(3,.one (arrOf eI 1 (List.replicate m.set.length (K+30)) 0)),(4,.one (arrOf eP 2 (List.replicate m.table.length (K+50,K)) (0,0)))],[],7⟩) (fun i=>m.stack.length - i.1) ⟨0,Nat.zero_le _⟩ (le_tmps (by simp [TmpsSub,look])) ?_
 rintro ⟨i,hi⟩
 dsimp only at hi ⊢
 simp (maxSteps:=2000000) only [go_sem,↓reduceIte,Nat.reduceLT,Nat.reduceLeDiff,Nat.reduceAdd,Nat.reduceSub,Nat.reduceMul,Nat.reduceEqDiff,reduceCtorEq,Int.reduceToNat,Int.reduceEq,Int.reduceBEq,Int.reduceBNe,Int.reduceLT,Int.reduceLE,Int.reduceNeg,Int.reduceAdd,Int.reduceSub,Int.reduceMul,Int.reduceGE,Int.reduceGT,endO,segs,List.take_succ_cons,List.take_zero,List.drop_succ_cons,List.drop_zero,eI,List.length_replicate]
 refine both (fun hlt=>?_) (fun hge=>?_)
 ·have hlt:i<m.stack.length:=of_decide_eq_true hlt
  refine ⟨hlt,hlt,fun hne=>?_,fun _=>?_⟩
  ·rw [rep_at hlt,wrI (show -9223372036854775808≤K+10∧K+10≤9223372036854775807 by omega)] at hne
   simp at hne
  ·rw [wr_succ (by omega)]
   exact backI ⟨i+1,hlt⟩ (by simp only;omega) (le_tmps (by simp [TmpsSub,look]))
 have hge:i=m.stack.length:=by have:=of_decide_eq_false hge;omega
 subst hge
 clear hi
 refine hk1 _ ?_
 intro ι2 I2 μ2 i2 hk2
 simp (maxSteps:=2000000) only [go_sem,↓reduceIte,Nat.reduceLT,Nat.reduceLeDiff,Nat.reduceAdd,Nat.reduceSub,Nat.reduceMul,Nat.reduceEqDiff,reduceCtorEq,Int.reduceToNat,Int.reduceEq,Int.reduceBEq,Int.reduceBNe,Int.reduceLT,Int.reduceLE,Int.reduceNeg,Int.reduceAdd,Int.reduceSub,Int.reduceMul,Int.reduceGE,Int.reduceGT,endO,segs,List.take_succ_cons,List.take_zero,List.drop_succ_cons,List.drop_zero]
 refine loopI (ι:={ i:Nat // i≤m.queue.length }) (fun i=>⟨62,[(1,.c (.v (.int .i64 K))),(2,.c (.ptr (5,0,0) 0)),(5,.c (.sl (6,0,0) 1 0 4 none)),(6,.c (.v (.int .i64 2))),(7,.c (.v (.int .i64 (i.1:Nat))))],[(5,.one (.bk [.xv (0,0,0),.xv (1,0,0),.xv (2,0,0),.xv (3,0,0),.xv (4,0,0)] 29)),(6,.one (.ar 4 1 (segs 1 [.xv (0,0,0),.xv (1,0,0),.xv (2,0,0),.xv (3,0,0)]) 26))],[(0,.one (arrOf eI 1 (List.replicate m.cell.length K) 0)),(1,.one (arrOf eI 1 (List.replicate m.stack.length (K+10)) 0)),(2,.one (arrOf eI 1 (List.replicate m.queue.length (K+20)) 0)),(3,.one (arrOf eI 1 (List.replicate m.set.length (K+30)) 0)),(4,.one (arrOf eP 2 (List.replicate m.table.length (K+50,K)) (0,0)))],[],7⟩) (fun i=>m.queue.length - i.1) ⟨0,Nat.zero_le _⟩ (le_tmps (by simp [TmpsSub,look])) ?_
 rintro ⟨i,hi⟩
 dsimp only at hi ⊢
 simp (maxSteps:=2000000) only [go_sem,↓reduceIte,Nat.reduceLT,Nat.reduceLeDiff,Nat.reduceAdd,Nat.reduceSub,Nat.reduceMul,Nat.reduceEqDiff,reduceCtorEq,Int.reduceToNat,Int.reduceEq,Int.reduceBEq,Int.reduceBNe,Int.reduceLT,Int.reduceLE,Int.reduceNeg,Int.reduceAdd,Int.reduceSub,Int.reduceMul,Int.reduceGE,Int.reduceGT,endO,segs,List.take_succ_cons,List.take_zero,List.drop_succ_cons,List.drop_zero,eI,List.length_replicate]
 refine both (fun hlt=>?_) (fun hge=>?_)
 ·have hlt:i<m.queue.length:=of_decide_eq_true hlt
  refine ⟨hlt,hlt,fun hne=>?_,fun _=>?_⟩
  ·rw [rep_at hlt,wrI (show -9223372036854775808≤K+20∧K+20≤9223372036854775807 by omega)] at hne
   simp at hne
  ·rw [wr_succ (by omega)]
   exact backI ⟨i+1,hlt⟩ (by simp only;omega) (le_tmps (by simp [TmpsSub,look]))
 have hge:i=m.queue.length:=by have:=of_decide_eq_false hge;omega
 subst hge
 clear hi
 refine hk2 _ ?_
 intro ι3 I3 μ3 i3 hk3
 simp (maxSteps:=2000000) only [go_sem,↓reduceIte,Nat.reduceLT,Nat.reduceLeDiff,Nat.reduceAdd,Nat.reduceSub,Nat.reduceMul,Nat.reduceEqDiff,reduceCtorEq,Int.reduceToNat,Int.reduceEq,Int.reduceBEq,Int.reduceBNe,Int.reduceLT,Int.reduceLE,Int.reduceNeg,Int.reduceAdd,Int.reduceSub,Int.reduceMul,Int.reduceGE,Int.reduceGT,endO,segs,List.take_succ_cons,List.take_zero,List.drop_succ_cons,List.drop_zero]
 refine loopI (ι:={ i:Nat // i≤m.set.length }) (fun i=>⟨62,[(1,.c (.v (.int .i64 K))),(2,.c (.ptr (5,0,0) 0)),(5,.c (.sl (6,0,0) 1 0 4 none)),(6,.c (.v (.int .i64 3))),(7,.c (.v (.int .i64 (i.1:Nat))))],[(5,.one (.bk [.xv (0,0,0),.xv (1,0,0),.xv (2,0,0),.xv (3,0,0),.xv (4,0,0)] 29)),(6,.one (.ar 4 1 (segs 1 [.xv (0,0,0),.xv (1,0,0),.xv (2,0,0),.xv (3,0,0)]) 26))],[(0,.one (arrOf eI 1 (List.replicate m.cell.length K) 0)),(1,.one (arrOf eI 1 (List.replicate m.stack.length (K+10)) 0)),(2,.one (arrOf eI 1 (List.replicate m.queue.length (K+20)) 0)),(3,.one (arrOf eI 1 (List.replicate m.set.length (K+30)) 0)),(4,.one (arrOf eP 2 (List.replicate m.table.length (K+50,K)) (0,0)))],[],7⟩) (fun i=>m.set.length - i.1) ⟨0,Nat.zero_le _⟩ (le_tmps (by simp [TmpsSub,look])) ?_
 rintro ⟨i,hi⟩
 dsimp only at hi ⊢
 simp (maxSteps:=2000000) only [go_sem,↓reduceIte,Nat.reduceLT,Nat.reduceLeDiff,Nat.reduceAdd,Nat.reduceSub,Nat.reduceMul,Nat.reduceEqDiff,reduceCtorEq,Int.reduceToNat,Int.reduceEq,Int.reduceBEq,Int.reduceBNe,Int.reduceLT,Int.reduceLE,Int.reduceNeg,Int.reduceAdd,Int.reduceSub,Int.reduceMul,Int.reduceGE,Int.reduceGT,endO,segs,List.take_succ_cons,List.take_zero,List.drop_succ_cons,List.drop_zero,eI,List.length_replicate]
 refine both (fun hlt=>?_) (fun hge=>?_)
 ·have hlt:i<m.set.length:=of_decide_eq_true hlt
  refine ⟨hlt,hlt,fun hne=>?_,fun _=>?_⟩
  ·rw [rep_at hlt,wrI (show -9223372036854775808≤K+30∧K+30≤9223372036854775807 by omega)] at hne
   simp at hne
  ·rw [wr_succ (by omega)]
   exact backI ⟨i+1,hlt⟩ (by simp only;omega) (le_tmps (by simp [TmpsSub,look]))
 have hge:i=m.set.length:=by have:=of_decide_eq_false hge;omega
 subst hge
 clear hi
 refine hk3 _ ?_
 intro ι I μ i hk
 simp (maxSteps:=2000000) only [go_sem,↓reduceIte,Nat.reduceLT,Nat.reduceLeDiff,Nat.reduceAdd,Nat.reduceSub,Nat.reduceMul,Nat.reduceEqDiff,reduceCtorEq,Int.reduceToNat,Int.reduceEq,Int.reduceBEq,Int.reduceBNe,Int.reduceLT,Int.reduceLE,Int.reduceNeg,Int.reduceAdd,Int.reduceSub,Int.reduceMul,Int.reduceGE,Int.reduceGT,endO,segs,List.take_succ_cons,List.take_zero,List.drop_succ_cons,List.drop_zero]
 clear hk hk0 hk1 hk2 hk3
 refine loopI (ι:={ i:Nat // i≤m.table.length }) (fun i=>⟨62,[(1,.c (.v (.int .i64 K))),(2,.c (.ptr (5,0,0) 0)),(8,.c (.v (.int .i64 (i.1:Nat))))],[(5,.one (.bk [.xv (0,0,0),.xv (1,0,0),.xv (2,0,0),.xv (3,0,0),.xv (4,0,0)] 29)),(6,.one (.ar 4 1 (segs 1 [.xv (0,0,0),.xv (1,0,0),.xv (2,0,0),.xv (3,0,0)]) 26))],[(0,.one (arrOf eI 1 (List.replicate m.cell.length K) 0)),(1,.one (arrOf eI 1 (List.replicate m.stack.length (K+10)) 0)),(2,.one (arrOf eI 1 (List.replicate m.queue.length (K+20)) 0)),(3,.one (arrOf eI 1 (List.replicate m.set.length (K+30)) 0)),(4,.one (arrOf eP 2 (List.replicate m.table.length (K+50,K)) (0,0)))],[],7⟩) (fun i=>m.table.length - i.1) ⟨0,Nat.zero_le _⟩ (le_tmps (by simp [TmpsSub,look])) ?_
 rintro ⟨i,hi⟩
 dsimp only at hi ⊢
 simp (maxSteps:=2000000) only [go_sem,↓reduceIte,Nat.reduceLT,Nat.reduceLeDiff,Nat.reduceAdd,Nat.reduceSub,Nat.reduceMul,Nat.reduceEqDiff,reduceCtorEq,Int.reduceToNat,Int.reduceEq,Int.reduceBEq,Int.reduceBNe,Int.reduceLT,Int.reduceLE,Int.reduceNeg,Int.reduceAdd,Int.reduceSub,Int.reduceMul,Int.reduceGE,Int.reduceGT,endO,eP,List.length_replicate]
 refine both (fun hlt=>?_) (fun hge=>?_)
 ·have hlt:i<m.table.length:=of_decide_eq_true hlt
  refine ⟨hlt,hlt,fun hne=>?_,fun _=>?_⟩
  ·rw [rep_at hlt,wrI (show -9223372036854775808≤K+50∧K+50≤9223372036854775807 by omega)] at hne
   simp at hne
  ·rw [wr_succ (by omega)]
   exact backI ⟨i+1,hlt⟩ (by simp only;omega) (le_tmps (by simp [TmpsSub,look]))
 exact retV fun E=>by rw [den_c,den_v]
end Go.Proofs.Ytgljbdcamagdbaa.Z
namespace Go.Proofs.Ytgljbdcamagdbaa.Z
open Go Go.RowKit
theorem fit_ok {m:MC} (h:fitM m):m.ok 0:=by
 obtain ⟨h0,h1,h2,h3,h4⟩:=h
 simp only [MC.ok]
 omega
theorem okR_fit {m:MC} (h:MC.okR m):fitM m:=by
 obtain ⟨⟨h0,h1,h2,h3,h4⟩,h5⟩:=h
 simp only [fitM]
 omega
theorem fit_doM {m:MC} (h:MC.okR m) (op arg data:Int):fitM (doM m op arg data).1:=by
 obtain ⟨⟨h0,h1,h2,h3,h4⟩,h5⟩:=h
 have g0:=doCell_len m.cell op arg
 have g1:=doStack_len m.stack op arg
 have g2:=doQueue_len m.queue op arg
 have g3:=doSet_len m.set op arg
 have g4:=doTable_len m.table op arg data
 unfold doM
 (repeat' split) <;> simp only [fitM] <;> omega
theorem fit_part {m:MC} (h:MC.okR m) (k:Int):fitM (partM m k):=by
 obtain ⟨⟨h0,h1,h2,h3,h4⟩,h5⟩:=h
 unfold partM
 (repeat' split) <;> simp only [fitM,List.length_nil] <;> omega
def d3C (d:MC×Int×Int) (b:Nat):SV:=.tup [(true,cN b),(true,[.v (.int .i64 d.2.1),.v (.int .i64 d.2.2)]),(false,[.v (.int .i64 0)])]
def alC (b:Nat):SV:=.tup [(true,cN b),(false,[.v (.bool true)]),(false,[.v (.int .i64 0)])]
def plC (b:Nat):SV:=.tup [(true,cN b),(false,[.v (.int .i64 (-1))]),(false,[.v (.int .i64 0)])]
def paC (b:Nat):SV:=.tup [(true,cN b),(false,[.v (.int .i64 0)])]
section
variable {w:World} {v:Value} {m:MC} (op arg data:Int) (h:Cont w v m) (hok:MC.okR m) (hm:mayB m=true)
include h hok hm
theorem do_C (ho:objOf op≠0):Calls Try.prog 25 #[v,.int .i64 op,.int .i64 arg,.int .i64 data] w (RetN w 1 (d3C (doM m op arg data)) (oC (doM m op arg data).1)):=by
 by_cases h2:objOf op=2∧op≠30∧m.stack.length=1
 ·obtain ⟨q1,q2,q3⟩:=h2
  refine (do_odd1 op arg data h hok hm q1 q2 q3).mono ?_
  rintro e w' ⟨ba,hr⟩
  obtain ⟨x,hx⟩:=List.length_eq_one_iff.1 q3
  refine retN_C1 ba (by simp [doM,q1,hx,doStack,q2]) (fun N E2 b e0 e1 e2 e3 e4=>?_) hr
  simp only [d3X1,mcY1,d3C,cN,den_tup,List.map_cons,List.map_nil,den1,den_xv,e0,e1,e2,e3,e4,den_v,Nat.zero_add]
 ·by_cases h3:objOf op=3∧op≠40∧m.queue.length=1
  ·obtain ⟨q1,q2,q3⟩:=h3
   refine (do_odd2 op arg data h hok hm q1 q2 q3).mono ?_
   rintro e w' ⟨ba,hr⟩
   obtain ⟨x,hx⟩:=List.length_eq_one_iff.1 q3
   refine retN_C2 ba (by simp [doM,q1,hx,doQueue,q2]) (fun N E2 b e0 e1 e2 e3 e4=>?_) hr
   simp only [d3X2,mcY2,d3C,cN,den_tup,List.map_cons,List.map_nil,den1,den_xv,e0,e1,e2,e3,e4,den_v,Nat.zero_add]
  ·refine (do_own op arg data h hok hm ho h2 h3).mono fun e w' hr=>retN_C0 (fun N E2 b e0 e1 e2 e3 e4=>?_) hr
   simp only [d3L,mcL,d3C,cN,den_tup,List.map_cons,List.map_nil,den1,den_xv,e0,e1,e2,e3,e4,den_v,Nat.zero_add]
theorem al_C (ho:objOf op≠0):Calls Try.prog 29 #[v,.agg (clQ op arg data 0 0).toArray] w (RetN w 1 alC (oC (doM m op arg data).1)):=by
 by_cases h2:objOf op=2∧op≠30∧m.stack.length=1
 ·obtain ⟨q1,q2,q3⟩:=h2
  refine (al_odd1 op arg data h (doM m op arg data) fun w' v' hc=>do_odd1 op arg data hc hok hm q1 q2 q3).mono ?_
  rintro e w' ⟨ba,hr⟩
  obtain ⟨x,hx⟩:=List.length_eq_one_iff.1 q3
  refine retN_C1 ba (by simp [doM,q1,hx,doStack,q2]) (fun N E2 b e0 e1 e2 e3 e4=>?_) hr
  simp only [alX1,mcY1,alC,cN,den_tup,List.map_cons,List.map_nil,den1,den_xv,e0,e1,e2,e3,e4,den_v,Nat.zero_add]
 ·by_cases h3:objOf op=3∧op≠40∧m.queue.length=1
  ·obtain ⟨q1,q2,q3⟩:=h3
   refine (al_odd2 op arg data h (doM m op arg data) fun w' v' hc=>do_odd2 op arg data hc hok hm q1 q2 q3).mono ?_
   rintro e w' ⟨ba,hr⟩
   obtain ⟨x,hx⟩:=List.length_eq_one_iff.1 q3
   refine retN_C2 ba (by simp [doM,q1,hx,doQueue,q2]) (fun N E2 b e0 e1 e2 e3 e4=>?_) hr
   simp only [alX2,mcY2,alC,cN,den_tup,List.map_cons,List.map_nil,den1,den_xv,e0,e1,e2,e3,e4,den_v,Nat.zero_add]
  ·refine (al_own op arg data h (doM m op arg data) fun w' v' hc=>do_own op arg data hc hok hm ho h2 h3).mono fun e w' hr=>retN_C0 (fun N E2 b e0 e1 e2 e3 e4=>?_) hr
   simp only [alL,mcL,alC,cN,den_tup,List.map_cons,List.map_nil,den1,den_xv,e0,e1,e2,e3,e4,den_v,Nat.zero_add]
theorem full_C:Calls Try.prog 29 #[v,.agg (clQ 30 1 0 4 0).toArray] w (RetN w 1 alC (oC m)) :=
 (al_full h hok hm).mono fun e w' hr=>retN_C0 (fun N E2 b e0 e1 e2 e3 e4=>by
  simp only [alL,mcL,alC,cN,den_tup,List.map_cons,List.map_nil,den1,den_xv,e0,e1,e2,e3,e4,den_v,Nat.zero_add]) hr
theorem play_C:Calls Try.prog 32 #[v,.slice none 0 0] w (RetN w 1 plC (oC m)) :=
 (play_own h hok hm).mono fun e w' hr=>retN_C0 (fun N E2 b e0 e1 e2 e3 e4=>by
  simp only [plL,mcL,plC,cN,den_tup,List.map_cons,List.map_nil,den1,den_xv,e0,e1,e2,e3,e4,den_v,Nat.zero_add]) hr
theorem part_C (k:Int) (hk:k=1∨k=2∨k=3∨k=4∨k=5):Calls Try.prog 23 #[v,.int .i64 k] w (RetN w 1 paC (oC (partM m k))):=by
 have g:∀ (m' : MC),Calls Try.prog 23 #[v,.int .i64 k] w (RetN w 5 (paL m') (mcO m'))→Calls Try.prog 23 #[v,.int .i64 k] w (RetN w 1 paC (oC m')):=fun m' hc =>
  hc.mono fun e w' hr=>retN_C0 (fun N E2 b e0 e1 e2 e3 e4=>by
   simp only [paL,mcL,paC,cN,den_tup,List.map_cons,List.map_nil,den1,den_xv,e0,e1,e2,e3,e4,den_v,Nat.zero_add]) hr
 refine g _ ?_
 rcases hk with rfl | rfl | rfl | rfl | rfl
 ·exact part_own1 h hok hm
 ·exact part_own2 h hok hm
 ·exact part_own3 h hok hm
 ·exact part_own4 h hok hm
 ·exact part_own5 h hok hm
end
theorem copy_C {w:World} {v:Value} {m:MC} (h:Cont w v m) (hok:m.ok 0):Calls Try.prog 22 #[v] w (RetB w (fun _=>True) 1 (fun b=>.agg (cN b)) (fC m)):=(copy_Z h hok).mono fun e w' hr=>retB_C hr
theorem right_C {w:World} {v:Value} {m:MC} (h:Cont w v m) (hok:m.ok 0):Calls Try.prog 28 #[v] w (RetB w (fun _=>True) 1 (fun b=>.agg (cN b)) (fC (rightZ m))):=(right_Z h hok).mono fun e w' hr=>retB_C hr
theorem cr_rsame {C:Ctx} {S:St} {b c:Nat} {m:MC} (hP:C.P=Try.prog) (hb:look S.own b=some (.one (.pr (ContP b m)))) (hc:look S.arrs c=some (.fam 5 (mcF m))):∀ E a w,Sat C.B C.W C.w0 E S a w→Calls C.P 21 (([.agg (cN b),.agg (cN c)]:List SV).map (SV.den E)).toArray w (RetV w (.bool true)):=fun E a w hs=>by
 have:=rsame_Z (cont_own hs b hb) (cont_fam hs c hc)
 rw [decide_eq_true rfl] at this
 rw [hP]
 exact this
theorem cr_rsameA {C:Ctx} {S:St} {b c:Nat} {m:MC} (hP:C.P=Try.prog) (hb:look S.arrs b=some (.fam 5 (mcF m))) (hc:look S.arrs c=some (.fam 5 (mcF m))):∀ E a w,Sat C.B C.W C.w0 E S a w→Calls C.P 21 (([.agg (cN b),.agg (cN c)]:List SV).map (SV.den E)).toArray w (RetV w (.bool true)):=fun E a w hs=>by
 have:=rsame_Z (cont_fam hs b hb) (cont_fam hs c hc)
 rw [decide_eq_true rfl] at this
 rw [hP]
 exact this
theorem cr_spoilt {C:Ctx} {S:St} {b:Nat} {m:MC} {K:Int} (hP:C.P=Try.prog) (hok:fitM m) (hK:0≤K∧K≤10000) (hb:look S.own b=some (.one (.pr (ContP b (spM m K))))):∀ E a w,Sat C.B C.W C.w0 E S a w→Calls C.P 35 (([.agg (cN b),.c (.v (.int .i64 K))]:List SV).map (SV.den E)).toArray w (RetV w (.bool true)):=fun E a w hs=>by
 rw [hP]
 exact spoilt_Z hok hK (cont_own hs b hb)
end Go.Proofs.Ytgljbdcamagdbaa.Z
