/- ModelOwnSaid: what its proof is made of. No condition. -/
import Derived.Test.YtgljbdcamagdbaaPkModelOwnAK
set_option linter.unusedSimpArgs false
set_option linter.unusedVariables false
namespace Go.Proofs.Ytgljbdcamagdbaa.Z
open Go Go.RowKit
theorem le_refl {C:Ctx} (S:St):Le C S S:=fun E a w h=>⟨E,h⟩
theorem wr64 {n:Int} (h : -9223372036854775808≤n) (h' : n≤9223372036854775807):IntKind.i64.wrap n=n:=IntWalk.i64_in n ⟨h,h'⟩
theorem wr_lit {n:Nat} (h:n≤9223372036854775807):IntKind.i64.wrap (no_index (OfNat.ofNat n))=OfNat.ofNat n:=wr64 (by show (-9223372036854775808:Int)≤(n:Int);omega) (by show ((n:Nat):Int)≤9223372036854775807;omega)
theorem wrU {n:Int} (h:0≤n∧n≤18446744073709551615):IntKind.u64.wrap n=n:=by
 have:IntKind.u64.wrap n=n % 18446744073709551616:=by simp [IntKind.wrap,IntKind.bits,IntKind.signed]
 rw [this];omega
theorem wr_litu {n:Nat} (h:n≤18446744073709551615):IntKind.u64.wrap (no_index (OfNat.ofNat n))=OfNat.ofNat n:=wrU ⟨by show (0:Int)≤(n:Int);omega,by show ((n:Nat):Int)≤18446744073709551615;omega⟩
theorem wr_succ {n:Nat} (h:n<9223372036854775807):IntKind.i64.wrap ((n:Int)+1)=((n+1:Nat):Int):=by rw [wr64 (by omega) (by omega)];omega
theorem arrOf_len {α:Type} (enc:α→List Value) (s:Nat) (xs:List α) (d:α) (l:Nat):(arrOf enc s xs d l).len=xs.length:=rfl
theorem arrOf_size {α:Type} (enc:α→List Value) (s:Nat) (xs:List α) (d:α) (l:Nat):(arrOf enc s xs d l).size=s:=rfl
theorem arrOf_at {α:Type} (enc:α→List Value) (s:Nat) (xs:List α) (d:α) (l k:Nat):(arrOf enc s xs d l).at_ k=(enc (xs.getD k d)).map .v:=rfl
theorem loopI {C:Ctx} {c:IR} {k:List KI} {S:St} {ex:List KI→St→Prop} {ι:Type} (I:ι→St) (μ:ι→Nat) (i:ι) (h:Le C S (I i)) (h' : ∀ i,ex (.code c :: .back ι I μ i :: k) (I i)):LoopVC C c k S ex:=⟨ι,I,μ,i,h,h'⟩
theorem backI {C:Ctx} {ι:Type} {I:ι→St} {μ:ι→Nat} {i:ι} {S:St} (j:ι) (hj:μ j<μ i) (h:Le C S (I j)):BackVC C ι I μ i S:=⟨j,hj,h⟩
theorem inOk_arrs {P:Program} {A:List Nat} {w:World} {rs:List RS} {R:Ending→World→Prop} {E:Env} {arrs:List (Nat×Fm ArrF)} (h:∀ w' : World,(∀ n,n<w.heap.size→w'.heap[n]? = w.heap[n]?)→∀ x A,atN arrs x=some A→ArrAt E w' x A):InOk (mkC P A w rs R) E [] arrs [] w :=
 ⟨fun _=>emp,fun x b h=>by simp [atN,look] at h,fun x y b c h=>by simp [atN,look] at h,fun x b h=>by simp [atN,look] at h,fun w' hw'=>⟨h w' fun n hn=>hw' n hn fun x b hb=>rfl,fun φ h=>by cases h⟩⟩
theorem arr_keep {α:Type} {w w' : World} {enc:α→List Value} {s:Nat} {v:Value} {xs:List α} (h:Arr w enc s v xs) (hk:∀ n,n<w.heap.size→w'.heap[n]? = w.heap[n]?):Arr w' enc s v xs:=by
 refine h.keep fun a u hu=>?_
 have hb:a.block<w.heap.size:=by
  unfold World.cell? at hu
  cases he:w.heap[a.block]? with
  | none=>rw [he] at hu;simp at hu
  | some o=>exact (Array.getElem?_eq_some_iff.1 he).1
 unfold World.cell? at hu ⊢
 rw [hk _ hb]
 exact hu
def TmpsSub (tmps:List (Nat×SV)):List (Nat×SV)→Prop
 | []=>True
 | (t,v) :: r=>look tmps t=some v∧TmpsSub tmps r
theorem tmpsSub_at {tmps:List (Nat×SV)}:∀ {l:List (Nat×SV)},TmpsSub tmps l→∀ {t:Nat} {v:SV},look l t=some v→look tmps t=some v
 | [],_,t,v,h=>by cases h
 | (k,u) :: r,hl,t,v,h=>by
  rw [look_cons] at h
  split at h
  ·next e=>subst e;cases h;exact hl.1
  ·exact tmpsSub_at hl.2 h
theorem le_tmps {C:Ctx} {nt:Nat} {t t' : List (Nat×SV)} {own:Own} {arrs:List (Nat×Fm ArrF)} {facts:List (Env→World→Prop)} {nid:Nat} (h:TmpsSub t t'):Le C ⟨nt,t,own,arrs,facts,nid⟩ ⟨nt,t',own,arrs,facts,nid⟩:=by
 intro E a w hs
 refine ⟨E,hs.1,fun E' hE' ho'=>?_⟩
 have hs:=hs.2 E' hE' ho'
 exact sat_sub (S:=⟨nt,t,own,arrs,facts,nid⟩) (S':=⟨nt,t',own,arrs,facts,nid⟩) ⟨rfl,fun k v hk=>tmpsSub_at h hk,fun _ _ h=>h,fun _ _ h=>h,fun _ h=>h⟩ hs
theorem arr1 {α:Type} {w:World} {enc:α→List Value} {s:Nat} {xs:List α} {d:α} (T:EncT enc s) {i:Nat} {E:Env} {v:Value} (hv:E.χ (i,0,0)=v) (h:Arr w enc s v xs) {w' : World} (hk:∀ n,n<w.heap.size→w'.heap[n]? = w.heap[n]?):ArrAt E w' (i,0,0) (arrOf enc s xs d) :=
 arrAt_of T (by rw [hv];exact arr_keep h hk)
theorem atN_one {α:Type} {i:Nat} {F:α} {r:List (Nat×Fm α)} {x:Nm} {A:α} (h:atN ((i,.one F) :: r) x=some A):(x=(i,0,0)∧A=F)∨atN r x=some A:=by
 obtain ⟨a,b,c⟩:=x
 simp only [atN,look_cons] at h
 split at h
 ·next e =>
  split at e
  ·next e2 =>
   subst e2
   cases e
   simp only [Fm.get] at h
   split at h
   ·next e3=>left;obtain ⟨rfl,rfl⟩:=e3;cases h;exact ⟨rfl,rfl⟩
   ·cases h
  ·next e2 =>
   right
   simp only [atN,e]
   exact h
 ·cases h
theorem atN_nil {α:Type} {x:Nm} {A:α} (h:atN ([]:List (Nat×Fm α)) x=some A):False:=by simp [atN,look] at h
theorem arr_one {α:Type} {w:World} {enc:α→List Value} {s:Nat} {v:Value} {xs:List α} (h:Arr w enc s v xs):v.oneCell' = true:=by
 obtain ⟨ba,cap,rfl,_⟩:=h
 rfl
def E1 (v:Value):Env:=⟨fun _=>0,fun _=>0,fun _=>false,fun _=>v⟩
theorem E1_one {v:Value} (h:v.oneCell' = true):OneC (E1 v):=fun _=>h
def ats {α:Type} (enc:α→List Value) (xs:List α) (d:α) (e:Nat):List SC:=(enc (xs.getD e d)).map .v
def lsT (s n b:Nat):SV:=.c (.sl (b,0,0) s 0 n none)
def lsO {α:Type} (ty s:Nat) (enc:α→List Value) (xs:List α) (d:α) (b:Nat):Own:=[(b,.one (.ar xs.length s (ats enc xs d) ty))]
theorem renL_v (σ:Nm→Nm):∀ l:List Value,SC.renL σ (l.map .v)=l.map .v
 | []=>rfl
 | x :: l=>by simp only [List.map_cons,SC.renL,SC.ren,renL_v σ l]
theorem okL_v (p:Nat→Prop):∀ l:List Value,SC.okL p (l.map .v)
 | []=>trivial
 | x :: l=>⟨trivial,okL_v p l⟩
theorem retList {P:Program} {A:List Nat} {w:World} {rs:List RS} {α:Type} {ty s n:Nat} {enc:α→List Value} {xs:List α} {d:α} {S:St} (i k:Nat) (at_:Nat→List SC)
  (hi:look S.own i=some (.one (.ar k s at_ ty))) (hk:xs.length≤k) (ha:∀ e,e<xs.length→at_ e=ats enc xs d e):RetVC (mkC P A w rs (RetN w 1 (lsT s n) (lsO ty s enc xs d))) (.c (.sl (i,0,0) s 0 n none)) S:=by
 refine retN (fun _=>i) (fun b=>?_) (fun b=>?_) (fun b=>?_)
 ·simp [lsT,SV.ren,SC.ren,fromσ,SV.okN,SC.okN,NewIds]
 ·refine ⟨⟨⟨Nat.le_refl _,by omega⟩,?_⟩,trivial⟩
  simp only [fromσ,atN,hi,Fm.get,and_self,if_true]
  refine ⟨hk,rfl,rfl,fun e he=>?_⟩
  rw [ha e he]
  exact ⟨(renL_v _ _).symm,okL_v _ _⟩
 ·exact injN_from fun i hi j hj _=>by simp [lsO,keysL] at hi hj;omega
theorem dcallV {C:Ctx} {bs f:Nat} {vs:List SV} {dst:Option Nat} {U:List Nat} {Si S:St} {done:List Rec} {ex:List Rec→St→Prop} (tmpl:SV) (u:Value) (hv:∀ E,tmpl.den E=u) (hc:∀ E a w,Sat C.B C.W C.w0 E Si a w→Calls C.P f (vs.map (SV.den E)).toArray w (RetV w u))
  (h:ex (done++[⟨dst,tmpl,[],[],Si.nid,0,keysL Si.own,[],[]⟩]) (S.appN ⟨dst,tmpl,[],[],Si.nid,0,keysL Si.own,[],[]⟩)):DCallVC C bs f vs dst U Si done S ex :=
 dcall_intro (cr_retV tmpl u hv hc) rfl trivial trivial (fun k hk=>by cases hk) h
theorem callV {C:Ctx} {f:Nat} {vs:List SV} {dst:Option Nat} {S:St} {K:St→Prop} (tmpl:SV) (u:Value) (hv:∀ E,tmpl.den E=u) (hc:∀ E a w,Sat C.B C.W C.w0 E S a w→Calls C.P f (vs.map (SV.den E)).toArray w (RetV w u)) (h:K (S.call dst tmpl 0 [] [])):CallVC C f vs dst S K :=
 call_intro (cr_retV tmpl u hv hc) (fun i hi=>by cases hi) h
theorem callN {C:Ctx} {f:Nat} {vs:List SV} {dst:Option Nat} {S:St} {K:St→Prop} (nx:Nat) (T:Nat→SV) (O:Nat→Own) (hc:∀ E a w,Sat C.B C.W C.w0 E S a w→Calls C.P f (vs.map (SV.den E)).toArray w (RetN w nx T O)) (h:K (S.call dst (T S.nid) nx (O S.nid) [])):CallVC C f vs dst S K :=
 call_intro (cr_retN nx T O hc) (fun i hi=>by cases hi) h
end Go.Proofs.Ytgljbdcamagdbaa.Z
namespace Go.Proofs.Ytgljbdcamagdbaa.Z
open Go Go.RowKit
theorem holds_of {C:Ctx} {E:Env} {S:St} {a:Act} {w:World} (hs:Sat C.B C.W C.w0 E S a w):Holds E S w:=by
 obtain ⟨H,_,hF⟩:=hs.mem
 exact hF w fun _ _ _=>rfl
def RetA (w:World) (Pre:World→Prop) {α:Type} (enc:α→List Value) (s:Nat) (ys:List α) (e:Ending) (w' : World):Prop :=
 ∃ v,e = .returned v∧Below w.heap.size w w'∧∀ w'' : World,Pre w''→(∀ n,w.heap.size≤n→n<w'.heap.size→w''.heap[n]? = w'.heap[n]?)→Arr w'' enc s v ys
theorem arr_own {C:Ctx} {E:Env} {S:St} {a:Act} {w:World} (hs:Sat C.B C.W C.w0 E S a w) {α:Type} {ty s:Nat} {enc:α→List Value} {ys:List α} {d:α} (i k n:Nat) (at_:Nat→List SC) (hi:look S.own i=some (.one (.ar k s at_ ty))) (hn:n=ys.length) (hk:ys.length≤k)
  (ha:∀ e,e<ys.length→at_ e=ats enc ys d e):Arr w enc s ((SC.sl (i,0,0) s 0 n none).den E) ys:=by
 subst hn
 obtain ⟨H,hH,_⟩:=hs.mem
 have hat:atN S.own (i,0,0)=some (.ar k s at_ ty):=by simp [atN,hi,Fm.get]
 rcases ar_heap hH hat with ⟨h1,h2,h3,_⟩ | ⟨h1,h2,h3,cells,h4,h5,h6,h7⟩
 ·have h0:ys=[]:=List.eq_nil_of_length_eq_zero (by omega)
  subst h0
  exact ⟨if E.ν (i,0,0)=true then none else some ⟨E.ρ (i,0,0),0,none⟩,0,by simp [SC.den,h2],Nat.le_refl _,by simp [maxLen],Or.inl rfl⟩
 ·refine ⟨some ⟨E.ρ (i,0,0),0,none⟩,E.κ (i,0,0),by simp [SC.den,h1],by omega,h3,Or.inr ⟨_,_,rfl,fun e y hy j u hu=>?_⟩⟩
  rw [cell_of_row w _ _ _ ty (0,0) h5,Nat.zero_add]
  have he:e<ys.length:=(List.getElem?_eq_some_iff.1 hy).1
  have:=((h7 e (by omega)).2 j (.v u) (by
   rw [ha e he]
   have:ys.getD e d=y:=by rw [List.getD_eq_getElem?_getD,hy];rfl
   simp only [ats,this,List.getElem?_map,hu];rfl)).1
  rw [den_v] at this
  exact this
theorem crv_retV {C:Ctx} {f:Nat} {vs:List SV} {S:St} (tmpl:SV) (u:Value) (hv:∀ E,tmpl.den E=u) (h:∀ E a w,Sat C.B C.W C.w0 E S a w→Calls C.P f (vs.map (SV.den E)).toArray w (RetV w u)):CRv C f vs S tmpl:=by
 intro E a w hs
 refine (h E a w hs).mono ?_
 rintro e w' ⟨rfl,hb⟩
 exact ⟨u,rfl,E,hs.one,fun E2 _ _ _=>⟨(hv E2).symm,Fits.G ⟨fun H _=>effOk_below hb,fun _ _ x A h=>by simp [atN,look] at h⟩⟩⟩
def E2 (v0 v1:Value):Env:=⟨fun _=>0,fun _=>0,fun _=>false,fun x=>if x.1=1 then v1 else v0⟩
theorem enter0 {P:Program} {A:List Nat} {f nt:Nat} {fn:Func} {x:Code} {c:IR} {w:World} {rs:List RS} {R:Ending→World→Prop} (sc:List SV) (args:Array Value)
  (hf:P.funcs[f]? = some fn) (hb:fn.body=some x) (hc:compC (mkTab P A) x=some c.strip) (hr:compR (mkTab P A).T fn.results.toList=some rs) (hn:fn.ntmps=nt)
  (hargs:∀ E',(sc.map (SV.den E')).toArray=args) (hnt:sc.length≤nt)
  (hex:exec (mkC P A w rs R) 1000 [.code c] ⟨nt,enumT 0 sc,[],[],[],0⟩):Calls P f args w R :=
 calls_sym (c:=c) (C:=mkC P A w rs R) 1000 sc (E1 (.bool true)) [] [] [] 0 nt args (mkTab_ok _ _) hf hb hc hr hn rfl rfl (E1_one rfl) (fun E' _=>hargs E') hnt (fun E' _=>inOk_nil) hex
end Go.Proofs.Ytgljbdcamagdbaa.Z
namespace Go.Proofs.Ytgljbdcamagdbaa.Z
open Go Go.RowKit
theorem le_tr {C:Ctx} {S S' S'' : St} (h:Le C S S') (h' : Le C S' S''):Le C S S'':=fun E a w hs=>by
 obtain ⟨E',hs'⟩:=h E a w hs
 exact h' E' a w hs'
theorem arr_at {C:Ctx} {E:Env} {S:St} {a:Act} {w:World} {α:Type} {enc:α→List Value} {s:Nat} {xs:List α} {d:α} {l:Nat} (hs:Sat C.B C.W C.w0 E S a w) (i:Nat) (h:atN S.arrs (i,0,0)=some (arrOf enc s xs d l)):Arr w enc s (E.χ (i,0,0)) xs:=arr_of (d:=d) ((holds_of hs).1 (i,0,0) _ h)
theorem guardW {C:Ctx} {ex:List KI→St→Prop} {f:Nat} {vs:List SV} {r:List IO1} {k:List KI} {S S' : St} {d:Option Nat} {g:Nat} {want e:Bool} {Z Z' : Prop} (tmpl:SV) (u:Value) (hv:∀ E,tmpl.den E=u) (hc:∀ E a w,Sat C.B C.W C.w0 E S' a w→Calls C.P f (vs.map (SV.den E)).toArray w (RetV w u))
  (hk:ex (.ops r :: k) ⟨S.nt,S.putT d (.gd g want e tmpl),S.own,S.arrs,S.facts,S.nid⟩):CallG C ex f vs r k S S' d g want e Z∨Z' :=
 Or.inl (Or.inl ⟨tmpl,fun _=>crv_retV tmpl u hv hc,hk⟩)
theorem dcallN {C:Ctx} {bs f:Nat} {vs:List SV} {dst:Option Nat} {U:List Nat} {Si S:St} {done:List Rec} {ex:List Rec→St→Prop} (nx:Nat) (T:Nat→SV) (O:Nat→Own) (hc:∀ E a w,Sat C.B C.W C.w0 E Si a w→Calls C.P f (vs.map (SV.den E)).toArray w (RetN w nx T O))
  (hkeys:newOk Si.nid nx (keysL (O Si.nid)))
  (h:ex (done++[⟨dst,T Si.nid,O Si.nid,[],Si.nid,nx,keysL Si.own,[],[]⟩]) (S.appN ⟨dst,T Si.nid,O Si.nid,[],Si.nid,nx,keysL Si.own,[],[]⟩)):DCallVC C bs f vs dst U Si done S ex :=
 dcall_intro (cr_retN nx T O hc) rfl trivial (by
  have:∀ l:Own,newOk Si.nid nx (keysL l)→wrOk U done Si.nid nx l:=by
   intro l
   induction l with
   | nil=>intro _;trivial
   | cons a l ih =>
    obtain ⟨k,b⟩:=a
    intro h;exact ⟨Or.inl h.1,ih h.2⟩
  exact this _ hkeys) (fun k hk hlt=>absurd (newOk_mem hkeys k hk).1 (by omega)) h
theorem wrI {n:Int} (h : -9223372036854775808≤n∧n≤9223372036854775807):IntKind.i64.wrap n=n:=wr64 h.1 h.2
def Unr (C:Ctx) (c:IR) (k:List KI) (ex:List KI→St→Prop):Nat→St→Prop
 | 0,_=>False
 | n+1,S=>∀ (ι:Type) (I:ι→St) (μ:ι→Nat) (i:ι),(∀ S',Unr C c k ex n S'→BackVC C ι I μ i S')→ex (.code c :: .back ι I μ i :: k) S
theorem loop_unr {C:Ctx} {S:St} {c:IR} {k:List KI} {ex:List KI→St→Prop} (n:Nat) (h:Unr C c k ex n S):LoopVC C c k S ex:=by
 refine ⟨{ p:Nat×St // Unr C c k ex p.1 p.2 },fun p=>p.1.2,fun p=>p.1.1,⟨(n,S),h⟩,fun E a w hs=>⟨E,hs⟩,?_⟩
 rintro ⟨⟨m,S'⟩,h'⟩
 cases m with
 | zero=>exact h'.elim
 | succ m=>exact h' _ _ _ _ (fun S'' h''=>⟨⟨(m,S''),h''⟩,Nat.lt_succ_self m,fun E a w hs=>⟨E,hs⟩⟩)
def keepL' {α:Type} (l:List (Nat×α)):List Nat→List (Nat×α)
 | []=>[]
 | k :: ks=>match look l k with
  | some v=>(k,v) :: keepL' l ks
  | none=>keepL' l ks
theorem look_keep {α:Type} {l:List (Nat×α)}:∀ {ks:List Nat} {t:Nat} {v:α},look (keepL' l ks) t=some v→look l t=some v
 | [],t,v,h=>by cases h
 | k :: ks,t,v,h=>by
  simp only [keepL'] at h
  split at h
  ·next u hl =>
   rw [look_cons] at h
   split at h
   ·next e=>subst e;rw [hl];exact h
   ·exact look_keep h
  ·exact look_keep h
def St.keep (S:St) (kt ko ka:List Nat):St:=⟨S.nt,keepL' S.tmps kt,keepL' S.own ko,keepL' S.arrs ka,S.facts,S.nid⟩
theorem sub_keep (S:St) (kt ko ka:List Nat):Sub (S.keep kt ko ka) S:=⟨rfl,fun _ _ h=>look_keep h,fun _ _ h=>look_keep h,fun _ _ h=>look_keep h,fun _ h=>h⟩
theorem le_keep {C:Ctx} (S:St) (kt ko ka:List Nat):Le C S (S.keep kt ko ka):=fun E a w hs=>⟨E,hs.1,fun E' h1 h2=>sat_sub (sub_keep S kt ko ka) (hs.2 E' h1 h2)⟩
theorem loop_le {C:Ctx} {S S' : St} {c:IR} {k:List KI} {ex:List KI→St→Prop} (hle:Le C S S') (h:LoopVC C c k S' ex):LoopVC C c k S ex:=by
 obtain ⟨ι,I,μ,i,h1,h2⟩:=h
 exact ⟨ι,I,μ,i,le_tr hle h1,h2⟩
end Go.Proofs.Ytgljbdcamagdbaa.Z
namespace Go.Proofs.Ytgljbdcamagdbaa.Z
open Go Go.RowKit
theorem den_same {p:Nat→Prop} {E E2:Env} (h:∀ x:Nm,p x.1→Same E E2 x) {v:SV} (hv:v.okN p):v.den E2=v.den E:=by
 have h1:v.den E2=(v.ren id).den E:=sv_ren (σ:=id) (fun x hx=>h x hx) v hv
 have h2:v.den E=(v.ren id).den E:=sv_ren (σ:=id) (fun x _=>⟨rfl,rfl,rfl,rfl⟩) v hv
 rw [h1,h2]
def okVs (p:Nat→Prop):List SV→Prop
 | []=>True
 | v :: l=>v.okN p∧okVs p l
theorem dens_same {p:Nat→Prop} {E E2:Env} (h:∀ x:Nm,p x.1→Same E E2 x):∀ {l:List SV},okVs p l→l.map (SV.den E2)=l.map (SV.den E)
 | [],_=>rfl
 | v :: l,hl=>by rw [List.map_cons,List.map_cons,den_same h hl.1,dens_same h hl.2]
def AgF (n0:Nat) (E0:Env):Env→World→Prop:=fun E _=>AgreeD (· < n0) E0 E
structure TmpOk (E0:Env) (a:Act) (S:St):Prop where
 size:a.tmps.size=S.nt
 defers:a.defers=[]
 tmps:∀ E',AgreeD (· < S.nid) E0 E'→OneC E'→∀ t v,look S.tmps t=some v→t<S.nt∧a.tmps.getD t undef=v.den E'
def InlR (C:Ctx) (S:St) (dst:Option Nat) (K:St→Prop) (E0:Env) (a:Act) (e:Ending) (w' : World):Prop :=
 ∃ u,e = .returned u∧∃ E' S',SatA C.B C.W C.w0 E' S' (a.put dst u) w'∧K S'
def mkI (C:Ctx) (rs:List RS) (S:St) (dst:Option Nat) (K:St→Prop) (E0:Env) (a:Act):Ctx:=⟨C.P,C.tab,C.B,C.W,C.w0,rs,InlR C S dst K E0 a⟩
theorem mkI_rs (C:Ctx) (rs:List RS) (S:St) (dst:Option Nat) (K:St→Prop) (E0:Env) (a:Act):(mkI C rs S dst K E0 a).rs=rs:=rfl
theorem call_inline {C:Ctx} {f:Nat} {vs:List SV} {dst:Option Nat} {S:St} {K:St→Prop} {fn:Func} {x:Code} {c:IR} {rs:List RS} {nt:Nat} (n:Nat) (hT:C.tab.Ok C.P) (hf:C.P.funcs[f]? = some fn) (hb:fn.body=some x) (hc:compC C.tab x=some c.strip) (hr:compR C.tab.T fn.results.toList=some rs) (hn:fn.ntmps=nt)
  (hvs:okVs (· < S.nid) vs) (hnt:vs.length≤nt)
  (hex:∀ E0 a,TmpOk E0 a S→exec (mkI C rs S dst K E0 a) n [.code c] ⟨nt,enumT 0 vs,S.own,S.arrs,AgF S.nid E0 :: S.facts,S.nid⟩):CallVC C f vs dst S K:=by
 intro E a w hs
 subst hn
 have hok:TmpOk E a S:=⟨hs.sat.size,hs.sat.defers,fun E' h1 h2 t v ht=>(hs.2 E' h1 h2).tmps t v ht⟩
 refine calls_of_exec (C:=mkI C rs S dst K E a) (E:=E) n hT hf hb hc hr ⟨hs.1,fun E' h1 h2=>?_⟩ (hex E a hok)
 have hs':=hs.2 E' h1 h2
 have hvv:vs.map (SV.den E')=vs.map (SV.den E):=dens_same (p:=(· < S.nid)) (fun x hx=>h1 x hx) hvs
 refine ⟨by simp;omega,rfl,h2,fun t v ht=>?_,hs'.frame,?_⟩
 ·obtain ⟨j,rfl,hj⟩:=look_enumT vs 0 t v ht
  have hjl:j<vs.length:=(List.getElem?_eq_some_iff.1 hj).1
  refine ⟨by simp only;omega,?_⟩
  simp only [← hvv,Nat.zero_add,Array.getD_eq_getD_getElem?]
  rw [Array.getElem?_append_left (by simpa using hjl)]
  simp [hj]
 ·obtain ⟨H,hH,hF⟩:=hs'.mem
  refine ⟨H,hH,fun w' hw'=>⟨(hF w' hw').1,fun φ hφ=>?_⟩⟩
  cases hφ with
  | head=>exact h1
  | tail _ hφ=>exact (hF w' hw').2 φ hφ
theorem retI {C:Ctx} {rs:List RS} {S S2:St} {dst:Option Nat} {K:St→Prop} {E0:Env} {a:Act} {v:SV} (hok:TmpOk E0 a S) (fs:List (Env→World→Prop)) (hf:S2.facts=AgF S.nid E0 :: fs) (hle:S.nid≤S2.nid) (hv:v.okN (· < S2.nid))
  (hk:K ⟨S.nt,S.putT dst v,S2.own,S2.arrs,fs,S2.nid⟩):RetVC (mkI C rs S dst K E0 a) v S2:=by
 intro E a2 w hs
 refine ⟨_,rfl,E,⟨S.nt,S.putT dst v,S2.own,S2.arrs,fs,S2.nid⟩,⟨hs.1,fun E' h1 h2=>?_⟩,hk⟩
 have hs':=hs.2 E' h1 h2
 obtain ⟨H,hH,hF⟩:=hs'.mem
 have hag:AgreeD (· < S.nid) E0 E':=by
  have:=(hF w fun _ _ _=>rfl).2 (AgF S.nid E0) (by rw [hf];exact List.mem_cons_self)
  exact this
 have hvv:v.den E' = v.den E:=den_same (p:=(· < S2.nid)) (fun x hx=>h1 x hx) hv
 refine ⟨by rw [put_size'];exact hok.size,by rw [put_defers'];exact hok.defers,h2,fun t u ht=>?_,hs'.frame,H,hH,fun w' hw'=>⟨(hF w' hw').1,fun φ hφ=>(hF w' hw').2 φ (by rw [hf];exact List.mem_cons_of_mem _ hφ)⟩⟩
 rw [← hvv]
 cases dst with
 | none=>exact hok.tmps E' hag h2 t u ht
 | some d =>
  simp only [St.putT] at ht
  split at ht
  ·next hd =>
   rw [look_setL] at ht
   split at ht
   ·next e =>
    subst e
    simp only [Option.some.injEq] at ht
    subst ht
    exact ⟨hd,put_same' _ _ _ (by rw [hok.size];exact hd)⟩
   ·next e=>
    obtain ⟨g1,g2⟩:=hok.tmps E' hag h2 t u ht
    exact ⟨g1,by rw [put_other' _ _ _ _ e];exact g2⟩
  ·next hd =>
   obtain ⟨g1,g2⟩:=hok.tmps E' hag h2 t u ht
   exact ⟨g1,by rw [put_other' _ _ _ _ (fun e=>hd (by subst e;exact g1))];exact g2⟩
def FStab (σ:Nm→Nm) (n:Nat) (φ:Env→World→Prop):Prop:=∀ E E2 w,(∀ x:Nm,x.1<n→SameR σ E E2 x)→φ E w→φ E2 w
theorem agF_stab {σ:Nm→Nm} {n n0:Nat} {E0:Env} (hn:n0≤n) (hσ:∀ x:Nm,x.1<n0→σ x=x):FStab σ n (AgF n0 E0):=by
 intro E E2 w h hf x hx
 have h1:=h x (Nat.lt_of_lt_of_le hx hn)
 have h2:=hf x hx
 unfold SameR at h1
 rw [hσ x hx] at h1
 exact h2.trans h1
def FactLe (σ:Nm→Nm) (n:Nat) (fs:List (Env→World→Prop)) (φ:Env→World→Prop):Prop:=∃ φ0∈fs,∀ E E2 w,(∀ x:Nm,x.1<n→SameR σ E E2 x)→φ0 E w→φ E2 w
def FactsLe (σ:Nm→Nm) (n:Nat) (fs:List (Env→World→Prop)):List (Env→World→Prop)→Prop
 | []=>True
 | φ :: l=>FactLe σ n fs φ∧FactsLe σ n fs l
theorem factsLe_mem {σ:Nm→Nm} {n:Nat} {fs:List (Env→World→Prop)}:∀ {l:List (Env→World→Prop)},FactsLe σ n fs l→∀ φ∈l,FactLe σ n fs φ
 | [],_,φ,h=>by cases h
 | ψ :: l,hl,φ,h=>by
  cases h with
  | head=>exact hl.1
  | tail _ h=>exact factsLe_mem hl.2 φ h
theorem fact_stab {σ:Nm→Nm} {n:Nat} {fs:List (Env→World→Prop)} {φ:Env→World→Prop} (h:φ∈fs) (hs:FStab σ n φ):FactLe σ n fs φ:=⟨φ,h,hs⟩
structure RenF (σ:Nm→Nm) (S S' : St):Prop where
 nt:S'.nt=S.nt
 facts:FactsLe σ S'.nid S.facts S'.facts
 tmps:TmpsLe (· < S'.nid) σ S.tmps S'.tmps
 own:OwnLe (· < S'.nid) σ S.own S'.own
 arrs:ArrsLe (· < S'.nid) σ S.arrs S'.arrs
 inj:InjN σ S'.own
theorem le_nmF {C:Ctx} {S S' : St} (σ:Nm→Nm) (h:RenF σ S S'):Le C S S':=by
 intro E a w hs
 refine ⟨E.via σ,fun x=>hs.1 _,fun E2 hE2 ho2=>?_⟩
 have hs:=hs.sat
 have hR:∀ x:Nm,x.1<S'.nid→SameR σ E E2 x:=fun x hx=>hE2 x hx
 obtain ⟨H,hH,hF⟩:=hs.mem
 have hat:∀ x b',atN S'.own x=some b'→x.1<S'.nid∧∃ b,atN S.own (σ x)=some b∧BlkLe (· < S'.nid) σ b b':=fun x b' hx=>ownLe_at h.own hx
 refine ⟨hs.size.trans h.nt.symm,hs.defers,ho2,?_,hs.frame,fun x=>H (σ x),⟨?_,?_,?_⟩,?_⟩
 ·intro t v ht
  obtain ⟨h1,h2⟩:=tmpsLe_at h.tmps ht
  obtain ⟨g1,g2⟩:=hs.tmps t _ h1
  exact ⟨by rw [h.nt];exact g1,by rw [g2,sv_ren hR v h2]⟩
 ·intro x b' hx
  obtain ⟨h1,b,h2,h3⟩:=hat x b' hx
  exact blk_le hR h1 h3 (hH.den _ _ h2)
 ·intro x y b' c' hx hy hne n
  obtain ⟨_,b,h2,_⟩:=hat x b' hx
  obtain ⟨_,c,g2,_⟩:=hat y c' hy
  exact hH.disj _ _ b c h2 g2 (fun e=>hne (h.inj x y b' c' hx hy e)) n
 ·intro x b' hx n o hn
  obtain ⟨_,b,h2,_⟩:=hat x b' hx
  exact hH.sub _ b h2 n o hn
 ·intro w' hw'
  have hold:=hF w' (fun n hn hfr=>hw' n hn (fun x b' hx=>let ⟨_,b,h2,_⟩:=hat x b' hx;hfr _ b h2))
  refine ⟨fun x A' hA=>?_,fun φ hφ=>let ⟨φ0,h0,h1⟩:=factsLe_mem h.facts φ hφ;h1 E E2 w' hR (hold.2 φ0 h0)⟩
  obtain ⟨h1,A,h2,h3,h4,h5,h6⟩:=arrsLe_at h.arrs hA
  obtain ⟨ba,cap,g1,g2,g3,g4⟩:=hold.1 _ A h2
  refine ⟨ba,cap,by rw [(hR x h1).2.2.2,g1,h3],by omega,g3,?_⟩
  rcases g4 with g4 | ⟨b,off,rfl,gl,g4⟩
  ·exact Or.inl (by omega)
  ·refine Or.inr ⟨b,off,rfl,Nat.le_trans h6 gl,fun k hk=>?_⟩
   obtain ⟨f1,f2⟩:=g4 k (by omega)
   obtain ⟨e1,e2⟩:=h5 k hk
   rw [e1] at f1 f2
   refine ⟨by rw [renL_eq,List.length_map] at f1;omega,fun j u hu=>?_⟩
   have:=f2 j _ (mem_renL hu)
   rw [den_ren hR u (okL_mem e2 hu),← h4]
   exact this
theorem le_renF {C:Ctx} {S S' : St} (τ:Nat→Nat) (h1:S'.nt=S.nt) (h2:FactsLe (idσ τ) S'.nid S.facts S'.facts) (h3:TmpsLe (· < S'.nid) (idσ τ) S.tmps S'.tmps) (h4:OwnLe (· < S'.nid) (idσ τ) S.own S'.own) (h5:ArrsLe (· < S'.nid) (idσ τ) S.arrs S'.arrs) (h6:injL τ (keysL S'.own)=true):Le C S S' :=
 le_nmF (idσ τ) ⟨h1,h2,h3,h4,h5,injN_id h6⟩
theorem factA {τ:Nat→Nat} {n n0:Nat} {E0:Env} {fs:List (Env→World→Prop)} (h:AgF n0 E0∈fs) (hn:n0≤n) (hτ:∀ i,i<n0→τ i=i):FactLe (idσ τ) n fs (AgF n0 E0) :=
 fact_stab h (agF_stab hn fun x hx=>by unfold idσ;rw [hτ _ hx])
def RetB (w:World) (Pre:World→Prop) (nx:Nat) (T:Nat→SV) (A:Nat→List (Nat×Fm ArrF)) (e:Ending) (w' : World):Prop :=
 ∃ v,e = .returned v∧Below w.heap.size w w'∧∀ b,∃ N:Env,OneC N∧∀ E2,AgreeD (NewIds b nx) N E2→v=(T b).den E2 ∧
  ∀ w'' : World,Pre w''→(∀ n,w.heap.size≤n→n<w'.heap.size→w''.heap[n]? = w'.heap[n]?)→∀ x A',atN (A b) x=some A'→ArrAt E2 w'' x A'
theorem cr_retB {C:Ctx} {S:St} {f:Nat} {vs:List SV} (nx:Nat) (T:Nat→SV) (A:Nat→List (Nat×Fm ArrF)) (ks:List Nat) (Pre:Env→World→Prop)
  (hp:∀ E E2 w'',AgreeD (·∈ks) E E2→Holds E2 S w''→Pre E w'')
  (hc:∀ E a w,Sat C.B C.W C.w0 E S a w→Calls C.P f (vs.map (SV.den E)).toArray w (RetB w (Pre E) nx T A)):CR C f vs S ks (T S.nid) nx [] (A S.nid):=by
 intro E a w hs
 refine (hc E a w hs).mono ?_
 rintro e w' ⟨v,rfl,hb,hN⟩
 obtain ⟨N,hN1,hN2⟩:=hN S.nid
 refine ⟨v,rfl,N,hN1,fun E2 hs2 hk hag=>?_⟩
 obtain ⟨h1,h2⟩:=hN2 E2 hag
 refine ⟨h1,fun n=>w.heap.size≤n∧n<w'.heap.size,fun n h=>h,fun H hH=>⟨hb.os,hb.tape,hb.output,hb.size,fun n hn _=>hb.block n hn,fun _=>emp,fun x b h=>(atN_nil h).elim,fun x y b c h=>(atN_nil h).elim,fun x b h=>(atN_nil h).elim⟩,fun w'' hw'' hG x A' hA'=>?_⟩
 exact h2 w'' (hp E E2 w'' hk hw'') (fun n h1 h2=>hG n ⟨h1,h2⟩) x A' hA'
theorem callB {C:Ctx} {S:St} {f:Nat} {vs:List SV} {dst:Option Nat} {K:St→Prop} (nx:Nat) (T:Nat→SV) (A:Nat→List (Nat×Fm ArrF))
  (hc:∀ E a w,Sat C.B C.W C.w0 E S a w→Calls C.P f (vs.map (SV.den E)).toArray w (RetB w (fun _=>True) nx T A)) (h:K (S.call dst (T S.nid) nx [] (A S.nid))):CallVC C f vs dst S K :=
 call_intro (cr_retB nx T A [] (fun _ _=>True) (fun _ _ _ _ _=>trivial) hc) (fun i hi=>by cases hi) h
def ArrF.lo (l:Nat) (A:ArrF):ArrF:=⟨A.len,A.size,A.at_,l⟩
def loFm (l:Nat):Fm ArrF→Fm ArrF
 | .one A=>.one (A.lo l)
 | .fam n f=>.fam n fun k=>(f k).lo l
 | .fam2 n m f=>.fam2 n m fun k j=>(f k j).lo l
def lowL (l:Nat):List (Nat×Fm ArrF)→List (Nat×Fm ArrF)
 | []=>[]
 | (i,F) :: r=>(i,loFm l F) :: lowL l r
theorem mkC_B (P:Program) (A:List Nat) (w:World) (rs:List RS) (R:Ending→World→Prop):(mkC P A w rs R).B=w.heap.size:=rfl
theorem atN_lowL {l:Nat}:∀ {L:List (Nat×Fm ArrF)} {x:Nm} {A' : ArrF},atN (lowL l L) x=some A'→∃ A,atN L x=some A∧A' = A.lo l
 | [],x,A',h=>by simp [lowL,atN,look] at h
 | (i,F) :: r,(j,k,m),A',h=>by
  simp only [lowL,atN,look_cons] at h ⊢
  by_cases e:i=j
  ·subst e
   rw [if_pos rfl] at h
   rw [if_pos rfl]
   cases F with
   | one A =>
    simp only [loFm,Fm.get] at h ⊢
    split at h
    ·next e=>rw [if_pos e];cases h;exact ⟨_,rfl,rfl⟩
    ·cases h
   | fam n f =>
    simp only [loFm,Fm.get] at h ⊢
    split at h
    ·next e=>rw [if_pos e];cases h;exact ⟨_,rfl,rfl⟩
    ·cases h
   | fam2 n g f =>
    simp only [loFm,Fm.get] at h ⊢
    split at h
    ·next e=>rw [if_pos e];cases h;exact ⟨_,rfl,rfl⟩
    ·cases h
  ·rw [if_neg e] at h
   rw [if_neg e]
   exact atN_lowL (L:=r) (x:=(j,k,m)) h
theorem arrAt_low {E:Env} {w w' : World} {x:Nm} {A:ArrF} {B l:Nat} (hl:l≤B) (hs:0<A.size) (h:∀ w'' : World,(∀ n,B≤n→n<w'.heap.size→w''.heap[n]? = w'.heap[n]?)→ArrAt E w'' x A) :
  ∀ w'' : World,(∀ n,B≤n→n<w'.heap.size→w''.heap[n]? = w'.heap[n]?)→ArrAt E w'' x (A.lo l):=fun w'' hw''=>by
 obtain ⟨ba,cap,h1,h2,h3,h4⟩:=h w'' hw''
 refine ⟨ba,cap,h1,h2,h3,?_⟩
 rcases h4 with h4 | ⟨b,off,rfl,_,h4⟩
 ·exact Or.inl h4
 by_cases h0:A.len=0
 ·exact Or.inl h0
 refine Or.inr ⟨b,off,rfl,Nat.le_trans hl (Nat.le_of_not_lt fun hb=>?_),h4⟩
 have hw3:∀ n,(w'.heap.mapIdx fun i o=>if i<B then Obj.map #[] 0 else o)[n]? = (w'.heap[n]?).map fun o=>if n<B then Obj.map #[] 0 else o:=fun n=>by
  rw [Array.getElem?_mapIdx]
 obtain ⟨ba',cap',g1,g2,g3,g4⟩:=h { w' with heap:=w'.heap.mapIdx fun i o=>if i<B then Obj.map #[] 0 else o } fun n hn hlt=>by
  show (w'.heap.mapIdx fun i o=>if i<B then Obj.map #[] 0 else o)[n]? = _
  rw [hw3]
  simp [Nat.not_lt_of_le hn]
 rw [h1] at g1
 simp only [Value.slice.injEq] at g1
 obtain ⟨rfl,_,rfl⟩:=g1
 rcases g4 with g4 | ⟨b',off',e,_,g4⟩
 ·exact h0 g4
 simp only [Option.some.injEq,Addr.mk.injEq] at e
 obtain ⟨rfl,rfl,_⟩:=e
 obtain ⟨f1,f2⟩:=g4 0 (by omega)
 have hu:(A.at_ 0)[0]? = some ((A.at_ 0)[0]'(by omega)):=List.getElem?_eq_getElem (by omega)
 have h5:=(f2 0 _ hu).1
 unfold World.cell? at h5
 simp only [hw3,if_pos hb] at h5
 cases hh:w'.heap[b]? with
 | none=>rw [hh] at h5;simp at h5
 | some o=>rw [hh] at h5;simp at h5
theorem RetB.low {w w' : World} {nx:Nat} {T:Nat→SV} {A:Nat→List (Nat×Fm ArrF)} {e:Ending} {l:Nat} (hl:l≤w.heap.size) (hs:∀ b x A',atN (A b) x=some A'→0<A'.size) (h:RetB w (fun _=>True) nx T A e w'):RetB w (fun _=>True) nx T (fun b=>lowL l (A b)) e w':=by
 obtain ⟨v,rfl,hb,h⟩:=h
 refine ⟨v,rfl,hb,fun b=>?_⟩
 obtain ⟨N,h1,h2⟩:=h b
 refine ⟨N,h1,fun E2 hE=>?_⟩
 obtain ⟨h3,h4⟩:=h2 E2 hE
 refine ⟨h3,fun w'' _ hw'' x A' hx=>?_⟩
 obtain ⟨A0,h5,rfl⟩:=atN_lowL hx
 exact arrAt_low (w:=w') hl (hs b x A0 h5) (fun w3 hw3=>h4 w3 trivial hw3 x A0 h5) w'' hw''
theorem callL {C:Ctx} {S:St} {f:Nat} {vs:List SV} {dst:Option Nat} {K:St→Prop} (nx:Nat) (T:Nat→SV) (A:Nat→List (Nat×Fm ArrF)) (hsz:∀ b x A',atN (A b) x=some A'→0<A'.size)
  (hc:∀ E a w,Sat C.B C.W C.w0 E S a w→Calls C.P f (vs.map (SV.den E)).toArray w (RetB w (fun _=>True) nx T A)) (h:K (S.call dst (T S.nid) nx [] (lowL C.B (A S.nid)))):CallVC C f vs dst S K :=
 callB nx T (fun b=>lowL C.B (A b)) (fun E a w hs=>(hc E a w hs).mono fun e w' h=>h.low hs.frame.size hsz) h
end Go.Proofs.Ytgljbdcamagdbaa.Z
namespace Go.Proofs.Ytgljbdcamagdbaa
open Go.RowKit
def partM (m:MC) (n:Int):MC :=
 if n=1 then ⟨m.cell,[],[],[],[]⟩ else if n=2 then ⟨[],m.stack,[],[],[]⟩ else if n=3 then ⟨[],[],m.queue,[],[]⟩ else if n=4 then ⟨[],[],[],m.set,[]⟩ else ⟨[],[],[],[],m.table⟩
end Go.Proofs.Ytgljbdcamagdbaa
