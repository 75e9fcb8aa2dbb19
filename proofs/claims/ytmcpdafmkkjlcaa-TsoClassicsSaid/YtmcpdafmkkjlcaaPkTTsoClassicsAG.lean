/- TsoClassicsSaid: what its proof is made of. No condition. -/
import Derived.Test.YtmcpdafmkkjlcaaPkTTsoClassicsAF
set_option linter.unusedSimpArgs false
set_option linter.unusedVariables false
namespace Go.Proofs.Ytmcpdafmkkjlcaa.Z
open Go Go.RowKit
theorem bt_ite {p:Prop} [Decidable p] {a b:Bool}:((if p then a else b)=true)=((p∧a=true)∨(¬ p∧b=true)):=by by_cases h:p <;> simp [h]
theorem bf_ite {p:Prop} [Decidable p] {a b:Bool}:((if p then a else b)=false)=((p∧a=false)∨(¬ p∧b=false)):=by by_cases h:p <;> simp [h]
theorem bt_dec {p:Prop} [Decidable p]:(decide p=true)=p:=by simp
theorem bf_dec {p:Prop} [Decidable p]:(decide p=false) = ¬ p:=by simp
theorem bt_int {a b:Int}:((a == b)=true)=(a=b):=by simp
theorem bf_int {a b:Int}:((a == b)=false)=(¬ a=b):=by simp
theorem bt_nint {a b:Int}:((a != b)=true)=(¬ a=b):=by simp
theorem bf_nint {a b:Int}:((a != b)=false)=(a=b):=by simp
theorem bt_bool {a b:Bool}:((a == b)=true)=(a=true↔b=true):=by cases a <;> cases b <;> simp
theorem bf_bool {a b:Bool}:((a == b)=false)=(¬ (a=true↔b=true)):=by cases a <;> cases b <;> simp
theorem bt_nbool {a b:Bool}:((a != b)=true)=(¬ (a=true↔b=true)):=by cases a <;> cases b <;> simp
theorem bf_nbool {a b:Bool}:((a != b)=false)=(a=true↔b=true):=by cases a <;> cases b <;> simp
theorem bt_not {a:Bool}:((!a)=true)=(¬ a=true):=by cases a <;> simp
theorem bf_not {a:Bool}:((!a)=false)=(a=true):=by cases a <;> simp
theorem bt_and {a b:Bool}:((a && b)=true)=(a=true∧b=true):=by simp
theorem bf_and {a b:Bool}:((a && b)=false)=(¬ (a=true∧b=true)):=by cases a <;> cases b <;> simp
theorem bt_or {a b:Bool}:((a || b)=true)=(a=true∨b=true):=by simp
theorem bf_or {a b:Bool}:((a || b)=false)=(¬ (a=true∨b=true)):=by cases a <;> cases b <;> simp
theorem b_decR {a:Bool} {p:Prop} [Decidable p]:(a=decide p)=(a=true↔p):=by cases a <;> simp
theorem b_decL {a:Bool} {p:Prop} [Decidable p]:(decide p=a)=(p↔a=true):=by cases a <;> simp
theorem le_refl {C:Ctx} (S:St):Le C S S:=fun E a w h=>⟨E,h⟩
theorem wr64 {n:Int} (h : -9223372036854775808≤n) (h' : n≤9223372036854775807):IntKind.i64.wrap n=n:=IntWalk.i64_in n ⟨h,h'⟩
theorem wr_lit {n:Nat} (h:n≤9223372036854775807):IntKind.i64.wrap (no_index (OfNat.ofNat n))=OfNat.ofNat n:=wr64 (by show (-9223372036854775808:Int)≤(n:Int);omega) (by show ((n:Nat):Int)≤9223372036854775807;omega)
theorem wrU {n:Int} (h:0≤n∧n≤18446744073709551615):IntKind.u64.wrap n=n:=by
 have:IntKind.u64.wrap n=n % 18446744073709551616:=by simp [IntKind.wrap,IntKind.bits,IntKind.signed]
 rw [this];omega
theorem wr_litu {n:Nat} (h:n≤18446744073709551615):IntKind.u64.wrap (no_index (OfNat.ofNat n))=OfNat.ofNat n:=wrU ⟨by show (0:Int)≤(n:Int);omega,by show ((n:Nat):Int)≤18446744073709551615;omega⟩
theorem wr_succ {n:Nat} (h:n<9223372036854775807):IntKind.i64.wrap ((n:Int)+1)=((n+1:Nat):Int):=by rw [wr64 (by omega) (by omega)];omega
theorem arrOf_len {α:Type} (enc:α→List Value) (s:Nat) (xs:List α) (d:α) (l:Nat):(arrOf enc s xs d l).len=xs.length:=rfl
theorem arrOf_size {α:Type} (enc:α→List Value) (s:Nat) (xs:List α) (d:α) (l:Nat):(arrOf enc s xs d l).size=s:=rfl
theorem arrOf_at {α:Type} (enc:α→List Value) (s:Nat) (xs:List α) (d:α) (l k:Nat):(arrOf enc s xs d l).at_ k=(enc (xs.getD k d)).map .v:=rfl
theorem loopI {C:Ctx} {c:IR} {k:List KI} {S:St} {ex:List KI→St→Prop} {ι:Type} (I:ι→St) (μ:ι→Nat) (i:ι) (h:Le C S (I i)) (h' : ∀ i,ex (.code c :: .back ι I μ i :: k) (I i)):LoopVC C c k S ex:=⟨ι,I,μ,i,h,h'⟩
theorem backI {C:Ctx} {ι:Type} {I:ι→St} {μ:ι→Nat} {i:ι} {S:St} (j:ι) (hj:μ j<μ i) (h:Le C S (I j)):BackVC C ι I μ i S:=⟨j,hj,h⟩
theorem inOk_arrs {P:Program} {A:List Nat} {w:World} {rs:List RS} {R:Ending→World→Prop} {E:Env} {arrs:List (Nat×Fm ArrF)} (h:∀ w' : World,(∀ n,n<w.heap.size→w'.heap[n]? = w.heap[n]?)→∀ x A,atN arrs x=some A→ArrAt E w' x A):InOk (mkC P A w rs R) E [] arrs [] w :=
 ⟨fun _=>emp,fun x b h=>by simp [atN,look] at h,fun x y b c h=>by simp [atN,look] at h,fun x b h=>by simp [atN,look] at h,fun w' hw'=>⟨h w' fun n hn=>hw' n hn fun x b hb=>rfl,fun φ h=>by cases h⟩⟩
theorem arr_keep {α:Type} {w w' : World} {enc:α→List Value} {s:Nat} {v:Value} {xs:List α} (h:Arr w enc s v xs) (hk:∀ n,n<w.heap.size→w'.heap[n]? = w.heap[n]?):Arr w' enc s v xs:=by
 refine h.keep fun a u hu=>?_
 have hb:a.block<w.heap.size:=by
  unfold World.cell? at hu
  cases he:w.heap[a.block]? with
  | none=>rw [he] at hu;simp at hu
  | some o=>exact (Array.getElem?_eq_some_iff.1 he).1
 unfold World.cell? at hu ⊢
 rw [hk _ hb]
 exact hu
theorem arr1 {α:Type} {w:World} {enc:α→List Value} {s:Nat} {xs:List α} {d:α} (T:EncT enc s) {i:Nat} {E:Env} {v:Value} (hv:E.χ (i,0,0)=v) (h:Arr w enc s v xs) {w' : World} (hk:∀ n,n<w.heap.size→w'.heap[n]? = w.heap[n]?):ArrAt E w' (i,0,0) (arrOf enc s xs d) :=
 arrAt_of T (by rw [hv];exact arr_keep h hk)
theorem atN_one {α:Type} {i:Nat} {F:α} {r:List (Nat×Fm α)} {x:Nm} {A:α} (h:atN ((i,.one F) :: r) x=some A):(x=(i,0,0)∧A=F)∨atN r x=some A:=by
 obtain ⟨a,b,c⟩:=x
 simp only [atN,look_cons] at h
 split at h
 ·next e =>
  split at e
  ·next e2 =>
   subst e2
   cases e
   simp only [Fm.get] at h
   split at h
   ·next e3=>left;obtain ⟨rfl,rfl⟩:=e3;cases h;exact ⟨rfl,rfl⟩
   ·cases h
  ·next e2 =>
   right
   simp only [atN,e]
   exact h
 ·cases h
theorem atN_nil {α:Type} {x:Nm} {A:α} (h:atN ([]:List (Nat×Fm α)) x=some A):False:=by simp [atN,look] at h
theorem arr_one {α:Type} {w:World} {enc:α→List Value} {s:Nat} {v:Value} {xs:List α} (h:Arr w enc s v xs):v.oneCell' = true:=by
 obtain ⟨ba,cap,rfl,_⟩:=h
 rfl
def E1 (v:Value):Env:=⟨fun _=>0,fun _=>0,fun _=>false,fun _=>v⟩
theorem E1_one {v:Value} (h:v.oneCell' = true):OneC (E1 v):=fun _=>h
def ats {α:Type} (enc:α→List Value) (xs:List α) (d:α) (e:Nat):List SC:=(enc (xs.getD e d)).map .v
theorem arrOf_ats {α:Type} (enc:α→List Value) (s:Nat) (xs:List α) (d:α) (l:Nat):(arrOf enc s xs d l).at_=ats enc xs d:=rfl
def lsT (s n b:Nat):SV:=.c (.sl (b,0,0) s 0 n none)
def lsO {α:Type} (ty s:Nat) (enc:α→List Value) (xs:List α) (d:α) (b:Nat):Own:=[(b,.one (.ar xs.length s (ats enc xs d) ty))]
theorem renL_v (σ:Nm→Nm):∀ l:List Value,SC.renL σ (l.map .v)=l.map .v
 | []=>rfl
 | x :: l=>by simp only [List.map_cons,SC.renL,SC.ren,renL_v σ l]
theorem okL_v (p:Nat→Prop):∀ l:List Value,SC.okL p (l.map .v)
 | []=>trivial
 | x :: l=>⟨trivial,okL_v p l⟩
theorem arrLe_of {α:Type} {p:Nat→Prop} {σ:Nm→Nm} {enc:α→List Value} {s:Nat} {xs:List α} {d:α} {l:Nat}:ArrLe p σ (arrOf enc s xs d l) (arrOf enc s xs d l) :=
 ⟨rfl,rfl,fun e _=>⟨(renL_v _ _).symm,okL_v _ _⟩,Nat.le_refl _⟩
theorem arrLe_lo {α:Type} {p:Nat→Prop} {σ:Nm→Nm} {enc:α→List Value} {s:Nat} {xs:List α} {d:α} {l l' : Nat} (h:l'≤l):ArrLe p σ (arrOf enc s xs d l) (arrOf enc s xs d l') :=
 ⟨rfl,rfl,fun e _=>⟨(renL_v _ _).symm,okL_v _ _⟩,h⟩
theorem arrLe_0 {α:Type} {p:Nat→Prop} {σ:Nm→Nm} {enc:α→List Value} {s:Nat} {xs:List α} {d:α} {l:Nat}:ArrLe p σ (arrOf enc s xs d l) (arrOf enc s xs d):=arrLe_lo (Nat.zero_le _)
theorem arLe_of {α:Type} {p:Nat→Prop} {σ:Nm→Nm} {enc:α→List Value} {m n s ty:Nat} {xs:List α} {d:α} {at_:Nat→List SC} (hn:n≤m) (h:∀ e,e<n→at_ e=ats enc xs d e):BlkLe p σ (.ar m s at_ ty) (.ar n s (ats enc xs d) ty) :=
 ⟨hn,rfl,rfl,fun e he=>by rw [h e he];exact ⟨(renL_v _ _).symm,okL_v _ _⟩⟩
theorem retList {P:Program} {A:List Nat} {w:World} {rs:List RS} {α:Type} {ty s n:Nat} {enc:α→List Value} {xs:List α} {d:α} {S:St} (i k:Nat) (at_:Nat→List SC)
  (hi:look S.own i=some (.one (.ar k s at_ ty))) (hk:xs.length≤k) (ha:∀ e,e<xs.length→at_ e=ats enc xs d e):RetVC (mkC P A w rs (RetN w 1 (lsT s n) (lsO ty s enc xs d))) (.c (.sl (i,0,0) s 0 n none)) S:=by
 refine retN (fun _=>i) (fun b=>?_) (fun b=>?_) (fun b=>?_)
 ·simp [lsT,SV.ren,SC.ren,fromσ,SV.okN,SC.okN,NewIds]
 ·refine ⟨⟨⟨Nat.le_refl _,by omega⟩,?_⟩,trivial⟩
  simp only [fromσ,atN,hi,Fm.get,and_self,if_true]
  refine ⟨hk,rfl,rfl,fun e he=>?_⟩
  rw [ha e he]
  exact ⟨(renL_v _ _).symm,okL_v _ _⟩
 ·exact injN_from fun i hi j hj _=>by simp [lsO,keysL] at hi hj;omega
theorem dcallV {C:Ctx} {bs f:Nat} {vs:List SV} {dst:Option Nat} {U:List Nat} {Si S:St} {done:List Rec} {ex:List Rec→St→Prop} (tmpl:SV) (u:Value) (hv:∀ E,tmpl.den E=u) (hc:∀ E a w,Sat C.B C.W C.w0 E Si a w→Calls C.P f (vs.map (SV.den E)).toArray w (RetV w u))
  (h:ex (done++[⟨dst,tmpl,[],[],Si.nid,0,keysL Si.own,[],[]⟩]) (S.appN ⟨dst,tmpl,[],[],Si.nid,0,keysL Si.own,[],[]⟩)):DCallVC C bs f vs dst U Si done S ex :=
 dcall_intro (cr_retV tmpl u hv hc) rfl trivial trivial (fun k hk=>by cases hk) h
theorem callV {C:Ctx} {f:Nat} {vs:List SV} {dst:Option Nat} {S:St} {K:St→Prop} (tmpl:SV) (u:Value) (hv:∀ E,tmpl.den E=u) (hc:∀ E a w,Sat C.B C.W C.w0 E S a w→Calls C.P f (vs.map (SV.den E)).toArray w (RetV w u)) (h:K (S.call dst tmpl 0 [] [])):CallVC C f vs dst S K :=
 call_intro (cr_retV tmpl u hv hc) (fun i hi=>by cases hi) h
theorem callN {C:Ctx} {f:Nat} {vs:List SV} {dst:Option Nat} {S:St} {K:St→Prop} (nx:Nat) (T:Nat→SV) (O:Nat→Own) (hc:∀ E a w,Sat C.B C.W C.w0 E S a w→Calls C.P f (vs.map (SV.den E)).toArray w (RetN w nx T O)) (h:K (S.call dst (T S.nid) nx (O S.nid) [])):CallVC C f vs dst S K :=
 call_intro (cr_retN nx T O hc) (fun i hi=>by cases hi) h
end Go.Proofs.Ytmcpdafmkkjlcaa.Z
namespace Go.Proofs.Ytmcpdafmkkjlcaa.Z
open Go Go.RowKit
def TmpsNil (s z:Nat) (tmps:List (Nat×SV)):List (Nat×SV)→Prop
 | []=>True
 | (t,v) :: r=>(look tmps t=some v∨(look tmps t=some (.c (.v (.slice none 0 0)))∧v = .c (.sl (z,0,0) s 0 0 none)))∧TmpsNil s z tmps r
theorem tmpsNil_at {s z:Nat} {tmps:List (Nat×SV)}:∀ {l:List (Nat×SV)},TmpsNil s z tmps l→∀ {t:Nat} {v:SV},look l t=some v→(look tmps t=some v∨(look tmps t=some (.c (.v (.slice none 0 0)))∧v = .c (.sl (z,0,0) s 0 0 none)))
 | [],_,t,v,h=>by cases h
 | (k,u) :: r,hl,t,v,h=>by
  rw [look_cons] at h
  split at h
  ·next e=>subst e;cases h;exact hl.1
  ·exact tmpsNil_at hl.2 h
theorem le_nilown {C:Ctx} {nt:Nat} {tmps tmps' : List (Nat×SV)} {own:Own} {arrs:List (Nat×Fm ArrF)} {facts:List (Env→World→Prop)} {nid:Nat} (s ty:Nat) (at_:Nat→List SC)
  (ht:TmpsNil s nid tmps tmps') (hn:look own nid=none):Le C ⟨nt,tmps,own,arrs,facts,nid⟩ ⟨nt,tmps',(nid,.one (.ar 0 s at_ ty)) :: own,arrs,facts,nid+1⟩:=by
 intro E a w hs
 refine ⟨⟨E.ρ,fun x=>if x.1=nid then 0 else E.κ x,fun x=>if x.1=nid then true else E.ν x,E.χ⟩,fun x=>hs.1 x,fun E2 hE2 ho2=>?_⟩
 have hs2:=hs.2 E2 (fun x hx=>by
  have h:=hE2 x (Nat.lt_succ_of_lt hx)
  have hne:x.1≠nid:=by have:x.1<nid:=hx;omega
  simp only [Same,hne,if_false] at h
  exact h) ho2
 have hsz:=hE2 (nid,0,0) (Nat.lt_succ_self nid)
 have hκ:E2.κ (nid,0,0)=0:=by have h:=hsz.2.1;simpa using h
 have hν:E2.ν (nid,0,0)=true:=by have h:=hsz.2.2.1;simpa using h
 obtain ⟨H,hH,hF⟩:=hs2.mem
 have hat:∀ x b,atN own x=some b→x.1≠nid:=fun x b h e=>by
  obtain ⟨F,hF,_⟩:=atN_some h
  rw [e,hn] at hF
  cases hF
 refine ⟨hs2.size,hs2.defers,ho2,fun t v h=>?_,hs2.frame,fun x=>if x.1=nid then emp else H x,⟨fun x b hb=>?_,fun x y b c hb hc hne n=>?_,fun x b hb n o hn=>?_⟩,fun w' hw'=>?_⟩
 ·rcases tmpsNil_at ht h with h1 | ⟨h1,rfl⟩
  ·exact hs2.tmps t v h1
  ·obtain ⟨g1,h2⟩:=hs2.tmps t _ h1
   refine ⟨g1,?_⟩
   rw [h2,den_c,den_c,den_v]
   simp [SC.den,hκ,hν]
 ·rcases atN_one hb with ⟨rfl,rfl⟩ | hb
  ·exact Or.inl ⟨trivial,hκ,rfl,by simp⟩
  ·simp only [hat x b hb,if_false]
   exact hH.den x b hb
 ·rcases atN_one hb with ⟨rfl,rfl⟩ | hb
  ·simp [emp]
  ·rcases atN_one hc with ⟨rfl,rfl⟩ | hc
   ·simp [emp]
   ·simp only [hat x b hb,hat y c hc,if_false]
    exact hH.disj x y b c hb hc hne n
 ·rcases atN_one hb with ⟨rfl,rfl⟩ | hb
  ·simp [emp] at hn
  ·simp only [hat x b hb,if_false] at hn
   exact hH.sub x b hb n o hn
 ·exact hF w' fun n hn hfr=>hw' n hn fun x b hb=>by
   rcases atN_one hb with ⟨rfl,rfl⟩ | hb
   ·simp [emp]
   ·simp only [hat x b hb,if_false]
    exact hfr x b hb
theorem holds_of {C:Ctx} {E:Env} {S:St} {a:Act} {w:World} (hs:Sat C.B C.W C.w0 E S a w):Holds E S w:=by
 obtain ⟨H,_,hF⟩:=hs.mem
 exact hF w fun _ _ _=>rfl
theorem inOk_arrsF {P:Program} {A:List Nat} {w:World} {rs:List RS} {R:Ending→World→Prop} {E:Env} {arrs:List (Nat×Fm ArrF)} {facts:List (Env→World→Prop)} (h:∀ w' : World,(∀ n,n<w.heap.size→w'.heap[n]? = w.heap[n]?)→∀ x A,atN arrs x=some A→ArrAt E w' x A)
  (hf:∀ w',∀ φ∈facts,φ E w'):InOk (mkC P A w rs R) E [] arrs facts w :=
 ⟨fun _=>emp,fun x b h=>by simp [atN,look] at h,fun x y b c h=>by simp [atN,look] at h,fun x b h=>by simp [atN,look] at h,fun w' hw'=>⟨h w' fun n hn=>hw' n hn fun x b hb=>rfl,hf w'⟩⟩
theorem arr_own {C:Ctx} {E:Env} {S:St} {a:Act} {w:World} (hs:Sat C.B C.W C.w0 E S a w) {α:Type} {ty s:Nat} {enc:α→List Value} {ys:List α} {d:α} (i k n:Nat) (at_:Nat→List SC) (hi:look S.own i=some (.one (.ar k s at_ ty))) (hn:n=ys.length) (hk:ys.length≤k)
  (ha:∀ e,e<ys.length→at_ e=ats enc ys d e):Arr w enc s ((SC.sl (i,0,0) s 0 n none).den E) ys:=by
 subst hn
 obtain ⟨H,hH,_⟩:=hs.mem
 have hat:atN S.own (i,0,0)=some (.ar k s at_ ty):=by simp [atN,hi,Fm.get]
 rcases ar_heap hH hat with ⟨h1,h2,h3,_⟩ | ⟨h1,h2,h3,cells,h4,h5,h6,h7⟩
 ·have h0:ys=[]:=List.eq_nil_of_length_eq_zero (by omega)
  subst h0
  exact ⟨if E.ν (i,0,0)=true then none else some ⟨E.ρ (i,0,0),0,none⟩,0,by simp [SC.den,h2],Nat.le_refl _,by simp [maxLen],Or.inl rfl⟩
 ·refine ⟨some ⟨E.ρ (i,0,0),0,none⟩,E.κ (i,0,0),by simp [SC.den,h1],by omega,h3,Or.inr ⟨_,_,rfl,fun e y hy j u hu=>?_⟩⟩
  rw [cell_of_row w _ _ _ ty (0,0) h5,Nat.zero_add]
  have he:e<ys.length:=(List.getElem?_eq_some_iff.1 hy).1
  have:=((h7 e (by omega)).2 j (.v u) (by
   rw [ha e he]
   have:ys.getD e d=y:=by rw [List.getD_eq_getElem?_getD,hy];rfl
   simp only [ats,this,List.getElem?_map,hu];rfl)).1
  rw [den_v] at this
  exact this
theorem crv_retV {C:Ctx} {f:Nat} {vs:List SV} {S:St} (tmpl:SV) (u:Value) (hv:∀ E,tmpl.den E=u) (h:∀ E a w,Sat C.B C.W C.w0 E S a w→Calls C.P f (vs.map (SV.den E)).toArray w (RetV w u)):CRv C f vs S tmpl:=by
 intro E a w hs
 refine (h E a w hs).mono ?_
 rintro e w' ⟨rfl,hb⟩
 exact ⟨u,rfl,E,hs.one,fun E2 _ _ _=>⟨(hv E2).symm,Fits.G ⟨fun H _=>effOk_below hb,fun _ _ x A h=>by simp [atN,look] at h⟩⟩⟩
def E2 (v0 v1:Value):Env:=⟨fun _=>0,fun _=>0,fun _=>false,fun x=>if x.1=1 then v1 else v0⟩
theorem enter0 {P:Program} {A:List Nat} {f nt:Nat} {fn:Func} {x:Code} {c:IR} {w:World} {rs:List RS} {R:Ending→World→Prop} (sc:List SV) (args:Array Value)
  (hf:P.funcs[f]? = some fn) (hb:fn.body=some x) (hc:compC (mkTab P A) x=some c.strip) (hr:compR (mkTab P A).T fn.results.toList=some rs) (hn:fn.ntmps=nt)
  (hargs:∀ E',(sc.map (SV.den E')).toArray=args) (hnt:sc.length≤nt)
  (hex:exec (mkC P A w rs R) 1000 [.code c] ⟨nt,enumT 0 sc,[],[],[],0⟩):Calls P f args w R :=
 calls_sym (c:=c) (C:=mkC P A w rs R) 1000 sc (E1 (.bool true)) [] [] [] 0 nt args (mkTab_ok _ _) hf hb hc hr hn rfl rfl (E1_one rfl) (fun E' _=>hargs E') hnt (fun E' _=>inOk_nil) hex
theorem enter2 {P:Program} {A:List Nat} {f nt:Nat} {fn:Func} {x:Code} {c:IR} {w:World} {rs:List RS} {R:Ending→World→Prop} {α β:Type} {enc:α→List Value} {s:Nat} {xs:List α} (d:α) {v:Value} (T:EncT enc s) (h:Arr w enc s v xs)
  {enc' : β→List Value} {s' : Nat} {ys:List β} (d' : β) {v' : Value} (T' : EncT enc' s') (h' : Arr w enc' s' v' ys) (sc:List SV) (args:Array Value)
  (hf:P.funcs[f]? = some fn) (hb:fn.body=some x) (hc:compC (mkTab P A) x=some c.strip) (hr:compR (mkTab P A).T fn.results.toList=some rs) (hn:fn.ntmps=nt)
  (hargs:∀ E',E'.χ (0,0,0)=v→E'.χ (1,0,0)=v'→(sc.map (SV.den E')).toArray=args) (hnt:sc.length≤nt)
  (hex:exec (mkC P A w rs R) 1000 [.code c] ⟨nt,enumT 0 sc,[],[(0,.one (arrOf enc s xs d)),(1,.one (arrOf enc' s' ys d'))],[],2⟩):Calls P f args w R:=by
 have hone:OneC (E2 v v'):=fun x=>by
  simp only [E2]
  split
  ·exact arr_one h'
  ·exact arr_one h
 have h0:∀ E' : Env,AgreeD (· < 2) (E2 v v') E'→E'.χ (0,0,0)=v:=fun E' hE'=>by
  have:=(hE' (0,0,0) Nat.zero_lt_two).2.2.2
  simpa [E2] using this
 have h1:∀ E' : Env,AgreeD (· < 2) (E2 v v') E'→E'.χ (1,0,0)=v':=fun E' hE'=>by
  have:=(hE' (1,0,0) Nat.one_lt_two).2.2.2
  simpa [E2] using this
 refine calls_sym (c:=c) (C:=mkC P A w rs R) 1000 sc (E2 v v') [] _ [] 2 nt args (mkTab_ok _ _) hf hb hc hr hn rfl rfl hone (fun E' hE'=>hargs E' (h0 E' hE') (h1 E' hE')) hnt (fun E' hE'=>inOk_arrs fun w' hw' x A hA=>?_) hex
 rcases atN_one hA with ⟨rfl,rfl⟩ | hA
 ·exact arr1 T (h0 E' hE') h hw'
 rcases atN_one hA with ⟨rfl,rfl⟩ | hA
 ·exact arr1 T' (h1 E' hE') h' hw'
 exact (atN_nil hA).elim
end Go.Proofs.Ytmcpdafmkkjlcaa.Z
namespace Go.Proofs.Ytmcpdafmkkjlcaa.Z
open Go Go.RowKit
theorem le_tr {C:Ctx} {S S' S'' : St} (h:Le C S S') (h' : Le C S' S''):Le C S S'':=fun E a w hs=>by
 obtain ⟨E',hs'⟩:=h E a w hs
 exact h' E' a w hs'
theorem ats_push {α:Type} {enc:α→List Value} {xs ys:List α} {d x:α} {n:Nat} {f g:Nat→List SC} (hy:ys=xs++[x]) (hn:n=xs.length) (hf:∀ e,e<xs.length→f e=ats enc xs d e) (hg:g 0=(enc x).map .v):∀ e,e<ys.length→appAt n f g e=ats enc ys d e:=fun e he=>by
 subst hy
 subst hn
 unfold appAt
 by_cases h:e<xs.length
 ·rw [if_pos h,hf e h]
  simp [ats,List.getD_eq_getElem?_getD,List.getElem?_append_left h]
 ·have:e=xs.length:=by simp at he;omega
  subst this
  rw [if_neg h,Nat.sub_self,hg]
  simp [ats]
theorem arr_at {C:Ctx} {E:Env} {S:St} {a:Act} {w:World} {α:Type} {enc:α→List Value} {s:Nat} {xs:List α} {d:α} {l:Nat} (hs:Sat C.B C.W C.w0 E S a w) (i:Nat) (h:atN S.arrs (i,0,0)=some (arrOf enc s xs d l)):Arr w enc s (E.χ (i,0,0)) xs:=arr_of (d:=d) ((holds_of hs).1 (i,0,0) _ h)
theorem own_at {C:Ctx} {E:Env} {S:St} {a:Act} {w:World} (hs:Sat C.B C.W C.w0 E S a w) {α:Type} {ty s:Nat} {enc:α→List Value} {ys:List α} {d:α} (i n:Nat) (hi:look S.own i=some (.one (.ar ys.length s (ats enc ys d) ty))) (hn:n=ys.length):Arr w enc s ((SC.sl (i,0,0) s 0 n none).den E) ys :=
 arr_own hs i _ n _ hi hn (Nat.le_refl _) fun _ _=>rfl
theorem guardW {C:Ctx} {ex:List KI→St→Prop} {f:Nat} {vs:List SV} {r:List IO1} {k:List KI} {S S' : St} {d:Option Nat} {g:Nat} {want e:Bool} {Z Z' : Prop} (tmpl:SV) (u:Value) (hv:∀ E,tmpl.den E=u) (hc:∀ E a w,Sat C.B C.W C.w0 E S' a w→Calls C.P f (vs.map (SV.den E)).toArray w (RetV w u))
  (hk:ex (.ops r :: k) ⟨S.nt,S.putT d (.gd g want e tmpl),S.own,S.arrs,S.facts,S.nid⟩):CallG C ex f vs r k S S' d g want e Z∨Z' :=
 Or.inl (Or.inl ⟨tmpl,fun _=>crv_retV tmpl u hv hc,hk⟩)
theorem dcallN {C:Ctx} {bs f:Nat} {vs:List SV} {dst:Option Nat} {U:List Nat} {Si S:St} {done:List Rec} {ex:List Rec→St→Prop} (nx:Nat) (T:Nat→SV) (O:Nat→Own) (hc:∀ E a w,Sat C.B C.W C.w0 E Si a w→Calls C.P f (vs.map (SV.den E)).toArray w (RetN w nx T O))
  (hkeys:newOk Si.nid nx (keysL (O Si.nid)))
  (h:ex (done++[⟨dst,T Si.nid,O Si.nid,[],Si.nid,nx,keysL Si.own,[],[]⟩]) (S.appN ⟨dst,T Si.nid,O Si.nid,[],Si.nid,nx,keysL Si.own,[],[]⟩)):DCallVC C bs f vs dst U Si done S ex :=
 dcall_intro (cr_retN nx T O hc) rfl trivial (by
  have:∀ l:Own,newOk Si.nid nx (keysL l)→wrOk U done Si.nid nx l:=by
   intro l
   induction l with
   | nil=>intro _;trivial
   | cons a l ih =>
    obtain ⟨k,b⟩:=a
    intro h;exact ⟨Or.inl h.1,ih h.2⟩
  exact this _ hkeys) (fun k hk hlt=>absurd (newOk_mem hkeys k hk).1 (by omega)) h
theorem wrI {n:Int} (h : -9223372036854775808≤n∧n≤9223372036854775807):IntKind.i64.wrap n=n:=wr64 h.1 h.2
def leT (s n:Nat) (e:Int) (b:Nat):SV:=.tup [(false,[.sl (b,0,0) s 0 n none]),(false,[.v (.int .i64 e)])]
theorem retList' {P:Program} {A:List Nat} {w:World} {rs:List RS} {α:Type} {ty s n:Nat} {enc:α→List Value} {xs:List α} {d:α} {S:St} (i k:Nat) (at_:Nat→List SC)
  (hi:look S.own i=some (.one (.ar k s at_ ty))) (hn:n=xs.length) (hk:xs.length≤k) (ha:∀ e,e<xs.length→at_ e=ats enc xs d e):RetVC (mkC P A w rs (RetN w 1 (lsT s xs.length) (lsO ty s enc xs d))) (.c (.sl (i,0,0) s 0 n none)) S:=by
 subst hn
 exact retList i k at_ hi hk ha
def Unr (C:Ctx) (c:IR) (k:List KI) (ex:List KI→St→Prop):Nat→St→Prop
 | 0,_=>False
 | n+1,S=>∀ (ι:Type) (I:ι→St) (μ:ι→Nat) (i:ι),(∀ S',Unr C c k ex n S'→BackVC C ι I μ i S')→ex (.code c :: .back ι I μ i :: k) S
theorem loop_unr {C:Ctx} {S:St} {c:IR} {k:List KI} {ex:List KI→St→Prop} (n:Nat) (h:Unr C c k ex n S):LoopVC C c k S ex:=by
 refine ⟨{ p:Nat×St // Unr C c k ex p.1 p.2 },fun p=>p.1.2,fun p=>p.1.1,⟨(n,S),h⟩,fun E a w hs=>⟨E,hs⟩,?_⟩
 rintro ⟨⟨m,S'⟩,h'⟩
 cases m with
 | zero=>exact h'.elim
 | succ m=>exact h' _ _ _ _ (fun S'' h''=>⟨⟨(m,S''),h''⟩,Nat.lt_succ_self m,fun E a w hs=>⟨E,hs⟩⟩)
def keepL' {α:Type} (l:List (Nat×α)):List Nat→List (Nat×α)
 | []=>[]
 | k :: ks=>match look l k with
  | some v=>(k,v) :: keepL' l ks
  | none=>keepL' l ks
def St.keep (S:St) (kt ko ka:List Nat):St:=⟨S.nt,keepL' S.tmps kt,keepL' S.own ko,keepL' S.arrs ka,S.facts,S.nid⟩
end Go.Proofs.Ytmcpdafmkkjlcaa.Z
namespace Go.Proofs.Ytmcpdafmkkjlcaa.Z
open Go Go.RowKit
theorem den_same {p:Nat→Prop} {E E2:Env} (h:∀ x:Nm,p x.1→Same E E2 x) {v:SV} (hv:v.okN p):v.den E2=v.den E:=by
 have h1:v.den E2=(v.ren id).den E:=sv_ren (σ:=id) (fun x hx=>h x hx) v hv
 have h2:v.den E=(v.ren id).den E:=sv_ren (σ:=id) (fun x _=>⟨rfl,rfl,rfl,rfl⟩) v hv
 rw [h1,h2]
def okVs (p:Nat→Prop):List SV→Prop
 | []=>True
 | v :: l=>v.okN p∧okVs p l
theorem dens_same {p:Nat→Prop} {E E2:Env} (h:∀ x:Nm,p x.1→Same E E2 x):∀ {l:List SV},okVs p l→l.map (SV.den E2)=l.map (SV.den E)
 | [],_=>rfl
 | v :: l,hl=>by rw [List.map_cons,List.map_cons,den_same h hl.1,dens_same h hl.2]
def AgF (n0:Nat) (E0:Env):Env→World→Prop:=fun E _=>AgreeD (· < n0) E0 E
structure TmpOk (E0:Env) (a:Act) (S:St):Prop where
 size:a.tmps.size=S.nt
 defers:a.defers=[]
 tmps:∀ E',AgreeD (· < S.nid) E0 E'→OneC E'→∀ t v,look S.tmps t=some v→t<S.nt∧a.tmps.getD t undef=v.den E'
def InlR (C:Ctx) (S:St) (dst:Option Nat) (K:St→Prop) (E0:Env) (a:Act) (e:Ending) (w' : World):Prop :=
 ∃ u,e = .returned u∧∃ E' S',SatA C.B C.W C.w0 E' S' (a.put dst u) w'∧K S'
def mkI (C:Ctx) (rs:List RS) (S:St) (dst:Option Nat) (K:St→Prop) (E0:Env) (a:Act):Ctx:=⟨C.P,C.tab,C.B,C.W,C.w0,rs,InlR C S dst K E0 a⟩
theorem mkI_rs (C:Ctx) (rs:List RS) (S:St) (dst:Option Nat) (K:St→Prop) (E0:Env) (a:Act):(mkI C rs S dst K E0 a).rs=rs:=rfl
theorem call_inline {C:Ctx} {f:Nat} {vs:List SV} {dst:Option Nat} {S:St} {K:St→Prop} {fn:Func} {x:Code} {c:IR} {rs:List RS} {nt:Nat} (n:Nat) (hT:C.tab.Ok C.P) (hf:C.P.funcs[f]? = some fn) (hb:fn.body=some x) (hc:compC C.tab x=some c.strip) (hr:compR C.tab.T fn.results.toList=some rs) (hn:fn.ntmps=nt)
  (hvs:okVs (· < S.nid) vs) (hnt:vs.length≤nt)
  (hex:∀ E0 a,TmpOk E0 a S→exec (mkI C rs S dst K E0 a) n [.code c] ⟨nt,enumT 0 vs,S.own,S.arrs,AgF S.nid E0 :: S.facts,S.nid⟩):CallVC C f vs dst S K:=by
 intro E a w hs
 subst hn
 have hok:TmpOk E a S:=⟨hs.sat.size,hs.sat.defers,fun E' h1 h2 t v ht=>(hs.2 E' h1 h2).tmps t v ht⟩
 refine calls_of_exec (C:=mkI C rs S dst K E a) (E:=E) n hT hf hb hc hr ⟨hs.1,fun E' h1 h2=>?_⟩ (hex E a hok)
 have hs':=hs.2 E' h1 h2
 have hvv:vs.map (SV.den E')=vs.map (SV.den E):=dens_same (p:=(· < S.nid)) (fun x hx=>h1 x hx) hvs
 refine ⟨by simp;omega,rfl,h2,fun t v ht=>?_,hs'.frame,?_⟩
 ·obtain ⟨j,rfl,hj⟩:=look_enumT vs 0 t v ht
  have hjl:j<vs.length:=(List.getElem?_eq_some_iff.1 hj).1
  refine ⟨by simp only;omega,?_⟩
  simp only [← hvv,Nat.zero_add,Array.getD_eq_getD_getElem?]
  rw [Array.getElem?_append_left (by simpa using hjl)]
  simp [hj]
 ·obtain ⟨H,hH,hF⟩:=hs'.mem
  refine ⟨H,hH,fun w' hw'=>⟨(hF w' hw').1,fun φ hφ=>?_⟩⟩
  cases hφ with
  | head=>exact h1
  | tail _ hφ=>exact (hF w' hw').2 φ hφ
theorem retI {C:Ctx} {rs:List RS} {S S2:St} {dst:Option Nat} {K:St→Prop} {E0:Env} {a:Act} {v:SV} (hok:TmpOk E0 a S) (fs:List (Env→World→Prop)) (hf:S2.facts=AgF S.nid E0 :: fs) (hle:S.nid≤S2.nid) (hv:v.okN (· < S2.nid))
  (hk:K ⟨S.nt,S.putT dst v,S2.own,S2.arrs,fs,S2.nid⟩):RetVC (mkI C rs S dst K E0 a) v S2:=by
 intro E a2 w hs
 refine ⟨_,rfl,E,⟨S.nt,S.putT dst v,S2.own,S2.arrs,fs,S2.nid⟩,⟨hs.1,fun E' h1 h2=>?_⟩,hk⟩
 have hs':=hs.2 E' h1 h2
 obtain ⟨H,hH,hF⟩:=hs'.mem
 have hag:AgreeD (· < S.nid) E0 E':=by
  have:=(hF w fun _ _ _=>rfl).2 (AgF S.nid E0) (by rw [hf];exact List.mem_cons_self)
  exact this
 have hvv:v.den E' = v.den E:=den_same (p:=(· < S2.nid)) (fun x hx=>h1 x hx) hv
 refine ⟨by rw [put_size'];exact hok.size,by rw [put_defers'];exact hok.defers,h2,fun t u ht=>?_,hs'.frame,H,hH,fun w' hw'=>⟨(hF w' hw').1,fun φ hφ=>(hF w' hw').2 φ (by rw [hf];exact List.mem_cons_of_mem _ hφ)⟩⟩
 rw [← hvv]
 cases dst with
 | none=>exact hok.tmps E' hag h2 t u ht
 | some d =>
  simp only [St.putT] at ht
  split at ht
  ·next hd =>
   rw [look_setL] at ht
   split at ht
   ·next e =>
    subst e
    simp only [Option.some.injEq] at ht
    subst ht
    exact ⟨hd,put_same' _ _ _ (by rw [hok.size];exact hd)⟩
   ·next e=>
    obtain ⟨g1,g2⟩:=hok.tmps E' hag h2 t u ht
    exact ⟨g1,by rw [put_other' _ _ _ _ e];exact g2⟩
  ·next hd =>
   obtain ⟨g1,g2⟩:=hok.tmps E' hag h2 t u ht
   exact ⟨g1,by rw [put_other' _ _ _ _ (fun e=>hd (by subst e;exact g1))];exact g2⟩
def FStab (σ:Nm→Nm) (n:Nat) (φ:Env→World→Prop):Prop:=∀ E E2 w,(∀ x:Nm,x.1<n→SameR σ E E2 x)→φ E w→φ E2 w
theorem agF_stab {σ:Nm→Nm} {n n0:Nat} {E0:Env} (hn:n0≤n) (hσ:∀ x:Nm,x.1<n0→σ x=x):FStab σ n (AgF n0 E0):=by
 intro E E2 w h hf x hx
 have h1:=h x (Nat.lt_of_lt_of_le hx hn)
 have h2:=hf x hx
 unfold SameR at h1
 rw [hσ x hx] at h1
 exact h2.trans h1
def FactLe (σ:Nm→Nm) (n:Nat) (fs:List (Env→World→Prop)) (φ:Env→World→Prop):Prop:=∃ φ0∈fs,∀ E E2 w,(∀ x:Nm,x.1<n→SameR σ E E2 x)→φ0 E w→φ E2 w
def FactsLe (σ:Nm→Nm) (n:Nat) (fs:List (Env→World→Prop)):List (Env→World→Prop)→Prop
 | []=>True
 | φ :: l=>FactLe σ n fs φ∧FactsLe σ n fs l
theorem factsLe_mem {σ:Nm→Nm} {n:Nat} {fs:List (Env→World→Prop)}:∀ {l:List (Env→World→Prop)},FactsLe σ n fs l→∀ φ∈l,FactLe σ n fs φ
 | [],_,φ,h=>by cases h
 | ψ :: l,hl,φ,h=>by
  cases h with
  | head=>exact hl.1
  | tail _ h=>exact factsLe_mem hl.2 φ h
theorem fact_stab {σ:Nm→Nm} {n:Nat} {fs:List (Env→World→Prop)} {φ:Env→World→Prop} (h:φ∈fs) (hs:FStab σ n φ):FactLe σ n fs φ:=⟨φ,h,hs⟩
structure RenF (σ:Nm→Nm) (S S' : St):Prop where
 nt:S'.nt=S.nt
 facts:FactsLe σ S'.nid S.facts S'.facts
 tmps:TmpsLe (· < S'.nid) σ S.tmps S'.tmps
 own:OwnLe (· < S'.nid) σ S.own S'.own
 arrs:ArrsLe (· < S'.nid) σ S.arrs S'.arrs
 inj:InjN σ S'.own
theorem le_nmF {C:Ctx} {S S' : St} (σ:Nm→Nm) (h:RenF σ S S'):Le C S S':=by
 intro E a w hs
 refine ⟨E.via σ,fun x=>hs.1 _,fun E2 hE2 ho2=>?_⟩
 have hs:=hs.sat
 have hR:∀ x:Nm,x.1<S'.nid→SameR σ E E2 x:=fun x hx=>hE2 x hx
 obtain ⟨H,hH,hF⟩:=hs.mem
 have hat:∀ x b',atN S'.own x=some b'→x.1<S'.nid∧∃ b,atN S.own (σ x)=some b∧BlkLe (· < S'.nid) σ b b':=fun x b' hx=>ownLe_at h.own hx
 refine ⟨hs.size.trans h.nt.symm,hs.defers,ho2,?_,hs.frame,fun x=>H (σ x),⟨?_,?_,?_⟩,?_⟩
 ·intro t v ht
  obtain ⟨h1,h2⟩:=tmpsLe_at h.tmps ht
  obtain ⟨g1,g2⟩:=hs.tmps t _ h1
  exact ⟨by rw [h.nt];exact g1,by rw [g2,sv_ren hR v h2]⟩
 ·intro x b' hx
  obtain ⟨h1,b,h2,h3⟩:=hat x b' hx
  exact blk_le hR h1 h3 (hH.den _ _ h2)
 ·intro x y b' c' hx hy hne n
  obtain ⟨_,b,h2,_⟩:=hat x b' hx
  obtain ⟨_,c,g2,_⟩:=hat y c' hy
  exact hH.disj _ _ b c h2 g2 (fun e=>hne (h.inj x y b' c' hx hy e)) n
 ·intro x b' hx n o hn
  obtain ⟨_,b,h2,_⟩:=hat x b' hx
  exact hH.sub _ b h2 n o hn
 ·intro w' hw'
  have hold:=hF w' (fun n hn hfr=>hw' n hn (fun x b' hx=>let ⟨_,b,h2,_⟩:=hat x b' hx;hfr _ b h2))
  refine ⟨fun x A' hA=>?_,fun φ hφ=>let ⟨φ0,h0,h1⟩:=factsLe_mem h.facts φ hφ;h1 E E2 w' hR (hold.2 φ0 h0)⟩
  obtain ⟨h1,A,h2,h3,h4,h5,h6⟩:=arrsLe_at h.arrs hA
  obtain ⟨ba,cap,g1,g2,g3,g4⟩:=hold.1 _ A h2
  refine ⟨ba,cap,by rw [(hR x h1).2.2.2,g1,h3],by omega,g3,?_⟩
  rcases g4 with g4 | ⟨b,off,rfl,gl,g4⟩
  ·exact Or.inl (by omega)
  ·refine Or.inr ⟨b,off,rfl,Nat.le_trans h6 gl,fun k hk=>?_⟩
   obtain ⟨f1,f2⟩:=g4 k (by omega)
   obtain ⟨e1,e2⟩:=h5 k hk
   rw [e1] at f1 f2
   refine ⟨by rw [renL_eq,List.length_map] at f1;omega,fun j u hu=>?_⟩
   have:=f2 j _ (mem_renL hu)
   rw [den_ren hR u (okL_mem e2 hu),← h4]
   exact this
theorem le_renF {C:Ctx} {S S' : St} (τ:Nat→Nat) (h1:S'.nt=S.nt) (h2:FactsLe (idσ τ) S'.nid S.facts S'.facts) (h3:TmpsLe (· < S'.nid) (idσ τ) S.tmps S'.tmps) (h4:OwnLe (· < S'.nid) (idσ τ) S.own S'.own) (h5:ArrsLe (· < S'.nid) (idσ τ) S.arrs S'.arrs) (h6:injL τ (keysL S'.own)=true):Le C S S' :=
 le_nmF (idσ τ) ⟨h1,h2,h3,h4,h5,injN_id h6⟩
theorem factA {τ:Nat→Nat} {n n0:Nat} {E0:Env} {fs:List (Env→World→Prop)} (h:AgF n0 E0∈fs) (hn:n0≤n) (hτ:∀ i,i<n0→τ i=i):FactLe (idσ τ) n fs (AgF n0 E0) :=
 fact_stab h (agF_stab hn fun x hx=>by unfold idσ;rw [hτ _ hx])
def RetB (w:World) (Pre:World→Prop) (nx:Nat) (T:Nat→SV) (A:Nat→List (Nat×Fm ArrF)) (e:Ending) (w' : World):Prop :=
 ∃ v,e = .returned v∧Below w.heap.size w w'∧∀ b,∃ N:Env,OneC N∧∀ E2,AgreeD (NewIds b nx) N E2→v=(T b).den E2 ∧
  ∀ w'' : World,Pre w''→(∀ n,w.heap.size≤n→n<w'.heap.size→w''.heap[n]? = w'.heap[n]?)→∀ x A',atN (A b) x=some A'→ArrAt E2 w'' x A'
def ArrF.lo (l:Nat) (A:ArrF):ArrF:=⟨A.len,A.size,A.at_,l⟩
def loFm (l:Nat):Fm ArrF→Fm ArrF
 | .one A=>.one (A.lo l)
 | .fam n f=>.fam n fun k=>(f k).lo l
 | .fam2 n m f=>.fam2 n m fun k j=>(f k j).lo l
def lowL (l:Nat):List (Nat×Fm ArrF)→List (Nat×Fm ArrF)
 | []=>[]
 | (i,F) :: r=>(i,loFm l F) :: lowL l r
theorem atN_lowL {l:Nat}:∀ {L:List (Nat×Fm ArrF)} {x:Nm} {A' : ArrF},atN (lowL l L) x=some A'→∃ A,atN L x=some A∧A' = A.lo l
 | [],x,A',h=>by simp [lowL,atN,look] at h
 | (i,F) :: r,(j,k,m),A',h=>by
  simp only [lowL,atN,look_cons] at h ⊢
  by_cases e:i=j
  ·subst e
   rw [if_pos rfl] at h
   rw [if_pos rfl]
   cases F with
   | one A =>
    simp only [loFm,Fm.get] at h ⊢
    split at h
    ·next e=>rw [if_pos e];cases h;exact ⟨_,rfl,rfl⟩
    ·cases h
   | fam n f =>
    simp only [loFm,Fm.get] at h ⊢
    split at h
    ·next e=>rw [if_pos e];cases h;exact ⟨_,rfl,rfl⟩
    ·cases h
   | fam2 n g f =>
    simp only [loFm,Fm.get] at h ⊢
    split at h
    ·next e=>rw [if_pos e];cases h;exact ⟨_,rfl,rfl⟩
    ·cases h
  ·rw [if_neg e] at h
   rw [if_neg e]
   exact atN_lowL (L:=r) (x:=(j,k,m)) h
theorem arrAt_low {E:Env} {w w' : World} {x:Nm} {A:ArrF} {B l:Nat} (hl:l≤B) (hs:0<A.size) (h:∀ w'' : World,(∀ n,B≤n→n<w'.heap.size→w''.heap[n]? = w'.heap[n]?)→ArrAt E w'' x A) :
  ∀ w'' : World,(∀ n,B≤n→n<w'.heap.size→w''.heap[n]? = w'.heap[n]?)→ArrAt E w'' x (A.lo l):=fun w'' hw''=>by
 obtain ⟨ba,cap,h1,h2,h3,h4⟩:=h w'' hw''
 refine ⟨ba,cap,h1,h2,h3,?_⟩
 rcases h4 with h4 | ⟨b,off,rfl,_,h4⟩
 ·exact Or.inl h4
 by_cases h0:A.len=0
 ·exact Or.inl h0
 refine Or.inr ⟨b,off,rfl,Nat.le_trans hl (Nat.le_of_not_lt fun hb=>?_),h4⟩
 have hw3:∀ n,(w'.heap.mapIdx fun i o=>if i<B then Obj.map #[] 0 else o)[n]? = (w'.heap[n]?).map fun o=>if n<B then Obj.map #[] 0 else o:=fun n=>by
  rw [Array.getElem?_mapIdx]
 obtain ⟨ba',cap',g1,g2,g3,g4⟩:=h { w' with heap:=w'.heap.mapIdx fun i o=>if i<B then Obj.map #[] 0 else o } fun n hn hlt=>by
  show (w'.heap.mapIdx fun i o=>if i<B then Obj.map #[] 0 else o)[n]? = _
  rw [hw3]
  simp [Nat.not_lt_of_le hn]
 rw [h1] at g1
 simp only [Value.slice.injEq] at g1
 obtain ⟨rfl,_,rfl⟩:=g1
 rcases g4 with g4 | ⟨b',off',e,_,g4⟩
 ·exact h0 g4
 simp only [Option.some.injEq,Addr.mk.injEq] at e
 obtain ⟨rfl,rfl,_⟩:=e
 obtain ⟨f1,f2⟩:=g4 0 (by omega)
 have hu:(A.at_ 0)[0]? = some ((A.at_ 0)[0]'(by omega)):=List.getElem?_eq_getElem (by omega)
 have h5:=(f2 0 _ hu).1
 unfold World.cell? at h5
 simp only [hw3,if_pos hb] at h5
 cases hh:w'.heap[b]? with
 | none=>rw [hh] at h5;simp at h5
 | some o=>rw [hh] at h5;simp at h5
theorem RetB.low {w w' : World} {nx:Nat} {T:Nat→SV} {A:Nat→List (Nat×Fm ArrF)} {e:Ending} {l:Nat} (hl:l≤w.heap.size) (hs:∀ b x A',atN (A b) x=some A'→0<A'.size) (h:RetB w (fun _=>True) nx T A e w'):RetB w (fun _=>True) nx T (fun b=>lowL l (A b)) e w':=by
 obtain ⟨v,rfl,hb,h⟩:=h
 refine ⟨v,rfl,hb,fun b=>?_⟩
 obtain ⟨N,h1,h2⟩:=h b
 refine ⟨N,h1,fun E2 hE=>?_⟩
 obtain ⟨h3,h4⟩:=h2 E2 hE
 refine ⟨h3,fun w'' _ hw'' x A' hx=>?_⟩
 obtain ⟨A0,h5,rfl⟩:=atN_lowL hx
 exact arrAt_low (w:=w') hl (hs b x A0 h5) (fun w3 hw3=>h4 w3 trivial hw3 x A0 h5) w'' hw''
end Go.Proofs.Ytmcpdafmkkjlcaa.Z
namespace Go.Proofs.Ytmcpdafmkkjlcaa
open Go.RowKit
structure ElemI (P:Program) (e:TypeId) (size bytes:Nat) (z:Value):Prop where
 ex:∃ i,P.info? e=some i∧i.zero=some z∧i.size=size∧i.bytes=bytes
 zs:z.cells.size=size
 z1:∀ u∈z.cells.toList,u.oneCell' = true
 pos:0<size
theorem ElemI.sizeOf {P:Program} {e:TypeId} {size bytes:Nat} {z:Value} (I:ElemI P e size bytes z) (w:World):(Go.sizeOf e).run P w = .ok size w:=by
 obtain ⟨i0,hi,_,hs,_⟩:=I.ex
 simp [Go.sizeOf,typeInfo,hi,hs]
theorem run_append_rowS {P:Program} (w:World) {t ty e:TypeId} {size bytes:Nat} {z:Value} (I:ElemI P e size bytes z) (ht:P.underlying t=some (.slice e))
  (g o n cap:Nat) (a:Addr) (m c:Nat) (cur:List Value) (tt:TypeId) (cs:List Value)
  (hg:w.heap[g]? = some (.cells cur.toArray tt (0,0))) (hn:cs.length=m * size) (hroom:n+m≤cap)
  (hsrc:∀ j v,cs[j]? = some v→w.cell? (a.add j)=some v) (hfit:o+n * size+cs.length≤cur.length) (h1:∀ v∈cs,v.oneCell' = true) :
  (Builtin.append_ #[t,t] ty #[.slice (some ⟨g,o,none⟩) n cap,.slice (some a) m c]).run P w =
   .ok (.slice (some ⟨g,o,none⟩) (n+m) cap) (w.setRow g (splice cur (o+n * size) cs).toArray):=by
 obtain ⟨i,hi,_,hs,_⟩:=I.ex
 subst hs
 have hfc:=run_firstCells_some (P:=P) w i.size m a m c cs hn hsrc
 have hst:=run_storeCells_at P g (o+n * i.size) tt cs 0 cur.toArray w hg (by simpa using hfit) h1
 simp only [Nat.add_zero] at hst
 simp [Builtin.append_,run_underlying ht,sizeOf,typeInfo,hi,Builtin.lenOf,hroom,hfc,Addr.add_lit,hst,splice]
theorem step_append_rowS {P:Program} {w:World} {ops:Array Oper} {o:Oper} {a:Act} {K:Act→World→Prop} {Q:Exit→Act→World→Prop} {F:Prop} (hgd:o.guard=none) (d s:Operand) (dT:TypeId)
  (ho:o.op = .call { callee:=.builtin .append,args:=#[d,s],argTypes:=#[dT,dT] }) {e:TypeId} {size bytes:Nat} {z:Value} (I:ElemI P e size bytes z) (hu:P.underlying dT=some (.slice e))
  {g off n cap:Nat} {ad:Addr} {m c:Nat} (hd:a.eval d = .slice (some ⟨g,off,none⟩) n cap) (hs:a.eval s = .slice (some ad) m c)
  {cur:List Value} {t:TypeId} (hg:w.heap[g]? = some (.cells cur.toArray t (0,0))) (cs:List Value) (hn:cs.length=m * size) (hroom:n+m≤cap)
  (hsrc:∀ j v,cs[j]? = some v→w.cell? (ad.add j)=some v) (hfit:off+n * size+cs.length≤cur.length) (h1:∀ v∈cs,v.oneCell' = true)
  (h:∀ w',w' = w.setRow g (splice cur (off+n * size) cs).toArray→K (a.put o.dst (.slice (some ⟨g,off,none⟩) (n+m) cap)) w') :
  if Region.wanted o (yielded ops a.tmps)=true then Oper.wp P o a w K Q else F:=by
 have hw:Region.wanted o (yielded ops a.tmps)=true:=by simp [Region.wanted,hgd]
 rw [if_pos hw]
 have hr:=run_append_rowS (P:=P) w (ty:=o.type) I hu g off n cap ad m c cur t cs hg hn hroom hsrc hfit h1
 unfold Oper.wp execOp
 simp only [ho,resolve,invoke,builtin,Sem.run_bind,Sem.run_pure,Result.andThen_ok,List.map_toArray,List.map_cons,List.map_nil,hs,hd,hr]
 exact h _ rfl
theorem mem_zeroCells {z:Array Value} {n:Nat} {u:Value} (h:u∈(Builtin.zeroCells z n).toList):u∈z.toList:=by
  simp only [Builtin.zeroCells] at h
  simp only [Array.toList_map,Array.toList_range,List.mem_map,List.mem_range] at h
  obtain ⟨a,ha,rfl⟩:=h
  have h0 : 0 < z.size := by rcases Nat.eq_zero_or_pos z.size with h | h;· rw [h] at ha;omega
                             · exact h
  have h1:a % z.size<z.size:=Nat.mod_lt _ h0
  simp [getElem!_pos,h1]
theorem run_clear_rowS {P:Program} (w:World) {t ty e:TypeId} {size bytes:Nat} {z:Value} (I:ElemI P e size bytes z) (ht:P.underlying t=some (.slice e))
  (g o n c:Nat) (cur:List Value) (tt:TypeId)
  (hg:w.heap[g]? = some (.cells cur.toArray tt (0,0))) (hn:n≠0) (hfit:o+n * size≤cur.length) :
  ∃ cs:List Value,cs.length=n * size∧(Builtin.clear_ #[t] ty #[.slice (some ⟨g,o,none⟩) n c]).run P w =
   .ok (.tuple #[]) (w.setRow g (splice cur o cs).toArray):=by
 obtain ⟨i,hi,hz,hs,_⟩:=I.ex
 subst hs
 refine ⟨(Builtin.zeroCells z.cells n).toList,by rw [Array.length_toList,size_zeroCells,I.zs],?_⟩
 have hst:=run_storeCells_at P g o tt (Builtin.zeroCells z.cells n).toList 0 cur.toArray w hg (by rw [Array.length_toList,size_zeroCells,I.zs];simpa using hfit) (by
  intro u hu
  exact I.z1 u (mem_zeroCells hu))
 have hv:(zeroValue e).run P w = .ok z w:=by simp [zeroValue,typeInfo,hi,hz]
 obtain ⟨k,rfl⟩:∃ k,n=k+1:=⟨n - 1,by omega⟩
 simp [Builtin.clear_,run_underlying ht,hv,hst,splice]
theorem wpList_clear_rowS {P:Program} {w:World} {ops:Array Oper} {rest:List Oper} {o:Oper} {a:Act} {Q:Exit→Act→World→Prop} (hgd:o.guard=none) (d:Operand) (dT:TypeId)
  (ho:o.op = .call { callee:=.builtin .clear,args:=#[d],argTypes:=#[dT] }) {e:TypeId} {size bytes:Nat} {z:Value} (I:ElemI P e size bytes z) (hu:P.underlying dT=some (.slice e))
  {g off n c:Nat} (hd:a.eval d = .slice (some ⟨g,off,none⟩) n c) {cur:List Value} {t:TypeId} (hg:w.heap[g]? = some (.cells cur.toArray t (0,0))) (hn:n≠0) (hfit:off+n * size≤cur.length)
  (h:∀ w' cs,cs.length=n * size→w' = w.setRow g (splice cur off cs).toArray→wpList P ops Q rest (a.put o.dst (.tuple #[])) w'):wpList P ops Q (o :: rest) a w:=by
 obtain ⟨cs,hcs,hr⟩:=run_clear_rowS (P:=P) w (ty:=o.type) I hu g off n c cur t hg hn hfit
 refine wpList_plain hgd fun K hK=>?_
 unfold Oper.wp execOp
 simp only [ho,resolve,invoke,builtin,Sem.run_bind,Sem.run_pure,Result.andThen_ok,List.map_toArray,List.map_cons,List.map_nil,hd,hr]
 exact hK _ _ (h _ cs hcs rfl)
end Go.Proofs.Ytmcpdafmkkjlcaa
namespace Go.Proofs.Ytmcpdafmkkjlcaa.Z
open Go Go.RowKit
section
variable {B:Nat} {W:Nat→Prop} {E:Env} {S:St} {w w1:World}
theorem fits_same {i:Nat} {b:Blk} (h:look S.own i=some (.one b)):Fits B W E S w w [(i,.one b)] []:=by
 have hat:∀ x c,atN [(i,Fm.one b)] x=some c→atN S.own x=some c:=by
  intro x c hx
  rcases atN_one hx with ⟨rfl,rfl⟩ | hx
  ·simp [atN,h,Fm.get]
  ·exact (atN_nil hx).elim
 refine ⟨fun H hH=>⟨rfl,rfl,rfl,Nat.le_refl _,fun _ _ _=>rfl,H,fun x c hx=>hH.den x c (hat x c hx),fun x y b c hx hy hne=>hH.disj x y b c (hat x b hx) (hat y c hy) hne,fun x c hx n o hn=>⟨(hH.sub x c (hat x c hx) n o hn).1,Or.inr ⟨x,c,?_,hat x c hx,by rw [hn];simp⟩⟩⟩,fun _ _ x A h=>by simp [atN,look] at h⟩
 rcases atN_one hx with ⟨rfl,rfl⟩ | hx
 ·simp [look]
 ·exact (atN_nil hx).elim
theorem fits_blk {o ob:Obj} {b b' : Blk} {i g:Nat} (h:look S.own i=some (.one b)) (hown:∀ H,HeapOk B W E S.own H w→H (i,0,0)=sing g ob) (hb:b'.den E (i,0,0) (sing g o)) (h0:w1.os=w.os∧w1.tape=w.tape∧w1.output=w.output) (hsz:w.heap.size≤w1.heap.size)
  (hw:∀ n,n<w.heap.size→w1.heap[n]? = if n=g then some o else w.heap[n]?):Fits B W E S w w1 [(i,.one b')] []:=by
 have hat:atN S.own (i,0,0)=some b:=by simp [atN,h,Fm.get]
 have hone:∀ x c,atN [(i,Fm.one b')] x=some c→x=(i,0,0)∧c=b':=by
  intro x c hx
  rcases atN_one hx with hx | hx
  ·exact hx
  ·exact (atN_nil hx).elim
 refine ⟨fun H hH=>⟨h0.1,h0.2.1,h0.2.2,hsz,fun n hn hk=>?_,fun _=>sing g o,?_,?_,?_⟩,fun _ _ x A h=>by simp [atN,look] at h⟩
 ·rw [hw n hn]
  split
  ·next e =>
   have:=hk (i,0,0) b (by simp [look]) hat
   rw [hown H hH,e] at this
   simp [sing] at this
  ·rfl
 ·intro x c hx
  obtain ⟨rfl,rfl⟩:=hone x c hx
  exact hb
 ·intro x y c d hx hy hne
  obtain ⟨rfl,_⟩:=hone x c hx
  obtain ⟨rfl,_⟩:=hone y d hy
  exact absurd rfl hne
 ·intro x c hx n o' hn
  obtain ⟨rfl,rfl⟩:=hone x c hx
  obtain ⟨rfl,rfl⟩:=sing_some hn
  have hs:(H (i,0,0)) n=some ob:=by rw [hown H hH];simp [sing]
  have hlt:=hH.lt hat hs
  refine ⟨by rw [hw _ hlt,if_pos rfl],Or.inr ⟨(i,0,0),b,by simp [look],hat,by rw [hs];simp⟩⟩
end
end Go.Proofs.Ytmcpdafmkkjlcaa.Z
namespace Go.Proofs.Ytmcpdafmkkjlcaa.Z
open Go Go.RowKit
theorem getD_att {α:Type} {ys:List α} {d:α} {j:Nat} (hj:j<ys.length) [Inhabited {x:α // x∈ys}]:(ys.attach.toArray[j]!).1=ys.getD j d:=by
 rw [getElem!_pos _ j (by simpa using hj)]
 simp [List.getD_eq_getElem?_getD,List.getElem?_eq_getElem hj]
theorem cr_sortK {C:Ctx} {S:St} {ρ:Go.Shelf.Ren} (L:SlLaysF0.n6 C.P ρ) {α:Type} {i ty g k:Nat} {cap:Option Nat} {cl:List SC} {ys zs:List α} (d:α) (es:α→List SC) (K:α→α→Int) (hk0:0<k)
  (aE:∀ w,(isAgg (ρ.t 24)).run C.P w = .ok true w) (zE:∀ w,(Go.sizeOf (ρ.t 24)).run C.P w = .ok k w)
  (hown:look S.own i=some (.one (.ar ys.length k (fun e=>es (ys.getD e d)) ty))) (hlen:ys.length<4611686018427387904)
  (eg:∀ args w,(callFunc g args).run C.P w = .ok (.enter g args) w)
  (hO:Go.Sort.SWO (ltOf fun x y:{x:α // x∈ys}=>K x.1 y.1))
  (hz:∀ l:List α,l.Perm ys→l.Pairwise (fun a b=>¬ K b a<0)→l=zs)
  (hc:∀ E a w,Sat C.B C.W C.w0 E S a w→∀ W:World,(∀ n,n<w.heap.size→n≠E.ρ (i,0,0)→W.heap[n]? = w.heap[n]?)→∀ x∈ys,∀ y∈ys,
   Calls C.P g (#[.agg ((es x).map (SC.den E)).toArray,.agg ((es y).map (SC.den E)).toArray]++(SC.denL E cl).toArray) W fun e w'=>e = .returned (.int .i64 (K x y))∧∃ q os,w' = Go.Sort.grow (W.drewN q) os) :
  CR C (ρ.f 6) [.c (.sl (i,0,0) k 0 ys.length cap),.c (.fn (.func g) [] cl)] S [i] (.tup []) 0 [(i,.one (.ar ys.length k (fun e=>es (zs.getD e d)) ty))] []:=by
 intro E a w hs
 obtain ⟨H,hH,_⟩:=hs.mem
 have hat:atN S.own (i,0,0)=some (.ar ys.length k (fun e=>es (ys.getD e d)) ty):=by simp [atN,hown,Fm.get]
 have hd:=hH.den _ _ hat
 by_cases hy:ys=[]
 ·subst hy
  obtain rfl:[]=zs:=hz [] (List.Perm.refl _) List.Pairwise.nil
  refine Calls.mono (AnyF.slices_SortFunc_none (ρ:=ρ) L _ _ _ w) ?_
  rintro e w' ⟨rfl,rfl⟩
  exact ⟨_,rfl,E,hs.one,fun E2 h2 hk _=>⟨rfl,(fits_same hown).G⟩⟩
 simp only [Blk.den] at hd
 rcases hd with ⟨_,_,h0,_⟩ | ⟨hν,hn,hκ,cells,hHx,hcs,hcells⟩
 ·exact absurd (List.eq_nil_of_length_eq_zero h0) hy
 have hlt0:0<ys.length:=List.length_pos_iff.2 hy
 obtain ⟨hw0,_⟩:=hH.sub _ _ hat (E.ρ (i,0,0)) (.cells cells ty (0,0)) (by rw [hHx];simp [sing])
 have hblk:E.ρ (i,0,0)<w.heap.size:=hH.lt hat (o:=.cells cells ty (0,0)) (by rw [hHx];simp [sing])
 letI:Inhabited {x:α // x∈ys}:=⟨⟨ys.head hy,List.head_mem hy⟩⟩
 have hsz:ys.attach.toArray.size=ys.length:=by simp
 have hget:∀ j,j<ys.length→(ys.attach.toArray[j]!).1=ys.getD j d:=fun j hj=>getD_att hj
 have hkl:∀ x:{x:α // x∈ys},((es x.1).map (SC.den E)).length=k:=fun x=>by
  obtain ⟨j,hj,e⟩:=List.getElem_of_mem x.2
  have:=(hcells j hj).1
  rw [List.getD_eq_getElem?_getD,List.getElem?_eq_getElem hj,Option.getD_some,e] at this
  rw [List.length_map,this]
 have h1:∀ x:{x:α // x∈ys},∀ v∈(es x.1).map (SC.den E),v.oneCell' = true:=fun x v hv=>by
  obtain ⟨j,hj,e⟩:=List.getElem_of_mem x.2
  obtain ⟨u,hu,rfl⟩:=List.mem_map.1 hv
  obtain ⟨q,hq,rfl⟩:=List.getElem_of_mem hu
  refine ((hcells j hj).2 q _ ?_).2
  rw [List.getD_eq_getElem?_getD,List.getElem?_eq_getElem hj,Option.getD_some,e]
  exact List.getElem?_eq_getElem hq
 have hcell:∀ t,t<ys.length * k→cells[t]? = some (((es (ys.getD (t / k) d)).map (SC.den E))[t % k]!):=fun t ht=>by
  have hq:t / k<ys.length:=Nat.div_lt_of_lt_mul (by rw [Nat.mul_comm];exact ht)
  obtain ⟨g1,g2⟩:=hcells (t / k) hq
  have hr:t % k<(es (ys.getD (t / k) d)).length:=by rw [g1];exact Nat.mod_lt _ hk0
  have:=(g2 (t % k) _ (List.getElem?_eq_getElem hr)).1
  rw [show t / k * k+t % k=t from Nat.div_add_mod' t k] at this
  rw [this,getElem!_pos _ _ (by rw [List.length_map];exact hr),List.getElem_map]
 have hHolds:Go.Sort.HoldsK (fun x:{x:α // x∈ys}=>(es x.1).map (SC.den E)) k w (E.ρ (i,0,0)) 0 ys.attach.toArray:=by
  intro t ht
  rw [Go.Sort.size_flatK,hsz] at ht
  have hq:t / k<ys.length:=Nat.div_lt_of_lt_mul (by rw [Nat.mul_comm];exact ht)
  refine ⟨?_,?_⟩
  ·rw [Go.Sort.get_flatK _ _ _ _ (by rw [hsz];exact ht)]
   unfold World.cell?
   simp only [hw0,Nat.zero_add]
   rw [hcell t ht,hget _ hq]
   simp
  ·unfold World.frozen?
   simp [hw0]
 have hcmp:CmpLays C.P g (SC.denL E cl).toArray (fun x:{x:α // x∈ys}=>(es x.1).map (SC.den E)) k (fun x y=>K x.1 y.1) (E.ρ (i,0,0)) 0 ys.attach.toArray.size w:=by
  intro m os dk hdk x y
  refine (hc E a w hs _ (fun n hn hne=>?_) x.1 x.2 y.1 y.2)
  show ((w.heap.modify _ _)++os)[n]? = _
  rw [Array.getElem?_append_left (by simpa using hn),Array.getElem?_modify,if_neg (Ne.symm hne)]
 have hcon:=AnyQ.slices_SortFunc L k aE zE (fun x:{x:α // x∈ys}=>(es x.1).map (SC.den E)) hkl h1 (fun x y=>K x.1 y.1) hO g (SC.denL E cl).toArray (E.ρ (i,0,0)) 0 (cap.getD (E.κ (i,0,0) - 0)) ys.attach.toArray w eg hcmp hHolds hblk (by rw [hsz];exact hlen)
 have hargs:([SV.c (.sl (i,0,0) k 0 ys.length cap),.c (.fn (.func g) [] cl)].map (SV.den E)).toArray = #[.slice (some ⟨E.ρ (i,0,0),0,none⟩) ys.attach.toArray.size (cap.getD (E.κ (i,0,0) - 0)),.func (.func g) #[] (SC.denL E cl).toArray]:=by
  simp [SV.den,SC.den,SC.denL,hν]
 rw [hargs]
 refine hcon.mono ?_
 rintro e w' ⟨rfl,d',m,os,hp,hso,rfl⟩
 obtain ⟨hp1,_,hp3⟩:=hp
 rw [hsz] at hp1
 have hl:d'.toList.map (·.1)=zs:=by
  refine hz _ ?_ ?_
  ·have e1:d'.extract 0 ys.attach.toArray.size=d':=by rw [hsz,← hp1];exact Array.extract_size
   rw [e1,Array.extract_size] at hp3
   have:=hp3.map (·.1)
   simpa using this
  ·rw [List.pairwise_map,List.pairwise_iff_getElem]
   intro a b ha hb hab
   simp only [Array.length_toList] at ha hb
   have:=hso a b (Nat.zero_le _) hab (by rw [hsz];omega)
   rw [getElem!_pos d' a ha,getElem!_pos d' b hb] at this
   simp only [ltOf,decide_eq_false_iff_not] at this
   simpa only [Array.getElem_toList] using this
 have hzl:zs.length=ys.length:=by rw [← hl];simp [hp1]
 have hdz:∀ j,j<ys.length→(d'[j]!).1=zs.getD j d:=fun j hj=>by
  have hj2:j<d'.size:=by omega
  rw [← hl,getElem!_pos d' j hj2]
  simp [List.getD_eq_getElem?_getD,List.getElem?_eq_getElem,hj2]
 refine ⟨_,rfl,E,hs.one,fun E2 h2 hk _=>⟨rfl,?_⟩⟩
 obtain ⟨k1,k2,k3,k4⟩:=hk (i,0,0) (by simp)
 obtain ⟨H3,hH3,_⟩:=h2.mem
 have hd3:=hH3.den _ _ hat
 simp only [Blk.den] at hd3
 rcases hd3 with ⟨_,_,h0,_⟩ | ⟨_,_,_,cells3,hHx3,_,hcells3⟩
 ·omega
 obtain ⟨hw3,_⟩:=hH3.sub _ _ hat (E2.ρ (i,0,0)) (.cells cells3 ty (0,0)) (by rw [hHx3];simp [sing])
 rw [k1,hw0] at hw3
 cases hw3
 have hsame:∀ x∈ys,∀ u∈es x,u.den E2=u.den E:=fun x hx u hu=>by
  obtain ⟨j,hj,e⟩:=List.getElem_of_mem hx
  obtain ⟨q,hq,rfl⟩:=List.getElem_of_mem hu
  have e' : ys.getD j d=x:=by rw [List.getD_eq_getElem?_getD,List.getElem?_eq_getElem hj,Option.getD_some,e]
  have g1:=((hcells j hj).2 q ((es x)[q]) (by rw [e'];exact List.getElem?_eq_getElem hq)).1
  have g2:=((hcells3 j hj).2 q ((es x)[q]) (by rw [e'];exact List.getElem?_eq_getElem hq)).1
  rw [g1] at g2
  exact (Option.some.inj g2).symm
 refine Fits.G (B:=C.B) (W:=C.W) (E:=E2) (S:=S) (w:=w) (fits_blk (g:=E.ρ (i,0,0)) (ob:=.cells cells ty (0,0)) (o:=.cells (Go.Sort.putCells id 0 (Go.Sort.flatK (fun x:{x:α // x∈ys}=>(es x.1).map (SC.den E)) k d') cells) ty (0,0)) hown (fun H2 hH2=>?_) ?_ ⟨rfl,rfl,rfl⟩ ?_ ?_)
 ·have hd2:=hH2.den _ _ hat
  simp only [Blk.den] at hd2
  rcases hd2 with ⟨_,_,h0,_⟩ | ⟨_,_,_,cells2,hHx2,_,_⟩
  ·omega
  ·obtain ⟨hw2,_⟩:=hH2.sub _ _ hat (E2.ρ (i,0,0)) (.cells cells2 ty (0,0)) (by rw [hHx2];simp [sing])
   rw [k1,hw0] at hw2
   cases hw2
   rw [hHx2,k1]
 ·simp only [Blk.den]
  refine Or.inr ⟨by rw [k3];exact hν,by rw [k2];exact hn,by rw [k2];exact hκ,_,by rw [k1],?_,fun e he=>?_⟩
  ·rw [k2]
   simpa [Go.Sort.putCells] using hcs
  ·have hm:zs.getD e d∈ys:=by rw [← hdz e he];exact (d'[e]!).2
   have hkl':=hkl ⟨_,hm⟩
   simp only [List.length_map] at hkl'
   refine ⟨hkl',fun j u hj=>?_⟩
   have hjl:=(List.getElem?_eq_some_iff.1 hj).1
   have hum:u∈es (zs.getD e d):=List.mem_of_getElem? hj
   rw [hsame _ hm u hum]
   have ht:e * k+j<ys.length * k:=by
    have:(e+1) * k≤ys.length * k:=Nat.mul_le_mul_right k (by omega)
    rw [Nat.add_mul] at this
    omega
   refine ⟨?_,h1 ⟨_,hm⟩ _ (List.mem_map_of_mem hum)⟩
   have hq1:(e * k+j) / k=e:=by rw [Nat.mul_comm,Nat.mul_add_div hk0,Nat.div_eq_of_lt (by omega)];rfl
   have hq2:(e * k+j) % k=j:=by rw [Nat.mul_comm,Nat.mul_add_mod,Nat.mod_eq_of_lt (by omega)]
   simp only [Go.Sort.putCells,Array.getElem?_mapIdx,hcell _ ht,Option.map_some,Nat.zero_le,true_and,Nat.zero_add,Go.Sort.size_flatK,hp1,if_pos ht,Nat.sub_zero,id]
   rw [Go.Sort.get_flatK _ _ _ _ (by rw [hp1];exact ht),hq1,hq2,hdz e he,getElem!_pos _ j (by rw [List.length_map];exact hjl),List.getElem_map]
   rw [List.getElem?_eq_getElem hjl] at hj
   rw [Option.some.inj hj]
 ·show _≤((w.heap.modify _ _)++os).size
  simp
 ·intro n hn
  show ((w.heap.modify _ _)++os)[n]? = _
  rw [Array.getElem?_append_left (by simpa using hn),Array.getElem?_modify]
  by_cases e:n=E.ρ (i,0,0)
  ·subst e
   simp [hw0,Go.Sort.onCells]
  ·rw [if_neg (Ne.symm e),if_neg e]
end Go.Proofs.Ytmcpdafmkkjlcaa.Z
namespace Go.Proofs.Ytmcpdafmkkjlcaa
open Go.RowKit
section
variable {H:Type} {enc:TypeId×Value→H} {P:Program} {w:World} {base:Nat} {spare:Nat→Bool} {held:Bool}
def LeafAt (enc:TypeId×Value→H) (P:Program) (w:World) (base:Nat) (spare:Nat→Bool) (held:Bool) (bound:Nat) (ws:List Nat) (u:TypeId) (c:Value):Prop :=
 ∃ m y,DataW.trod enc P w base spare held m u [c]=some y∧Rows.uptoBulk y.1≤bound∧∀ k∈y.1.weights P u,k∈ws
theorem one_le_bulk (d:DataW H):1≤Rows.uptoBulk d:=by
 cases d with
 | lit l=>cases l <;> simp [Rows.uptoBulk]
 | nil=>simp [Rows.uptoBulk]
 | ptr d=>simp [Rows.uptoBulk]
 | slice elems spare=>simp [Rows.uptoBulk]
 | agg parts=>simp [Rows.uptoBulk]
 | iface t d=>simp [Rows.uptoBulk]
 | map entries=>simp [Rows.uptoBulk]
 | held h=>simp [Rows.uptoBulk]
theorem length_le_bulk (l:List (DataW H)):l.length≤Rows.uptoBulkAll l:=by
 induction l with
 | nil=>simp [Rows.uptoBulkAll]
 | cons x r ih=>have:=one_le_bulk x;simp only [Rows.uptoBulkAll,List.length_cons];omega
theorem weightsEach_mem {ts:List TypeId} {ds:List (DataW H)} {i:Nat} {t:TypeId} {d:DataW H} (ht:ts[i]? = some t) (hd:ds[i]? = some d):∀ k∈d.weights P t,k∈DataW.weightsEach P ts ds:=by
 intro k hk
 induction ts generalizing ds i with
 | nil=>simp at ht
 | cons t0 ts ih =>
  cases ds with
  | nil=>simp at hd
  | cons d0 ds =>
   simp only [DataW.weightsEach,List.mem_append]
   cases i with
   | zero=>simp at ht hd;subst ht;subst hd;exact Or.inl hk
   | succ i=>exact Or.inr (ih (by simpa using ht) (by simpa using hd))
theorem LeafAt.mono {b b' : Nat} {ws ws' : List Nat} {u:TypeId} {c:Value} (h:LeafAt enc P w base spare held b ws u c) (hb:b≤b') (hw:∀ k∈ws,k∈ws'):LeafAt enc P w base spare held b' ws' u c:=by
 obtain ⟨m,y,h1,h2,h3⟩:=h
 exact ⟨m,y,h1,by omega,fun k hk=>hw k (h3 k hk)⟩
theorem LeafAt.int {b:Nat} {ws:List Nat} {u:TypeId} {c:Value} {k:IntKind} (hu:P.underlying u=some (.int k)) (h:LeafAt enc P w base spare held b ws u c):∃ n,c = .int k n∧(Lit.int k n).wf=true:=by
 obtain ⟨m,y,h1,_⟩:=h
 obtain ⟨n,hc,_,hw⟩:=DataW.trod_int hu h1
 exact ⟨n,by simpa using hc,hw⟩
theorem LeafAt.bool {b:Nat} {ws:List Nat} {u:TypeId} {c:Value} (hu:P.underlying u=some .bool) (h:LeafAt enc P w base spare held b ws u c):∃ n,c = .bool n:=by
 obtain ⟨m,y,h1,_⟩:=h
 obtain ⟨n,hc,_⟩:=DataW.trod_bool hu h1
 exact ⟨n,by simpa using hc⟩
theorem choose_list {α:Type} {R:Nat→α→Prop}:∀ n,(∀ i,i<n→∃ x,R i x)→∃ xs:List α,xs.length=n∧∀ i x,xs[i]? = some x→R i x:=by
 intro n
 induction n with
 | zero=>intro _;exact ⟨[],rfl,fun i x h=>by simp at h⟩
 | succ n ih =>
  intro h
  obtain ⟨xs,hl,hx⟩:=ih (fun i hi=>h i (by omega))
  obtain ⟨y,hy⟩:=h n (by omega)
  refine ⟨xs++[y],by simp [hl],fun i x hi=>?_⟩
  by_cases hlt:i<xs.length
  ·rw [List.getElem?_append_left hlt] at hi
   exact hx i x hi
  ·rw [List.getElem?_append_right (by omega)] at hi
   have h0:i - xs.length=0:=by have:=(List.getElem?_eq_some_iff.1 hi).1;simp at this;omega
   rw [h0] at hi
   simp at hi
   subst hi
   have:i=n:=by omega
   subst this
   exact hy
theorem LeafAt.slice {α:Type} {b:Nat} {ws:List Nat} {u e:TypeId} {c:Value} (hu:P.underlying u=some (.slice e)) {s:Nat} (hpos:0<s) (hc:P.cellsOf e=s) (encA:α→List Value) (Q:α→Prop)
  (helem:∀ (m:Nat) (cs:List Value) (y:DataW H×List MemPlace),cs.length=s→DataW.trod enc P w base spare held m e cs=some y→∃ x:α,cs=encA x∧Q x)
  (h:LeafAt enc P w base spare held b ws u c):∃ xs:List α,Arr w encA s c xs∧(∀ x∈xs,Q x)∧xs.length+1≤b∧(xs=[]∨∃ k∈ws,xs.length * P.bytesOf e≤k):=by
 obtain ⟨m,y,h1,hb,hw⟩:=h
 rcases DataW.trod_slice hu h1 with ⟨hcs,rfl⟩ | ⟨a,len,cap,elems,rest,n,_,hcs,rfl,hba,hl,hm,hlen,hel,hsp,hns⟩
 ·simp only [List.cons.injEq,and_true] at hcs
  subst hcs
  refine ⟨[],Arr.nil _ _ _,by simp,?_,Or.inl rfl⟩
  simp only [Rows.uptoBulk] at hb
  simpa using hb
 ·simp only [List.cons.injEq,and_true] at hcs
  subst hcs
  have each:∀ i,i<len→∃ x:α,(∃ cs,w.cells? base (a.add (i * s)) s=some cs∧cs=encA x)∧Q x:=by
   intro i hi
   have h2:=hel i hi
   rw [List.getElem?_eq_getElem (by omega),hc] at h2
   obtain ⟨cs,h3,h4⟩:=Option.bind_eq_some_iff.1 h2
   obtain ⟨x,h5,h6⟩:=helem n cs _ (World.cells?_some h3).2.1 h4
   exact ⟨x,⟨cs,h3,h5⟩,h6⟩
  obtain ⟨xs,hxl,hx⟩:=choose_list len each
  refine ⟨xs,?_,?_,?_,?_⟩
  ·refine ⟨some a,cap,by rw [hxl],by omega,hm,?_⟩
   by_cases h0:xs=[]
   ·exact Or.inl h0
   ·right
    by_cases hspot:a.spot=none
    ·obtain ⟨ab,ao,sp⟩:=a
     simp only at hspot
     subst hspot
     refine ⟨ab,ao,rfl,fun k x hk j u hj=>?_⟩
     obtain ⟨⟨cs,h3,rfl⟩,_⟩:=hx k x hk
     obtain ⟨_,hlc,hcell⟩:=World.cells?_some h3
     have hjs:j<s:=by rw [← hlc];exact (List.getElem?_eq_some_iff.1 hj).1
     have h4:=hcell j hjs
     rw [hj] at h4
     rw [← h4]
     congr 1
     unfold Addr.add
     split <;> split <;> simp_all
    ·exfalso
     obtain ⟨x0,hx0⟩:∃ x0,xs[0]? = some x0:=by cases xs with | nil=>exact absurd rfl h0 | cons y _=>exact ⟨y,rfl⟩
     obtain ⟨⟨cs,h3,_⟩,_⟩:=hx 0 x0 hx0
     obtain ⟨_,hlc,hcell⟩:=World.cells?_some h3
     have h4:=hcell 0 hpos
     rw [Nat.zero_mul] at h4
     have e:(a.add 0).add 0=a:=by simp [Addr.add]
     rw [e,List.getElem?_eq_getElem (by omega)] at h4
     unfold World.cell? at h4
     split at h4
     ·cases hs:a.spot with
      | none=>exact hspot hs
      | some q=>rw [hs] at h4;simp at h4
     ·cases h4
  ·intro x hx'
   obtain ⟨i,hi⟩:=List.getElem?_of_mem hx'
   exact (hx i x hi).2
  ·have h2:=length_le_bulk (elems.map (·.1))
   simp only [Rows.uptoBulk,List.length_map] at hb h2
   omega
  ·right
   refine ⟨_,hw (((elems.map (·.1)).length+(rest.map (·.1)).length) * P.bytesOf e) ?_,?_⟩
   ·simp only [DataW.weights,hu]
    exact List.mem_cons_self
   ·rw [hxl,List.length_map,hlen]
    exact Nat.mul_le_mul_right _ (by omega)
end
end Go.Proofs.Ytmcpdafmkkjlcaa
namespace Go.Proofs.Ytmcpdafmkkjlcaa.Z
open Go Go.RowKit
attribute [go_sem] ex_nil ex_skip ex_ops ex_draw ex_seq ex_cond ex_blk ex_loop ex_exit ex_ret ex_mark ex_kill ex_pop ex_onil ex_op ex_opg thenS stepOut St.ev look setL mergeL dropL memB atN pkN setN Fm.get Fm.pk Fm.set St.app St.putT St.skipT St.setB St.kill St.call St.setA St.resS specS specO specC chain chainP inCh resV rsvP resT slot1 slotL pureSlots St.evW resA1 resAP resA gB specD specDO recG pure1 pureO SV.cells SC.one allOne fillP put take' drop' len' nth binI eqCells SC.bool? SC.nil? neg? evs evC popTo resL resP resSV oneSV finS retS dr_nil thenD recOf skipR wrOk wrFree wkImp St.weak thenW recW fimp_mpe newOk outOk St.appN St.hid St.only keepK useO idX idC tchs keyss Rec.tch keysL ltAll enumT slSrc slB slM SV.int? segs keyOf intsOf Value.oneCell' and_self and_true true_and and_false false_and not_true_eq_false not_false_eq_true List.map_cons List.map_nil List.cons_append List.nil_append List.append_nil Option.bind_some Option.bind_none Bool.true_and Bool.and_true Bool.false_and Bool.and_false Bool.not_true Bool.not_false Bool.not_not Bool.true_beq Bool.false_beq Bool.bne_true Bool.bne_false Bool.true_bne Bool.false_bne Option.map_some Option.map_none beq_self_eq_true bne_self_eq_false Bool.false_eq_true Bool.true_eq_false Nat.zero_add Nat.add_zero forall_const implies_true true_implies false_implies Int.cast_ofNat_Int Int.natCast_nonneg Int.ofNat_lt Int.toNat_natCast mkC_rs decide_true decide_false List.length_cons List.length_nil Prod.mk.injEq Option.some.injEq arrOf_len arrOf_size arrOf_at wr_lit wr_litu Nat.sub_zero ex_back mkI_rs
attribute [go_sem ↓] condS exitS gateS runOp gateD altC runD imp_ft imp_tf imp_tt imp_ff imp_fn imp_tn imp_fy imp_ty
end Go.Proofs.Ytmcpdafmkkjlcaa.Z
namespace Go.Proofs.Ytmcpdafmkkjlcaa.Z
open Go Go.RowKit
theorem ren_ats {α:Type} {σ:Nm→Nm} {enc:α→List Value} {xs:List α} {d:α} {e:Nat}:SC.renL σ (ats enc xs d e)=ats enc xs d e:=renL_v _ _
theorem ok_ats {α:Type} {p:Nat→Prop} {enc:α→List Value} {xs:List α} {d:α} {e:Nat}:SC.okL p (ats enc xs d e):=okL_v _ _
end Go.Proofs.Ytmcpdafmkkjlcaa.Z
namespace Go.Proofs.Ytmcpdafmkkjlcaa.Z
open Go Go.RowKit
structure Ins where
 kind:Int
 reg:Int
 addr:Int
 val:Int
 frm:Int
 old:Int
 cnt:Int
structure Pd where
 addr:Int
 val:Int
structure Tn where
 thr:Int
 out:Bool
 addr:Int
structure R4 where
 a:Int
 b:Int
 c:Int
 d:Int
def in0:Ins:=⟨0,0,0,0,0,0,0⟩
def pd0:Pd:=⟨0,0⟩
def tn0:Tn:=⟨0,false,0⟩
def r40:R4:=⟨0,0,0,0⟩
def Ins.enc (c:Ins):List Value:=[.int .i64 c.kind,.int .i64 c.reg,.int .i64 c.addr,.int .i64 c.val,.int .i64 c.frm,.int .i64 c.old,.int .i64 c.cnt]
def Pd.enc (c:Pd):List Value:=[.int .i64 c.addr,.int .i64 c.val]
def Tn.enc (c:Tn):List Value:=[.int .i64 c.thr,.bool c.out,.int .i64 c.addr]
def R4.enc (c:R4):List Value:=[.int .i64 c.a,.int .i64 c.b,.int .i64 c.c,.int .i64 c.d]
theorem in_ok:EncT Ins.enc 7:=⟨fun _=>rfl,fun x u hu=>by simp [Ins.enc] at hu;rcases hu with rfl | rfl | rfl | rfl | rfl | rfl | rfl <;> rfl⟩
theorem pd_ok:EncT Pd.enc 2:=⟨fun _=>rfl,fun x u hu=>by simp [Pd.enc] at hu;rcases hu with rfl | rfl <;> rfl⟩
theorem r4_ok:EncT R4.enc 4:=⟨fun _=>rfl,fun x u hu=>by simp [R4.enc] at hu;rcases hu with rfl | rfl | rfl | rfl <;> rfl⟩
def R4.get (r:R4) (i:Int):Int:=if i=0 then r.a else if i=1 then r.b else if i=2 then r.c else r.d
def R4.put (r:R4) (i v:Int):R4:=if i=0 then { r with a:=v } else if i=1 then { r with b:=v } else if i=2 then { r with c:=v } else { r with d:=v }
structure Lt where
 words:List Int
 thr:List (List Ins)
structure LS where
 words:List Int
 regs:List R4
 places:List Int
 bufs:List (List Pd)
def fitsB (c:Ins) (n:Nat):Bool:=decide (1≤c.kind∧c.kind≤7∧(c.kind≠2→c.kind≠4→0≤c.reg∧c.reg<4)∧(c.kind≤3→0≤c.addr∧c.addr<n)∧(c.kind=2→-1≤c.frm∧c.frm<4)∧(c.kind=7→0≤c.cnt∧c.cnt≤10))
def codeB (n:Nat) (code:List Ins):Bool:=decide (code.length≤10) && code.all fun c=>fitsB c n
def checkB (L:Lt):Bool:=decide (1≤L.thr.length∧L.thr.length≤4∧1≤L.words.length∧L.words.length≤6) && L.thr.all (codeB L.words.length)
def beginS (L:Lt):LS:=⟨L.words,List.replicate L.thr.length r40,List.replicate L.thr.length 0,List.replicate L.thr.length []⟩
def seeL (v addr:Int):List Pd→Int
 | []=>v
 | p :: l=>seeL (if p.addr=addr then p.val else v) addr l
theorem seeL_app (v addr:Int):∀ (l m:List Pd),seeL v addr (l++m)=seeL (seeL v addr l) addr m
 | [],m=>rfl
 | p :: l,m=>by simp [seeL,seeL_app _ addr l m]
def seeS (s:LS) (k:Nat) (addr:Int):Int:=seeL (s.words.getD addr.toNat 0) addr (s.bufs.getD k [])
def hitB (o addr:Int) (p:Pd):Bool:=o != 3 || decide (p.addr=addr)
def outS (o:Int) (s:LS) (k:Nat) (addr:Int):LS×Bool :=
 if o=1 then (s,false) else
 match (s.bufs.getD k []).findIdx? (hitB o addr) with
 | none=>(s,false)
 | some i=>({ s with words:=s.words.set ((s.bufs.getD k []).getD i pd0).addr.toNat ((s.bufs.getD k []).getD i pd0).val,bufs:=s.bufs.set k ((s.bufs.getD k []).eraseIdx i) },true)
def stepS (o:Int) (s:LS) (k:Nat) (c:Ins):Option (LS×Int) :=
 if c.kind=1 then some ({ s with regs:=s.regs.set k ((s.regs.getD k r40).put c.reg (seeS s k c.addr)) },1)
 else if c.kind=2 then
  (if o=1 then some ({ s with words:=s.words.set c.addr.toNat (if c.frm≥0 then (s.regs.getD k r40).get c.frm else c.val) },1)
  else some ({ s with bufs:=s.bufs.set k (s.bufs.getD k []++[⟨c.addr,if c.frm≥0 then (s.regs.getD k r40).get c.frm else c.val⟩]) },1))
 else if c.kind=3 then
  (if (s.bufs.getD k []).length>0 then none
  else if s.words.getD c.addr.toNat 0=c.old then some ({ s with words:=s.words.set c.addr.toNat c.val,regs:=s.regs.set k ((s.regs.getD k r40).put c.reg 1) },1)
  else some ({ s with regs:=s.regs.set k ((s.regs.getD k r40).put c.reg 0) },1))
 else if c.kind=4 then (if (s.bufs.getD k []).length>0 then none else some (s,1))
 else if c.kind=5 then some ({ s with regs:=s.regs.set k ((s.regs.getD k r40).put c.reg c.val) },1)
 else if c.kind=6 then some ({ s with regs:=s.regs.set k ((s.regs.getD k r40).put c.reg (IntKind.i64.wrap ((s.regs.getD k r40).get c.reg+c.val))) },1)
 else if (s.regs.getD k r40).get c.reg=c.val then some (s,1+c.cnt) else some (s,1)
def turnS (L:Lt) (o:Int) (s:LS) (t:Tn):LS×Bool :=
 if 0≤t.thr∧t.thr<L.thr.length then
  (if t.out=true then outS o s t.thr.toNat t.addr
  else if s.places.getD t.thr.toNat 0=(L.thr.getD t.thr.toNat []).length then (s,false)
  else match stepS o s t.thr.toNat ((L.thr.getD t.thr.toNat []).getD (s.places.getD t.thr.toNat 0).toNat in0) with
   | none=>(s,false)
   | some (s',f)=>({ s' with places:=s'.places.set t.thr.toNat (if ((L.thr.getD t.thr.toNat []).length:Int)<s'.places.getD t.thr.toNat 0+f then ((L.thr.getD t.thr.toNat []).length:Int) else s'.places.getD t.thr.toNat 0+f) },true))
 else (s,false)
end Go.Proofs.Ytmcpdafmkkjlcaa.Z
namespace Go.Proofs.Ytmcpdafmkkjlcaa.Z
open Go Go.RowKit
structure ThrOk (L:Lt) (o:Int) (N:Nat) (s:LS) (t:Nat):Prop where
 p0:0≤s.places.getD t 0
 p1:s.places.getD t 0≤(L.thr.getD t []).length
 b:(s.bufs.getD t []).length≤N
 sc:o=1→s.bufs.getD t []=[]
 pend:∀ p∈s.bufs.getD t [],0≤p.addr∧p.addr<L.words.length
structure WfS (L:Lt) (o:Int) (N:Nat) (s:LS):Prop where
 w:s.words.length=L.words.length
 r:s.regs.length=L.thr.length
 p:s.places.length=L.thr.length
 b:s.bufs.length=L.thr.length
 thr:∀ t,t<L.thr.length→ThrOk L o N s t
theorem getD_setE {α:Type} (l:List α) (k t:Nat) (v d:α):(l.set k v).getD t d=if k=t∧k<l.length then v else l.getD t d:=by
 rw [List.getD_eq_getElem?_getD,List.getElem?_set,List.getD_eq_getElem?_getD]
 by_cases h:k=t
 ·subst h
  by_cases h2:k<l.length
  ·simp [h2]
  ·simp [h2]
 ·simp [h]
theorem WfS.mono {L:Lt} {o:Int} {N M:Nat} {s:LS} (h:WfS L o N s) (hm:N≤M):WfS L o M s :=
 ⟨h.w,h.r,h.p,h.b,fun t ht=>⟨(h.thr t ht).p0,(h.thr t ht).p1,Nat.le_trans (h.thr t ht).b hm,(h.thr t ht).sc,(h.thr t ht).pend⟩⟩
theorem fits_at {L:Lt} (h:checkB L=true) {t:Nat} (ht:t<L.thr.length):(L.thr.getD t []).length≤10∧∀ c∈L.thr.getD t [],fitsB c L.words.length=true:=by
 simp only [checkB,Bool.and_eq_true,List.all_eq_true] at h
 have h1:=h.2 (L.thr.getD t []) (by rw [List.getD_eq_getElem?_getD,List.getElem?_eq_getElem ht];exact List.getElem_mem ht)
 simp only [codeB,Bool.and_eq_true,List.all_eq_true,decide_eq_true_eq] at h1
 exact h1
theorem sz_at {L:Lt} (h:checkB L=true):1≤L.thr.length∧L.thr.length≤4∧1≤L.words.length∧L.words.length≤6:=by
 simp only [checkB,Bool.and_eq_true,decide_eq_true_eq] at h
 exact h.1
theorem begin_wf {L:Lt} (o:Int):WfS L o 0 (beginS L):=by
 refine ⟨rfl,by simp [beginS],by simp [beginS],by simp [beginS],fun t ht=>?_⟩
 have e1:(beginS L).places.getD t 0=0:=by simp [beginS,List.getD_eq_getElem?_getD,ht]
 have e2:(beginS L).bufs.getD t []=[]:=by simp [beginS,List.getD_eq_getElem?_getD,ht]
 exact ⟨by rw [e1];omega,by rw [e1];omega,by rw [e2];simp,fun _=>e2,by rw [e2];intro p hp;cases hp⟩
theorem wf_upd {L:Lt} {o:Int} {N:Nat} {s s' : LS} (h:WfS L o N s) (k:Nat) (hk:k<L.thr.length) (hw:s'.words.length=s.words.length) (hr:s'.regs.length=s.regs.length) (hp:s'.places.length=s.places.length) (hb:s'.bufs.length=s.bufs.length)
  (h1:∀ t,t≠k→s'.places.getD t 0=s.places.getD t 0) (h2:∀ t,t≠k→s'.bufs.getD t []=s.bufs.getD t []) (h3:ThrOk L o (N+1) s' k):WfS L o (N+1) s':=by
 refine ⟨hw.trans h.w,hr.trans h.r,hp.trans h.p,hb.trans h.b,fun t ht=>?_⟩
 by_cases e:t=k
 ·subst e;exact h3
 ·have g:=h.thr t ht
  exact ⟨by rw [h1 t e];exact g.p0,by rw [h1 t e];exact g.p1,by rw [h2 t e];exact Nat.le_succ_of_le g.b,fun ho=>by rw [h2 t e];exact g.sc ho,by rw [h2 t e];exact g.pend⟩
theorem mem_eraseIdx' {α:Type} {l:List α} {i:Nat} {x:α} (h:x∈l.eraseIdx i):x∈l:=(List.eraseIdx_sublist l i).subset h
theorem out_wf {L:Lt} {o:Int} {N:Nat} {s:LS} (h:WfS L o N s) {k:Nat} (hk:k<L.thr.length) (addr:Int):WfS L o (N+1) (outS o s k addr).1:=by
 unfold outS
 split
 ·exact h.mono (Nat.le_succ _)
 next ho =>
  split
  ·exact h.mono (Nat.le_succ _)
  ·next i hi =>
   have g:=h.thr k hk
   refine wf_upd h k hk (by simp) rfl rfl (by simp) (fun t ht=>rfl) (fun t ht=>?_) ?_
   ·simp only;rw [getD_setE,if_neg (fun e=>ht e.1.symm)]
   ·have e:((s.bufs.set k ((s.bufs.getD k []).eraseIdx i)).getD k [])=(s.bufs.getD k []).eraseIdx i:=by rw [getD_setE,if_pos ⟨rfl,by rw [h.b];exact hk⟩]
    refine ⟨g.p0,g.p1,?_,fun ho1=>absurd ho1 ho,?_⟩
    ·simp only;rw [e]
     have:=List.length_eraseIdx_le (s.bufs.getD k []) i
     have:=g.b
     omega
    ·simp only;rw [e]
     exact fun p hp=>g.pend p (mem_eraseIdx' hp)
theorem step_wf {L:Lt} {o:Int} {N:Nat} {s s' : LS} {f:Int} {c:Ins} (h:WfS L o N s) {k:Nat} (hk:k<L.thr.length) (hc:fitsB c L.words.length=true) (hs:stepS o s k c=some (s',f)) :
  s'.places=s.places∧1≤f∧f≤11∧WfS L o (N+1) s':=by
 have g:=h.thr k hk
 simp only [fitsB,decide_eq_true_eq] at hc
 have same:∀ s2:LS,s2.places=s.places→s2.bufs=s.bufs→s2.words.length=s.words.length→s2.regs.length=s.regs.length→WfS L o (N+1) s2:=fun s2 e1 e2 e3 e4 =>
  ⟨e3.trans h.w,e4.trans h.r,by rw [e1];exact h.p,by rw [e2];exact h.b,fun t ht=>⟨by rw [e1];exact (h.thr t ht).p0,by rw [e1];exact (h.thr t ht).p1,by rw [e2];exact Nat.le_succ_of_le (h.thr t ht).b,by rw [e2];exact (h.thr t ht).sc,by rw [e2];exact (h.thr t ht).pend⟩⟩
 unfold stepS at hs
 split at hs
 ·cases hs;exact ⟨rfl,by omega,by omega,same _ rfl rfl rfl (by simp)⟩
 split at hs
 ·next h2 =>
  split at hs
  ·cases hs;exact ⟨rfl,by omega,by omega,same _ rfl rfl (by simp) rfl⟩
  ·next ho =>
   cases hs
   refine ⟨rfl,by omega,by omega,wf_upd h k hk rfl rfl rfl (by simp) (fun t ht=>rfl) (fun t ht=>?_) ?_⟩
   ·simp only;rw [getD_setE,if_neg (fun e=>ht e.1.symm)]
   ·refine ⟨g.p0,g.p1,?_,fun e=>absurd e ho,?_⟩
    ·simp only;rw [getD_setE,if_pos ⟨rfl,by rw [h.b];exact hk⟩]
     have:=g.b
     simp;simp at this;omega
    ·simp only;rw [getD_setE,if_pos ⟨rfl,by rw [h.b];exact hk⟩]
     intro p hp
     rcases List.mem_append.1 hp with hp | hp
     ·exact g.pend p hp
     ·simp only [List.mem_singleton] at hp
      subst hp
      exact hc.2.2.2.1 (by omega)
 split at hs
 ·split at hs
  ·cases hs
  ·split at hs
   ·cases hs;exact ⟨rfl,by omega,by omega,same _ rfl rfl (by simp) (by simp)⟩
   ·cases hs;exact ⟨rfl,by omega,by omega,same _ rfl rfl rfl (by simp)⟩
 split at hs
 ·split at hs
  ·cases hs
  ·cases hs;exact ⟨rfl,by omega,by omega,same _ rfl rfl rfl rfl⟩
 split at hs
 ·cases hs;exact ⟨rfl,by omega,by omega,same _ rfl rfl rfl (by simp)⟩
 split at hs
 ·cases hs;exact ⟨rfl,by omega,by omega,same _ rfl rfl rfl (by simp)⟩
 split at hs
 ·have:=hc.2.2.2.2.2 (by omega)
  cases hs;exact ⟨rfl,by omega,by omega,same _ rfl rfl rfl rfl⟩
 ·cases hs;exact ⟨rfl,by omega,by omega,same _ rfl rfl rfl rfl⟩
theorem turn_wf {L:Lt} {o:Int} {N:Nat} {s:LS} (hL:checkB L=true) (h:WfS L o N s) (t:Tn):WfS L o (N+1) (turnS L o s t).1:=by
 unfold turnS
 split
 ·next ht =>
  have hk:t.thr.toNat<L.thr.length:=by omega
  split
  ·exact out_wf h hk _
  ·split
   ·exact h.mono (Nat.le_succ _)
   ·next hp =>
    have g:=h.thr _ hk
    have hpl:(s.places.getD t.thr.toNat 0).toNat<(L.thr.getD t.thr.toNat []).length:=by have:=g.p0;have:=g.p1;omega
    have hc:=(fits_at hL hk).2 _ (show (L.thr.getD t.thr.toNat []).getD (s.places.getD t.thr.toNat 0).toNat in0∈_ by rw [List.getD_eq_getElem?_getD (l:=L.thr.getD t.thr.toNat []),List.getElem?_eq_getElem hpl];exact List.getElem_mem hpl)
    split
    ·exact h.mono (Nat.le_succ _)
    ·next s' f hs =>
     obtain ⟨e1,f1,f2,hw⟩:=step_wf h hk hc hs
     refine ⟨hw.w,hw.r,by simpa using hw.p,hw.b,fun u hu=>?_⟩
     have gu:=hw.thr u hu
     have gk:=hw.thr _ hk
     refine ⟨?_,?_,gu.b,gu.sc,gu.pend⟩
     ·simp only;rw [getD_setE]
      have h1:=gk.p0;have h2:=gk.p1;have h3:=gu.p0
      split
      ·split <;> omega
      ·exact h3
     ·simp only;rw [getD_setE]
      have h2:=gu.p1
      split
      ·next e =>
       rw [← e.1]
       split <;> omega
      ·exact h2
 ·exact h.mono (Nat.le_succ _)
end Go.Proofs.Ytmcpdafmkkjlcaa.Z
namespace Go.Proofs.Ytmcpdafmkkjlcaa.Z
open Go Go.RowKit
def one1' (v:Value):List Value:=[v]
def nest0:Value:=.slice none 0 0
def Nest {α:Type} (w:World) (enc:α→List Value) (s:Nat) (v:Value) (ls:List (List α)):Prop :=
 ∃ vs:List Value,Arr w one1' 1 v vs∧vs.length=ls.length∧∀ k,k<ls.length→Arr w enc s (vs.getD k nest0) (ls.getD k [])
def nestF (i n:Nat) (low:Nat:=0):ArrF:=⟨n,1,fun k=>[.xv (i,k,0)],low⟩
theorem nestF_len (i n low:Nat):(nestF i n low).len=n:=rfl
theorem nestF_size (i n low:Nat):(nestF i n low).size=1:=rfl
theorem nestF_at (i n low k:Nat):(nestF i n low).at_ k=[.xv (i,k,0)]:=rfl
theorem arrAt_keep {E:Env} {w w' : World} {x:Nm} {A:ArrF} (h:ArrAt E w x A) (hk:∀ n,n<w.heap.size→w'.heap[n]? = w.heap[n]?):ArrAt E w' x A:=by
 obtain ⟨ba,cap,h1,h2,h3,h4⟩:=h
 refine ⟨ba,cap,h1,h2,h3,h4.imp id ?_⟩
 rintro ⟨b,off,g1,g2,g3⟩
 refine ⟨b,off,g1,g2,fun k hk'=>⟨(g3 k hk').1,fun j u hu=>⟨?_,((g3 k hk').2 j u hu).2⟩⟩⟩
 have hu:=((g3 k hk').2 j u hu).1
 have hb:b<w.heap.size:=by
  unfold World.cell? at hu
  cases he:w.heap[b]? with
  | none=>simp [he] at hu
  | some o=>exact (Array.getElem?_eq_some_iff.1 he).1
 unfold World.cell? at hu ⊢
 simp only at hu ⊢
 rw [hk _ hb]
 exact hu
def EL (vals:List (Nat→Value)):Env:=⟨fun _=>0,fun _=>0,fun _=>false,fun x=>(vals.getD x.1 fun _=>nest0) x.2.1⟩
def AgV (vals:List (Nat→Value)) (E:Env):Prop:=∀ i k l,i<vals.length→E.χ (i,k,l)=(vals.getD i fun _=>nest0) k
def Reads (w:World) (vals:List (Nat→Value)) (arrs:List (Nat×Fm ArrF)):Prop:=∀ E,AgV vals E→∀ x A,atN arrs x=some A→ArrAt E w x A
def OnesV:List (Nat→Value)→Prop
 | []=>True
 | f :: l=>(∀ k,(f k).oneCell' = true)∧OnesV l
theorem onesV_at {vals:List (Nat→Value)} (h:OnesV vals):∀ i k,((vals.getD i fun _=>nest0) k).oneCell' = true:=by
 induction vals with
 | nil=>intro i k;rfl
 | cons f l ih =>
  intro i k
  cases i with
  | zero=>exact h.1 k
  | succ i=>simpa using ih h.2 i k
theorem rd_nil {w:World} {vals:List (Nat→Value)}:Reads w vals []:=fun E hE x A h=>(atN_nil h).elim
theorem rd_one {α:Type} {w:World} {vals:List (Nat→Value)} {r:List (Nat×Fm ArrF)} {enc:α→List Value} {s:Nat} {xs:List α} {v:Value} (i:Nat) (d:α) (T:EncT enc s) (h:Arr w enc s v xs) (hi:i<vals.length) (hv:(vals.getD i fun _=>nest0) 0=v) (hr:Reads w vals r):Reads w vals ((i,.one (arrOf enc s xs d)) :: r):=by
 intro E hE x A hA
 rcases atN_one hA with ⟨rfl,rfl⟩ | hA
 ·exact arrAt_of T (by rw [hE i 0 0 hi,hv];exact h)
 ·exact hr E hE x A hA
theorem atN_fam {α:Type} {i n:Nat} {f:Nat→α} {r:List (Nat×Fm α)} {x:Nm} {A:α} (h:atN ((i,.fam n f) :: r) x=some A):(∃ k,k<n∧x=(i,k,0)∧A=f k)∨atN r x=some A:=by
 obtain ⟨a,b,c⟩:=x
 simp only [atN,look_cons] at h ⊢
 by_cases e:i=a
 ·subst e
  rw [if_pos rfl] at h
  simp only [Fm.get] at h
  split at h
  ·next e=>obtain ⟨e1,rfl⟩:=e;cases h;exact Or.inl ⟨b,e1,rfl,rfl⟩
  ·cases h
 ·rw [if_neg e] at h
  exact Or.inr h
theorem rd_nest {α:Type} {w:World} {vals:List (Nat→Value)} {r:List (Nat×Fm ArrF)} {enc:α→List Value} {s:Nat} {ls:List (List α)} {v:Value} {vs:List Value} (j i:Nat) (d:α) (T:EncT enc s) (h:Arr w one1' 1 v vs) (hl:vs.length=ls.length) (hk:∀ k,k<ls.length→Arr w enc s (vs.getD k nest0) (ls.getD k []))
  (hj:j<vals.length) (hi:i<vals.length) (hv:(vals.getD j fun _=>nest0) 0=v) (hvs:∀ k,(vals.getD i fun _=>nest0) k=vs.getD k nest0) (hr:Reads w vals r):Reads w vals ((j,.one (nestF i ls.length)) :: (i,.fam ls.length fun k=>arrOf enc s (ls.getD k []) d) :: r):=by
 intro E hE x A hA
 rcases atN_one hA with ⟨rfl,rfl⟩ | hA
 ·obtain ⟨ba,cap,h1,h2,h3,h4⟩:=h
  refine ⟨ba,cap,by rw [hE j 0 0 hj,hv,h1,hl];rfl,by rw [← hl] at *;exact h2,h3,?_⟩
  rcases h4 with h4 | ⟨b,off,g1,g2⟩
  ·left;rw [h4] at hl;exact hl.symm
  ·right
   refine ⟨b,off,g1,Nat.zero_le _,fun k hk'=>⟨rfl,fun q u hu=>?_⟩⟩
   have hk' : k<ls.length:=hk'
   have hq:q=0∧u = .xv (i,k,0):=by
    simp only [nestF] at hu
    cases q with
    | zero=>simp at hu;exact ⟨rfl,hu.symm⟩
    | succ q=>simp at hu
   obtain ⟨rfl,rfl⟩:=hq
   have e:(SC.xv (i,k,0)).den E=vs.getD k nest0:=by simp only [SC.den];rw [hE i k 0 hi,hvs]
   rw [e]
   refine ⟨?_,arr_one (hk k hk')⟩
   exact g2 k (vs.getD k nest0) (by rw [List.getD_eq_getElem?_getD,List.getElem?_eq_getElem (by omega)];rfl) 0 _ rfl
 rcases atN_fam hA with ⟨k,hkn,rfl,rfl⟩ | hA
 ·exact arrAt_of T (by rw [hE i k 0 hi,hvs];exact hk k hkn)
 ·exact hr E hE x A hA
theorem enterL {P:Program} {A:List Nat} {f nt:Nat} {fn:Func} {x:Code} {c:IR} {w:World} {rs:List RS} {R:Ending→World→Prop} (vals:List (Nat→Value)) (hone:OnesV vals) {arrs:List (Nat×Fm ArrF)} (hr:Reads w vals arrs) (sc:List SV) (args:Array Value)
  (hf:P.funcs[f]? = some fn) (hb:fn.body=some x) (hc:compC (mkTab P A) x=some c.strip) (hrs:compR (mkTab P A).T fn.results.toList=some rs) (hn:fn.ntmps=nt)
  (hargs:∀ E',AgV vals E'→(sc.map (SV.den E')).toArray=args) (hnt:sc.length≤nt)
  (hex:exec (mkC P A w rs R) 1000 [.code c] ⟨nt,enumT 0 sc,[],arrs,[],vals.length⟩):Calls P f args w R:=by
 have hag:∀ E' : Env,AgreeD (· < vals.length) (EL vals) E'→AgV vals E':=fun E' hE' i k l hi=>(hE' (i,k,l) hi).2.2.2
 exact calls_sym (c:=c) (C:=mkC P A w rs R) 1000 sc (EL vals) [] arrs [] vals.length nt args (mkTab_ok _ _) hf hb hc hrs hn rfl rfl (fun x=>onesV_at hone x.1 x.2.1) (fun E' hE'=>hargs E' (hag E' hE')) hnt
  (fun E' hE'=>inOk_arrs fun w' hw' x A' hA=>arrAt_keep (hr E' (hag E' hE') x A' hA) hw') hex
theorem nest_at {C:Ctx} {E:Env} {S:St} {a:Act} {w:World} (hs:Sat C.B C.W C.w0 E S a w) {α:Type} {enc:α→List Value} {s:Nat} {ls:List (List α)} {d:α} {lw:Nat} {lv:Nat→Nat} (j:Nm) (i:Nat) (hj:atN S.arrs j=some (nestF i ls.length lw)) (hi:∀ k,k<ls.length→atN S.arrs (i,k,0)=some (arrOf enc s (ls.getD k []) d (lv k))):Nest w enc s (E.χ j) ls:=by
 refine ⟨(List.range ls.length).map fun k=>E.χ (i,k,0),?_,by simp,fun k hk=>?_⟩
 ·obtain ⟨ba,cap,h1,h2,h3,h4⟩:=hs.arr hj
  refine ⟨ba,cap,by rw [h1];simp [nestF],by simpa [nestF] using h2,h3,?_⟩
  rcases h4 with h4 | ⟨b,off,g1,_,g2⟩
  ·left
   simp only [nestF] at h4
   simp [h4]
  ·right
   refine ⟨b,off,g1,fun k x hx q u hu=>?_⟩
   have hk:k<ls.length:=by
    have:=(List.getElem?_eq_some_iff.1 hx).1
    simpa using this
   simp [hk] at hx
   subst hx
   cases q with
   | zero =>
    simp only [one1',List.getElem?_cons_zero,Option.some.injEq] at hu
    subst hu
    have:=((g2 k hk).2 0 (.xv (i,k,0)) rfl).1
    simpa [SC.den,nestF] using this
   | succ q=>simp [one1'] at hu
 ·have:((List.range ls.length).map fun k=>E.χ (i,k,0)).getD k nest0=E.χ (i,k,0):=by simp [List.getD_eq_getElem?_getD,hk]
  rw [this]
  exact arr_of (d:=d) (hs.arr (hi k hk))
theorem arr_ownX {C:Ctx} {E:Env} {S:St} {a:Act} {w:World} (hs:Sat C.B C.W C.w0 E S a w) {α:Type} {ty s:Nat} {enc:α→List Value} {ys:List α} {d:α} (x:Nm) (k n:Nat) (at_:Nat→List SC) (hat:atN S.own x=some (.ar k s at_ ty)) (hn:n=ys.length) (hk:ys.length≤k)
  (ha:∀ e,e<ys.length→at_ e=ats enc ys d e):Arr w enc s ((SC.sl x s 0 n none).den E) ys:=by
 subst hn
 obtain ⟨H,hH,_⟩:=hs.mem
 rcases ar_heap hH hat with ⟨h1,h2,h3,_⟩ | ⟨h1,h2,h3,cells,h4,h5,h6,h7⟩
 ·have h0:ys=[]:=List.eq_nil_of_length_eq_zero (by omega)
  subst h0
  exact ⟨if E.ν x=true then none else some ⟨E.ρ x,0,none⟩,0,by simp [SC.den,h2],Nat.le_refl _,by simp [maxLen],Or.inl rfl⟩
 ·refine ⟨some ⟨E.ρ x,0,none⟩,E.κ x,by simp [SC.den,h1],by omega,h3,Or.inr ⟨_,_,rfl,fun e y hy j u hu=>?_⟩⟩
  rw [cell_of_row w _ _ _ ty (0,0) h5,Nat.zero_add]
  have he:e<ys.length:=(List.getElem?_eq_some_iff.1 hy).1
  have:=((h7 e (by omega)).2 j (.v u) (by
   rw [ha e he]
   have:ys.getD e d=y:=by rw [List.getD_eq_getElem?_getD,hy];rfl
   simp only [ats,this,List.getElem?_map,hu];rfl)).1
  rw [den_v] at this
  exact this
theorem nest_own {C:Ctx} {E:Env} {S:St} {a:Act} {w:World} (hs:Sat C.B C.W C.w0 E S a w) {α:Type} {enc:α→List Value} {s ty ty2:Nat} {ls:List (List α)} {d:α} (j:Nm) (i n:Nat) (hn:n=ls.length) (at_:Nat→List SC) (hj:atN S.own j=some (.ar n 1 at_ ty)) (ha:∀ k,k<n→at_ k=[.sl (i,k,0) s 0 (ls.getD k []).length none])
  (hi:∀ k,k<ls.length→atN S.own (i,k,0)=some (.ar (ls.getD k []).length s (ats enc (ls.getD k []) d) ty2)):Nest w enc s ((SC.sl j 1 0 n none).den E) ls:=by
 subst hn
 refine ⟨(List.range ls.length).map fun k=>(SC.sl (i,k,0) s 0 (ls.getD k []).length none).den E,?_,by simp,fun k hk=>?_⟩
 ·obtain ⟨H,hH,_⟩:=hs.mem
  rcases ar_heap hH hj with ⟨h1,h2,h3,_⟩ | ⟨h1,h2,h3,cells,h4,h5,h6,h7⟩
  ·have h0:ls=[]:=List.eq_nil_of_length_eq_zero h3
   subst h0
   exact ⟨if E.ν j=true then none else some ⟨E.ρ j,0,none⟩,0,by simp [SC.den,h2],Nat.le_refl _,by simp [maxLen],Or.inl rfl⟩
  ·refine ⟨some ⟨E.ρ j,0,none⟩,E.κ j,by simp [SC.den,h1],by simpa using h2.1,h3,Or.inr ⟨_,_,rfl,fun e y hy q u hu=>?_⟩⟩
   rw [cell_of_row w _ _ _ ty (0,0) h5,Nat.zero_add]
   have he:e<ls.length:=by
    have:=(List.getElem?_eq_some_iff.1 hy).1
    simpa using this
   simp [he] at hy
   subst hy
   cases q with
   | zero =>
    simp only [one1',List.getElem?_cons_zero,Option.some.injEq] at hu
    subst hu
    exact ((h7 e he).2 0 _ (by rw [ha e he];simp [he])).1
   | succ q=>simp [one1'] at hu
 ·have:((List.range ls.length).map fun k=>(SC.sl (i,k,0) s 0 (ls.getD k []).length none).den E).getD k nest0=(SC.sl (i,k,0) s 0 (ls.getD k []).length none).den E:=by rw [List.getD_eq_getElem?_getD,List.getElem?_map,List.getElem?_range hk];rfl
  rw [this]
  exact arr_ownX (d:=d) hs (i,k,0) _ _ _ (hi k hk) rfl (Nat.le_refl _) fun _ _=>rfl
end Go.Proofs.Ytmcpdafmkkjlcaa.Z
