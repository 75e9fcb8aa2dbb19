/- DequeSwapsSaid: what its proof is made of. No condition. -/
import Derived.Test.YtcloeignccpljaaRows
import Derived.WalkKit
import Derived.WalkSpells
import Derived.Lib.Hide
import Derived.WalkLawsBesides
import Derived.ProofKit
import Derived.OpenShut
import Derived.JoinedCond
import Derived.BigQuiet
import Derived.Deep.QuietTactic
import Derived.Deep.LoopGhost
import Derived.Orders
import Derived.Deep.AppendSrc
import Derived.Deep.DeepAppendWide
import Derived.ChangeKeysEq
import Derived.IntWalk
import Derived.Deep.Cut
import Derived.Lib.SliceRun
import Derived.RangeFuncRecord
import Derived.SizedLaws
import Derived.JoinedTies
set_option linter.unusedSimpArgs false
set_option linter.unusedVariables false
namespace Go.Proofs.Ytcloeignccpljaa
open Go.RowKit
theorem flat_len {α:Type} {enc:α→List Value} {s:Nat} (hs:∀ x,(enc x).length=s) (xs:List α):(xs.flatMap enc).length=xs.length * s:=by
 induction xs with
 | nil=>simp
 | cons x r ih=>simp only [List.flatMap_cons,List.length_append,hs,ih,List.length_cons,Nat.add_mul,Nat.one_mul];omega
theorem flat_get {α:Type} {enc:α→List Value} {s:Nat} (hs:∀ x,(enc x).length=s) (xs:List α) (k j:Nat) (x:α) (hk:xs[k]? = some x) (hj:j<s) :
  (xs.flatMap enc)[k * s+j]? = (enc x)[j]?:=by
 induction xs generalizing k with
 | nil=>simp at hk
 | cons y r ih =>
  cases k with
  | zero =>
   simp only [List.getElem?_cons_zero,Option.some.injEq] at hk
   subst hk
   simp only [List.flatMap_cons,Nat.zero_mul,Nat.zero_add]
   rw [List.getElem?_append_left (by rw [hs];exact hj)]
  | succ k =>
   simp only [List.getElem?_cons_succ] at hk
   simp only [List.flatMap_cons]
   rw [List.getElem?_append_right (by rw [hs,Nat.add_mul];omega)]
   rw [show (k+1) * s+j - (enc y).length=k * s+j by rw [hs,Nat.add_mul];omega]
   exact ih k hk
def Arr {α:Type} (w:World) (enc:α→List Value) (s:Nat) (v:Value) (xs:List α):Prop :=
 ∃ ba cap,v = .slice ba xs.length cap∧xs.length≤cap∧cap≤maxLen ∧
  (xs=[]∨∃ b off,ba=some ⟨b,off,none⟩∧∀ k x,xs[k]? = some x→∀ j u,(enc x)[j]? = some u→w.cell? ⟨b,off+k * s+j,none⟩=some u)
def eI (x:Int):List Value:=[.int .i64 x]
theorem Arr.nil {α:Type} (w:World) (enc:α→List Value) (s:Nat):Arr w enc s (.slice none 0 0) [] :=
 ⟨none,0,rfl,Nat.le_refl _,by unfold maxLen;omega,Or.inl rfl⟩
theorem Arr.keep {α:Type} {w w' : World} {enc:α→List Value} {s:Nat} {v:Value} {xs:List α} (h:Arr w enc s v xs) (hk:∀ a u,w.cell? a=some u→w'.cell? a=some u):Arr w' enc s v xs:=by
 obtain ⟨ba,cap,hv,hl,hm,h0⟩:=h
 refine ⟨ba,cap,hv,hl,hm,?_⟩
 rcases h0 with h0 | ⟨b,off,hb,hc⟩
 ·exact Or.inl h0
 ·exact Or.inr ⟨b,off,hb,fun k x hx j u hu=>hk _ _ (hc k x hx j u hu)⟩
theorem keeps_below {w w' : World} (hb:Below w.heap.size w w'):∀ a u,w.cell? a=some u→w'.cell? a=some u :=
 fun a _ h=>(hb.cell (World.block_lt_of_cell? w a h)).trans h
theorem Arr.below {α:Type} {w w' : World} {enc:α→List Value} {s:Nat} {v:Value} {xs:List α} (h:Arr w enc s v xs) (hb:Below w.heap.size w w'):Arr w' enc s v xs :=
 h.keep (keeps_below hb)
theorem Arr.len {α:Type} {w:World} {enc:α→List Value} {s:Nat} {v:Value} {xs:List α} (h:Arr w enc s v xs):xs.length≤9223372036854775807:=by
 obtain ⟨_,cap,_,h1,h2,_⟩:=h
 unfold maxLen at h2;omega
theorem Arr.own {α:Type} {w:World} {base:Nat} {e:TypeId} {enc:α→List Value} {s:Nat} (hs:∀ x,(enc x).length=s) {v:Value} {xs:List α} (h:w.ownsRow base e s v xs.length (xs.flatMap enc)):Arr w enc s v xs:=by
 obtain ⟨_,h | ⟨g,cap,cur,rfl,_,hg,hn,hm,hc,ht⟩⟩:=h
 ·obtain ⟨rfl,h0⟩:=h
  have:xs=[]:=List.eq_nil_of_length_eq_zero h0
  subst this
  exact Arr.nil _ _ _
 ·refine ⟨_,cap,rfl,hn,hm,Or.inr ⟨g,0,rfl,fun k x hx j u hu=>?_⟩⟩
  have hj:j<s:=by rw [← hs x];exact (List.getElem?_eq_some_iff.1 hu).1
  rw [Nat.zero_add,cell_of_row w g (k * s+j) cur e (0,0) hg]
  have h1:(xs.flatMap enc)[k * s+j]? = some u:=by rw [flat_get hs xs k j x hx hj];exact hu
  rw [← ht,List.getElem?_take] at h1
  split at h1
  ·simpa using h1
  ·cases h1
theorem Arr.cells {α:Type} {w:World} {enc:α→List Value} {s:Nat} (hs:∀ x,(enc x).length=s) (h0:0<s) {b off n cap:Nat} {xs:List α}
  (h:Arr w enc s (.slice (some ⟨b,off,none⟩) n cap) xs):∀ j u,(xs.flatMap enc)[j]? = some u→w.cell? ((⟨b,off,none⟩:Addr).add j)=some u:=by
 intro j u hu
 obtain ⟨ba,cap',hv,_,_,h1⟩:=h
 cases hv
 have hadd:(⟨b,off,none⟩:Addr).add j=⟨b,off+j,none⟩:=by unfold Addr.add;split <;> simp_all
 rcases h1 with h1 | ⟨b',off',hb,hc⟩
 ·subst h1;simp at hu
 ·cases hb
  have hlt:j<xs.length * s:=by rw [← flat_len hs];exact (List.getElem?_eq_some_iff.1 hu).1
  have hk:j / s<xs.length:=Nat.div_lt_of_lt_mul (by rw [Nat.mul_comm];exact hlt)
  have hm:j % s<s:=Nat.mod_lt _ h0
  have e:j / s * s+j % s=j:=by rw [Nat.mul_comm];exact Nat.div_add_mod j s
  have hx:xs[j / s]? = some xs[j / s]:=List.getElem?_eq_getElem hk
  have:=flat_get hs xs (j / s) (j % s) _ hx hm
  rw [e] at this
  have h2:=hc (j / s) _ hx (j % s) u (by rw [← this];exact hu)
  rw [hadd]
  rw [show off+j / s * s+j % s=off+j by omega] at h2
  exact h2
theorem Arr.at1 {w:World} {v:Value} {xs:List Int} (h:Arr w eI 1 v xs):∃ ba cap,v = .slice ba xs.length cap∧xs.length≤cap∧cap≤9223372036854775807 ∧
  ∀ k x,xs[k]? = some x→∃ b off,ba=some ⟨b,off,none⟩∧b<w.heap.size∧w.cell? ⟨b,off+k,none⟩=some (.int .i64 x):=by
 obtain ⟨ba,cap,hv,hl,hm,hc⟩:=h
 refine ⟨ba,cap,hv,hl,hm,fun k x hx=>?_⟩
 rcases hc with h | ⟨b,off,hb,hc⟩
 ·subst h;simp at hx
 ·have:=hc k x hx 0 (.int .i64 x) rfl
  rw [Nat.mul_one,Nat.add_zero] at this
  exact ⟨b,off,hb,World.block_lt_of_cell? w _ this,this⟩
theorem below_box (w:World) (o:Obj):Below w.heap.size w (w.alloc o):=(Below.refl _ _).alloc (Nat.le_refl _) _
theorem below_from {w w' : World} {o:Obj} (h:Below (w.heap.size+1) (w.alloc o) w'):Below w.heap.size w w' :=
 (below_box w o).trans (h.mono (by omega))
def incB:List Int→Bool
 | x :: y :: r=>decide (x<y) && incB (y :: r)
 | _=>true
theorem incB_iff (xs:List Int):incB xs=true↔∀ i x y,xs[i]? = some x→xs[i+1]? = some y→x<y:=by
 induction xs with
 | nil=>simp [incB]
 | cons a r ih =>
  cases r with
  | nil=>simp [incB]
  | cons b r =>
   simp only [incB,Bool.and_eq_true,decide_eq_true_eq,ih]
   constructor
   ·rintro ⟨h1,h2⟩ i x y hx hy
    cases i with
    | zero=>simp at hx hy;omega
    | succ i=>exact h2 i x y (by simpa using hx) (by simpa using hy)
   ·intro h
    exact ⟨h 0 a b rfl rfl,fun i x y hx hy=>h (i+1) x y (by simpa using hx) (by simpa using hy)⟩
def IncTo (xs:List Int) (k:Nat):Prop:=∀ i x y,i+1<k→xs[i]? = some x→xs[i+1]? = some y→x<y
theorem IncTo.step {xs:List Int} {k:Nat} {x y:Int} (h:IncTo xs k) (hk:1≤k) (hx:xs[k - 1]? = some x) (hy:xs[k]? = some y) (hxy:x<y):IncTo xs (k+1):=by
 intro i a b hi ha hb
 by_cases e:i+1<k
 ·exact h i a b e ha hb
 ·have:i=k - 1:=by omega
  subst this
  rw [show k - 1+1=k by omega,hy] at hb
  rw [hx] at ha
  cases ha;cases hb;exact hxy
theorem IncTo.all {xs:List Int} {k:Nat} (h:IncTo xs k) (hk:xs.length≤k):incB xs=true:=by
 rw [incB_iff]
 intro i x y hx hy
 exact h i x y (by have:=(List.getElem?_eq_some_iff.1 hy).1;omega) hx hy
structure ElemT (P:Program) (t e:TypeId) (size bytes:Nat):Prop where
 ht:P.underlying t=some (.slice e)
 ex:∃ i z,P.info? e=some i∧i.zero=some z∧i.size=size∧i.bytes=bytes∧z.cells.size=size
 pos:0<size
structure EncT {α:Type} (enc:α→List Value) (size:Nat):Prop where
 len:∀ x,(enc x).length=size
 one:∀ x,∀ u∈enc x,u.oneCell' = true
theorem run_append_full {P:Program} {w:World} {t e:TypeId} {size bytes:Nat} (T:ElemT P t e size bytes) (ty:TypeId) {α:Type} {enc:α→List Value} (E:EncT enc size)
  {ba:Option Addr} {n:Nat} {ys xs:List α} (hd:Arr w enc size (.slice ba n n) ys) {v2:Value} (hx:Arr w enc size v2 xs)
  (hbytes:(n+xs.length) * bytes≤140737488355328) (h63:n+xs.length≤maxLen) :
  ∃ v' w',(Builtin.append_ #[t,t] ty #[.slice ba n n,v2]).run P w = .ok v' w'∧Below w.heap.size w w' ∧
   ((xs=[]∧v' = .slice ba n n∧w' = w)∨(xs≠[]∧w'.ownsRow w.heap.size e size v' (n+xs.length) ((ys++xs).flatMap enc))):=by
 obtain ⟨i,z,hi,hz,hsz,hby,hzs⟩:=T.ex
 have ht:=T.ht
 subst hsz
 subst hby
 have hd0:=hd
 obtain ⟨ba',cap',hv,hl,hm,hc⟩:=hd
 simp only [Value.slice.injEq] at hv
 obtain ⟨rfl,hn,rfl⟩:=hv
 have hx0:=hx
 obtain ⟨bx,cx,rfl,hlx,hmx,hcx⟩:=hx
 by_cases he:xs=[]
 ·subst he
  refine ⟨.slice ba n n,w,?_,Below.refl _ _,Or.inl ⟨rfl,rfl,rfl⟩⟩
  rcases bx with _ | bx <;> rcases ba with _ | ba <;>
   simp [Builtin.append_,run_underlying ht,sizeOf,typeInfo,hi,Builtin.lenOf,Builtin.firstCells,loadCells,loadCellsFrom,storeCells]
 ·rcases hcx with h | ⟨b,off,rfl,hcx⟩
  ·exact absurd h he
  have hpos:0<xs.length:=by cases xs with | nil=>exact absurd rfl he | cons _ _=>simp
  have hnews:=Arr.cells E.len T.pos hx0
  have h1:∀ u∈xs.flatMap enc,u.oneCell' = true:=fun u hu=>by obtain ⟨x,_,h⟩:=List.mem_flatMap.1 hu;exact E.one x u h
  have hg63:n+xs.length≤9223372036854775807:=by unfold maxLen at h63;omega
  have hlen:((ys++xs).flatMap enc).length=(n+xs.length) * i.size:=by rw [flat_len E.len,List.length_append,hn]
  have fin:∀ (old:Nat),old<n+xs.length →
    (w.drew.alloc (.cells ((ys.flatMap enc).toArray++(xs.flatMap enc).toArray++Builtin.zeroCells z.cells (grownCap w (n+xs.length) old e - (n+xs.length))) e)).ownsRow w.heap.size e i.size
     (.slice (some ⟨w.heap.size,0,none⟩) (n+xs.length) (grownCap w (n+xs.length) old e)) (n+xs.length) ((ys++xs).flatMap enc) ∧
    Below w.heap.size w (w.drew.alloc (.cells ((ys.flatMap enc).toArray++(xs.flatMap enc).toArray++Builtin.zeroCells z.cells (grownCap w (n+xs.length) old e - (n+xs.length))) e)):=by
   intro old ho
   have hge:=grownCap_ge w (n+xs.length) old e
   have hcm:grownCap w (n+xs.length) old e≤maxLen:=grownCap_le_maxLen w (n+xs.length) old e h63
   refine ⟨⟨hlen,.inr ⟨w.heap.size,_,_,rfl,Nat.le_refl _,heap_alloc_new w.drew _,hge,hcm,?_,?_⟩⟩,((Below.refl _ _).drew).alloc (Nat.le_refl _) _⟩
   ·simp only [Array.size_append,List.size_toArray,size_zeroCells,hzs,flat_len E.len,← Nat.add_mul]
    rw [← hn]
    congr 1
    omega
   ·simp only [Array.toList_append]
    rw [← List.flatMap_append,← hlen]
    exact List.take_left
  rcases ba with _ | ⟨b0,o0,sp⟩
  ·have hys:ys=[]:=by
    rcases hc with h | ⟨_,_,h,_⟩
    ·exact h
    ·cases h
   subst hys
   simp only [List.length_nil] at hn
   subst hn
   have hr:=run_append_nil (P:=P) w t ty e i z ht hi hz ⟨b,off,none⟩ xs.length cx (xs.flatMap enc) (flat_len E.len xs) hnews hpos (by omega) (by simp only [Nat.zero_add] at hbytes;omega)
   have hf:=fin 0 (by omega)
   simp only [Nat.zero_add,List.nil_append,List.flatMap_nil,Array.empty_append] at hf hr ⊢
   exact ⟨_,_,hr,hf.2,Or.inr ⟨he,hf.1⟩⟩
  ·have holds:∀ j u,(ys.flatMap enc)[j]? = some u→w.cell? ((⟨b0,o0,sp⟩:Addr).add j)=some u:=by
    rcases hc with h | ⟨b',o',h,_⟩
    ·subst h;intro j u hu;simp at hu
    ·simp only [Option.some.injEq,Addr.mk.injEq] at h
     obtain ⟨rfl,rfl,rfl⟩:=h
     exact Arr.cells E.len T.pos hd0
   have hr:=run_append_grow (P:=P) w t ty e i z ht hi hz ⟨b0,o0,sp⟩ n n (ys.flatMap enc) (by rw [flat_len E.len,hn]) holds ⟨b,off,none⟩ xs.length cx (xs.flatMap enc) (flat_len E.len xs) hnews (by omega) (by omega) (growslice_fits (by omega) hbytes)
   have hf:=fin n (by omega)
   exact ⟨_,_,hr,hf.2,Or.inr ⟨he,hf.1⟩⟩
theorem wp_append_full {P:Program} {w:World} {o:Oper} {a:Act} {K:Act→World→Prop} {Q:Exit→Act→World→Prop} (s x:Operand) {t e:TypeId} {size bytes:Nat}
  (ho:o.op = .call { callee:=.builtin .append,args:=#[s,x],argTypes:=#[t,t] }) (T:ElemT P t e size bytes)
  {α:Type} {enc:α→List Value} (E:EncT enc size) {ba:Option Addr} {n:Nat} {ys xs:List α} (hs:a.eval s = .slice ba n n) (hd:Arr w enc size (.slice ba n n) ys)
  {v2:Value} (hx:a.eval x=v2) (hxs:Arr w enc size v2 xs)
  (hbytes:(n+xs.length) * bytes≤140737488355328) (h63:n+xs.length≤maxLen)
  (h:∀ v' w',Below w.heap.size w w'→((xs=[]∧v' = .slice ba n n∧w' = w)∨(xs≠[]∧w'.ownsRow w.heap.size e size v' (n+xs.length) ((ys++xs).flatMap enc)))→K (a.put o.dst v') w'):o.wp P a w K Q:=by
 obtain ⟨v',w',hr,h2,h3⟩:=run_append_full (w:=w) T o.type E hd hxs hbytes h63
 unfold Oper.wp execOp
 simp only [ho,resolve,invoke,builtin,Sem.run_bind,Sem.run_pure,Result.andThen_ok,List.map_toArray,List.map_cons,List.map_nil,hs,hx,hr]
 exact h v' w' h2 h3
def OwnE {α:Type} (w:World) (base:Nat) (e:TypeId) (enc:α→List Value) (size:Nat) (v:Value) (xs:List α):Prop :=
 (xs=[]∧∃ ba,v = .slice ba 0 0)∨w.ownsRow base e size v xs.length (xs.flatMap enc)
theorem arr_empty {α:Type} (w:World) (enc:α→List Value) (s:Nat) (ba:Option Addr):Arr w enc s (.slice ba 0 0) ([]:List α) :=
 ⟨ba,0,rfl,Nat.le_refl _,by unfold maxLen;omega,Or.inl rfl⟩
theorem OwnE.arr {α:Type} {w:World} {base:Nat} {e:TypeId} {enc:α→List Value} {size:Nat} (E:EncT enc size) {v:Value} {xs:List α} (h:OwnE w base e enc size v xs):Arr w enc size v xs:=by
 rcases h with ⟨rfl,ba,rfl⟩ | h
 ·exact arr_empty _ _ _ _
 ·exact Arr.own E.len h
theorem OwnE.form {α:Type} {w:World} {base:Nat} {e:TypeId} {enc:α→List Value} {size:Nat} {v:Value} {xs:List α} (h:OwnE w base e enc size v xs):∃ ba cap,v = .slice ba xs.length cap:=by
 rcases h with ⟨rfl,ba,rfl⟩ | ⟨_,⟨rfl,h⟩ | ⟨g,cap,_,rfl,_⟩⟩
 ·exact ⟨_,_,rfl⟩
 ·rw [h];exact ⟨_,_,rfl⟩
 ·exact ⟨_,_,rfl⟩
theorem OwnE.ext {α:Type} {w w' : World} {base:Nat} {e:TypeId} {enc:α→List Value} {size:Nat} {v:Value} {xs:List α} (h:OwnE w base e enc size v xs) (hb:Below w.heap.size w w'):OwnE w' base e enc size v xs:=by
 rcases h with h | ⟨h1,h⟩
 ·exact Or.inl h
 ·refine Or.inr ⟨h1,?_⟩
  rcases h with h | ⟨g,cap,cur,r1,r2,r3,r4⟩
  ·exact Or.inl h
  ·exact Or.inr ⟨g,cap,cur,r1,r2,(hb.block g (Array.getElem?_eq_some_iff.1 r3).1).trans r3,r4⟩
theorem OwnE.base {α:Type} {w:World} {base base' : Nat} {e:TypeId} {enc:α→List Value} {size:Nat} {v:Value} {xs:List α} (h:OwnE w base e enc size v xs) (hb:base'≤base):OwnE w base' e enc size v xs:=by
 rcases h with h | ⟨h1,h⟩
 ·exact Or.inl h
 ·refine Or.inr ⟨h1,?_⟩
  rcases h with h | ⟨g,cap,cur,r1,r2,r3⟩
  ·exact Or.inl h
  ·exact Or.inr ⟨g,cap,cur,r1,Nat.le_trans hb r2,r3⟩
theorem OwnE.keep {α:Type} {w w' : World} {base:Nat} {e:TypeId} {enc:α→List Value} {size:Nat} {v:Value} {xs:List α} {g:Nat} (h:OwnE w base e enc size v xs) (hg:w.grownBy w' (some g)) (hlt:g<base):OwnE w' base e enc size v xs:=by
 rcases h with h | h
 ·exact Or.inl h
 ·refine Or.inr (h.kept hg ?_)
  cases hv:v.ownBlock with
  | none=>exact Or.inl rfl
  | some k =>
   have:=(h.lt k hv).1
   right
   intro e
   have e:=Option.some.inj e
   omega
section
variable {H:Type} {enc:TypeId×Value→H} {P:Program}
theorem trodAll_below (hl:laidOutB P=true) {W W' : World} (hb:Below W.heap.size W W'):∀ (ts:List TypeId) (vs:List Value) (ds:List (DataW H)) (ps:List MemPlace),
  (∀ t∈ts,P.readableRec t=true∧t<P.types.size)→DataW.TrodAll enc P W 0 (fun _=>true) true ts vs ds ps→(∀ x∈ps,x.block<W.heap.size) →
  DataW.TrodAll enc P W' 0 (fun b=>decide (b<W.heap.size)) true ts vs ds ps:=by
 intro ts
 induction ts with
 | nil =>
  intro vs ds ps _ h _
  cases vs <;> cases ds <;> simp_all [DataW.TrodAll]
 | cons t ts ih =>
  intro vs ds ps hr h hlt
  cases vs with
  | nil=>simp [DataW.TrodAll] at h
  | cons v vs =>
   cases ds with
   | nil=>simp [DataW.TrodAll] at h
   | cons d ds =>
    obtain ⟨p,q,h1,h2,rfl⟩:=h
    refine ⟨p,q,?_,?_,rfl⟩
    ·exact Below.trod hl (hr t (by simp)).1 (hr t (by simp)).2 h1 hb (fun x hx=>hlt x (by simp [hx]))
    ·exact ih vs ds q (fun t ht=>hr t (by simp [ht])) h2 (fun x hx=>hlt x (by simp [hx]))
theorem post_of_below {f:Func} {s:ChangeSpec} {apart:Bool} {W W' : World} {args:Array Value} {ds gs:List (DataW H)} {before:List MemPlace} {tb:TypeId}
  (hl:laidOutB P=true) (hs:s.vars=[]) (hpar:∀ t∈f.params.toList,P.readableRec t=true∧t<P.types.size) (hres:f.resultTypes = #[tb]) (htb:P.underlying tb=some .bool)
  (hW:DataW.Whole enc P f.params.toList s.vars apart W args.toList ds gs before)
  (hfn:s.fn H ds={ results:=[.lit (.bool true)],args:=ds }) (hb:Below W.heap.size W W'):s.post enc P f apart true false false W args (.bool true) W':=by
 have hW':=hW
 obtain ⟨p,q,hA,hV,rfl,hfz,hnd⟩:=hW
 rw [hs] at hV
 obtain ⟨rfl,rfl⟩:=ChangeShapes.trodVars_none hV
 have hlt:∀ x∈p,x.block<W.heap.size:=fun x hx=>hW'.lt x (by simp [hx])
 refine ⟨ds,[],p++[],[],p,[],hW',?_,?_,?_,hb.frame _,fun h=>by cases h⟩
 ·rw [List.append_nil,hfn,hres]
  exact ChangeShapes.trodAll_mk1 (RowKit.shut_bool htb true)
 ·rw [List.append_nil,hfn]
  exact trodAll_below hl hb _ _ _ _ hpar hA hlt
 ·rw [List.append_nil,hfn,hs]
  exact rfl
end
end Go.Proofs.Ytcloeignccpljaa
namespace Go.Proofs.Ytcloeignccpljaa.Z
open Go Go.RowKit
abbrev Nm:=Nat×Nat×Nat
inductive SC where
 | v (x:Value)
 | bo (e:Bool)
 | xv (x:Nm)
 | ptr (x:Nm) (off:Nat)
 | sl (x:Nm) (s o n:Nat) (c:Option Nat)
 | pe (x:Nm) (s e j:Nat)
 | xs (x:Nm) (s o n:Nat) (c:Option Nat)
 | ep (x:Nm) (s e j:Nat)
 | mp (x:Nm)
 | ifc (t:Nat) (c:SC)
 | fn (f:Fn) (l r:List SC)
structure Env where
 ρ:Nm→Nat
 κ:Nm→Nat
 ν:Nm→Bool
 χ:Nm→Value
mutual
def SC.den (E:Env):SC→Value
 | .v x=>x
 | .bo e=>.bool e
 | .xv x=>E.χ x
 | .ptr x off=>.pointer (some ⟨E.ρ x,off,none⟩)
 | .sl x s o n c=>.slice (if E.ν x then none else some ⟨E.ρ x,o * s,none⟩) n (c.getD (E.κ x - o))
 | .pe x s e j=>.pointer (some ⟨E.ρ x,e * s+j,none⟩)
 | .xs x s o n c=>match E.χ x with
  | .slice (some a) _ cap=>.slice (some (a.add (o * s))) n (c.getD (cap - o))
  | .slice none _ cap=>.slice none n (c.getD (cap - o))
  | y=>y
 | .ep x s e j=>match E.χ x with
  | .slice (some a) _ _=>.pointer (some ⟨a.block,a.off+e * s+j,none⟩)
  | _=>.pointer none
 | .mp x=>.map (some (E.ρ x))
 | .ifc t c=>.iface t (SC.den E c)
 | .fn f l r=>.func f (SC.denL E l).toArray (SC.denL E r).toArray
def SC.denL (E:Env):List SC→List Value
 | []=>[]
 | c :: r=>SC.den E c :: SC.denL E r
end
inductive SV where
 | c (x:SC)
 | agg (l:List SC)
 | tup (l:List (Bool×List SC))
 | gd (g:Nat) (want:Bool) (e:Bool) (v:SV)
def den1 (E:Env):Bool×List SC→Value
 | (true,l)=>.agg (l.map (SC.den E)).toArray
 | (false,x :: _)=>x.den E
 | (false,[])=>undef
def SV.den (E:Env):SV→Value
 | .c x=>x.den E
 | .agg l=>.agg (l.map (SC.den E)).toArray
 | .tup l=>.tuple (l.map (den1 E)).toArray
 | .gd _ _ e v=>if e=true then v.den E else undef
inductive Fm (α:Type) where
 | one (a:α)
 | fam (n:Nat) (f:Nat→α)
 | fam2 (n:Nat) (m:Nat→Nat) (f:Nat→Nat→α)
def Fm.get {α:Type}:Fm α→Nat×Nat→Option α
 | .one a,(k,l)=>if k=0∧l=0 then some a else none
 | .fam n f,(k,l)=>if k<n∧l=0 then some (f k) else none
 | .fam2 n m f,(k,l)=>if k<n∧l<m k then some (f k l) else none
def Fm.pk {α:Type}:Fm α→Nat×Nat→Prop×α
 | .one a,(k,l)=>(k=0∧l=0,a)
 | .fam n f,(k,l)=>(k<n∧l=0,f k)
 | .fam2 n m f,(k,l)=>(k<n∧l<m k,f k l)
def Fm.set {α:Type}:Fm α→Nat×Nat→α→Fm α
 | .one _,_,b=>.one b
 | .fam n f,(k,_),b=>.fam n fun x=>if x=k then b else f x
 | .fam2 n m f,(k,l),b=>.fam2 n m fun x y=>if x=k∧y=l then b else f x y
def look {α:Type}:List (Nat×α)→Nat→Option α
 | [],_=>none
 | (k,v) :: l,t=>if k=t then some v else look l t
def setL {α:Type}:List (Nat×α)→Nat→α→List (Nat×α)
 | [],t,v=>[(t,v)]
 | (k,u) :: l,t,v=>if k=t then (k,v) :: l else (k,u) :: setL l t v
def mergeL {α:Type}:List (Nat×α)→List (Nat×α)→List (Nat×α)
 | [],l=>l
 | (k,v) :: r,l=>setL (mergeL r l) k v
def memB:List Nat→Nat→Bool
 | [],_=>false
 | a :: l,k=>if a=k then true else memB l k
def dropL {α:Type} (ks:List Nat):List (Nat×α)→List (Nat×α)
 | []=>[]
 | (k,v) :: l=>if memB ks k=true then dropL ks l else (k,v) :: dropL ks l
def atN {α:Type} (l:List (Nat×Fm α)) (x:Nm):Option α:=match look l x.1 with
 | some F=>F.get x.2
 | none=>none
def pkN {α:Type} (l:List (Nat×Fm α)) (x:Nm):Option (Prop×α):=match look l x.1 with
 | some F=>some (F.pk x.2)
 | none=>none
def setN {α:Type} (l:List (Nat×Fm α)) (x:Nm) (b:α):List (Nat×Fm α):=match look l x.1 with
 | some F=>[(x.1,F.set x.2 b)]
 | none=>[]
abbrev PH:=Nat→Option Obj
def emp:PH:=fun _=>none
def sing (b:Nat) (o:Obj):PH:=fun n=>if n=b then some o else none
inductive KK where
 | int (k:IntKind)
 | arr (n:Nat) (k:IntKind)
 deriving DecidableEq
def KK.len:KK→Nat
 | .int _=>1
 | .arr n _=>n
def KK.enc:KK→List Int→Value
 | .int k,[n]=>.int k n
 | .int _,_=>.bool true
 | .arr _ k,l=>.agg (l.map (Value.int k)).toArray
inductive Blk where
 | no
 | bk (cs:List SC) (ty:Nat)
 | ar (n s:Nat) (at_:Nat→List SC) (ty:Nat)
 | mp (kk:KK) (kd:IntKind) (f:List Int→Option Int)
 | mpe (kk:KK) (kd:IntKind) (f:List Int→Option Int) (a:List Int) (y:Nm)
 | wm (kk:KK) (kd:IntKind) (g:List Int→Int)
 | pr (φ:Env→PH→Prop)
structure MEnt where
 key:List Int
 val:Int
 born:Nat
def MEnt.den (kk:KK) (kd:IntKind) (e:MEnt):MapEntry:=⟨kk.enc e.key,.int kd e.val,e.born⟩
def fnd (a:List Int):List MEnt→Nat→Option (Nat×Int)
 | [],_=>none
 | e :: r,i=>if e.key=a then some (i,e.val) else fnd a r (i+1)
def MapOk (kk:KK) (kd:IntKind) (f:List Int→Option Int) (es:Array MapEntry) (clock:Nat):Prop :=
 ∃ L:List MEnt,es=(L.map (MEnt.den kk kd)).toArray∧(∀ e∈L,e.key.length=kk.len∧e.born<clock)∧(L.map (·.key)).Nodup∧(∀ a,a.length=kk.len→f a=(fnd a L 0).map (·.2))∧(L.map (·.born)).Nodup
def Blk.den (E:Env) (x:Nm):Blk→PH→Prop
 | .no,h=>h=emp
 | .bk cs ty,h=>h=sing (E.ρ x) (.cells (cs.map (SC.den E)).toArray ty (0,0))
 | .ar n s at_ ty,h=>(True∧E.κ x=0∧n=0∧h=emp) ∨
   (E.ν x=false∧(n≤E.κ x∧0<E.κ x)∧E.κ x≤maxLen∧∃ cells:Array Value,h=sing (E.ρ x) (.cells cells ty (0,0))∧cells.size=E.κ x * s ∧
    ∀ e,e<n→(at_ e).length=s∧∀ j u,(at_ e)[j]? = some u→cells[e * s+j]? = some (u.den E)∧(u.den E).oneCell' = true)
 | .mp kk kd f,h=>∃ es clock,h=sing (E.ρ x) (.map es clock)∧MapOk kk kd f es clock
 | .mpe kk kd f a y,h=>∃ es clock,h=sing (E.ρ x) (.map es clock)∧MapOk kk kd (fun q=>if q=a then some ((f a).getD 0) else f q) es clock∧∃ (i:Nat) (e:MapEntry),es[i]? = some e∧e.key=kk.enc a∧E.χ y = .int .i64 e.born
 | .wm kk kd g,h=>∃ es clock,h=sing (E.ρ x) (.map es clock)∧∃ f,MapOk kk kd f es clock∧∀ a,a.length=kk.len→(f a).getD 0=g a
 | .pr φ,h=>φ E h
abbrev Own:=List (Nat×Fm Blk)
structure ArrF where
 len:Nat
 size:Nat
 at_:Nat→List SC
 low:Nat
structure St where
 nt:Nat
 tmps:List (Nat×SV)
 own:Own
 arrs:List (Nat×Fm ArrF)
 facts:List (Env→World→Prop)
 nid:Nat
def ArrAt (E:Env) (w:World) (x:Nm) (A:ArrF):Prop :=
 ∃ ba cap,E.χ x = .slice ba A.len cap∧A.len≤cap∧cap≤maxLen ∧
  (A.len=0∨∃ b off,ba=some ⟨b,off,none⟩∧A.low≤b∧∀ k,k<A.len→(A.at_ k).length=A.size∧∀ j u,(A.at_ k)[j]? = some u→w.cell? ⟨b,off+k * A.size+j,none⟩=some (u.den E)∧(u.den E).oneCell' = true)
def Holds (E:Env) (S:St) (w:World):Prop :=
 (∀ x A,atN S.arrs x=some A→ArrAt E w x A)∧∀ φ∈S.facts,φ E w
structure HeapOk (B:Nat) (W:Nat→Prop) (E:Env) (own:Own) (H:Nm→PH) (w:World):Prop where
 den:∀ x b,atN own x=some b→b.den E x (H x)
 disj:∀ x y b c,atN own x=some b→atN own y=some c→x≠y→∀ n,H x n=none∨H y n=none
 sub:∀ x b,atN own x=some b→∀ n o,H x n=some o→w.heap[n]? = some o∧(B≤n∨W n)
def Free (own:Own) (H:Nm→PH) (n:Nat):Prop:=∀ x b,atN own x=some b→H x n=none
structure Frame0 (B:Nat) (W:Nat→Prop) (w0 w:World):Prop where
 os:w.os=w0.os
 tape:w.tape=w0.tape
 output:w.output=w0.output
 size:B≤w.heap.size
 keep:∀ n,n<B→¬ W n→w.heap[n]? = w0.heap[n]?
structure Sat (B:Nat) (W:Nat→Prop) (w0:World) (E:Env) (S:St) (a:Act) (w:World):Prop where
 size:a.tmps.size=S.nt
 defers:a.defers=[]
 one:∀ x,(E.χ x).oneCell' = true
 tmps:∀ t v,look S.tmps t=some v→t<S.nt∧a.tmps.getD t undef=v.den E
 frame:Frame0 B W w0 w
 mem:∃ H,HeapOk B W E S.own H w∧∀ w',(∀ n,n<w.heap.size→Free S.own H n→w'.heap[n]? = w.heap[n]?)→Holds E S w'
def Same (E E' : Env) (x:Nm):Prop:=E'.ρ x=E.ρ x∧E'.κ x=E.κ x∧E'.ν x=E.ν x∧E'.χ x=E.χ x
def OneC (E:Env):Prop:=∀ x,(E.χ x).oneCell' = true
def AgreeD (D:Nat→Prop) (E E' : Env):Prop:=∀ x:Nm,D x.1→Same E E' x
def SatD (D:Nat→Prop) (B:Nat) (W:Nat→Prop) (w0:World) (E:Env) (S:St) (a:Act) (w:World):Prop:=∀ E',AgreeD D E E'→OneC E'→Sat B W w0 E' S a w
def SatA (B:Nat) (W:Nat→Prop) (w0:World) (E:Env) (S:St) (a:Act) (w:World):Prop:=OneC E∧SatD (· < S.nid) B W w0 E S a w
structure EffOk (E:Env) (own:Own) (H:Nm→PH) (w w' : World) (eff:Own):Prop where
 os:w'.os=w.os
 tape:w'.tape=w.tape
 output:w'.output=w.output
 size:w.heap.size≤w'.heap.size
 keep:∀ n,n<w.heap.size→(∀ x b,(look eff x.1).isSome=true→atN own x=some b→H x n=none)→w'.heap[n]? = w.heap[n]?
 new:∃ H' : Nm→PH,(∀ x b,atN eff x=some b→b.den E x (H' x))∧(∀ x y b c,atN eff x=some b→atN eff y=some c→x≠y→∀ n,H' x n=none∨H' y n=none) ∧
  ∀ x b,atN eff x=some b→∀ n o,H' x n=some o→w'.heap[n]? = some o∧(w.heap.size≤n∨∃ y c,(look eff y.1).isSome=true∧atN own y=some c∧H y n≠none)
def Fits (B:Nat) (W:Nat→Prop) (E:Env) (S:St) (w w' : World) (eff:Own) (arrs' : List (Nat×Fm ArrF)):Prop :=
 (∀ H,HeapOk B W E S.own H w→EffOk E S.own H w w' eff)∧∀ w'',Holds E S w''→∀ x A,atN arrs' x=some A→ArrAt E w'' x A
def NewIds (n nx i:Nat):Prop:=n≤i∧i<n+nx
structure EffG (E:Env) (own:Own) (H:Nm→PH) (w w' : World) (eff:Own) (G:Nat→Prop):Prop where
 os:w'.os=w.os
 tape:w'.tape=w.tape
 output:w'.output=w.output
 size:w.heap.size≤w'.heap.size
 keep:∀ n,n<w.heap.size→(∀ x b,(look eff x.1).isSome=true→atN own x=some b→H x n=none)→w'.heap[n]? = w.heap[n]?
 new:∃ H' : Nm→PH,(∀ x b,atN eff x=some b→b.den E x (H' x))∧(∀ x y b c,atN eff x=some b→atN eff y=some c→x≠y→∀ n,H' x n=none∨H' y n=none) ∧
  ∀ x b,atN eff x=some b→∀ n o,H' x n=some o→w'.heap[n]? = some o∧((w.heap.size≤n∧¬ G n)∨∃ y c,(look eff y.1).isSome=true∧atN own y=some c∧H y n≠none)
def FitsG (B:Nat) (W:Nat→Prop) (E:Env) (S:St) (w w' : World) (eff:Own) (arrs' : List (Nat×Fm ArrF)):Prop :=
 ∃ G:Nat→Prop,(∀ n,G n→w.heap.size≤n∧n<w'.heap.size)∧(∀ H,HeapOk B W E S.own H w→EffG E S.own H w w' eff G) ∧
  ∀ w'',Holds E S w''→(∀ n,G n→w''.heap[n]? = w'.heap[n]?)→∀ x A,atN arrs' x=some A→ArrAt E w'' x A
theorem Fits.G {B:Nat} {W:Nat→Prop} {E:Env} {S:St} {w w' : World} {eff:Own} {arrs' : List (Nat×Fm ArrF)} (h:Fits B W E S w w' eff arrs'):FitsG B W E S w w' eff arrs':=by
 refine ⟨fun _=>False,fun n h=>h.elim,fun H hH=>?_,fun w'' h1 _=>h.2 w'' h1⟩
 have he:=h.1 H hH
 obtain ⟨H',h1,h2,h3⟩:=he.new
 exact ⟨he.os,he.tape,he.output,he.size,he.keep,H',h1,h2,fun x b hb n o hn=>⟨(h3 x b hb n o hn).1,(h3 x b hb n o hn).2.imp (fun h=>⟨h,fun h=>h⟩) id⟩⟩
def After (B:Nat) (W:Nat→Prop) (w0:World) (E:Env) (ks:List Nat) (S:St) (a:Act) (w:World) (tmpl:SV) (nx:Nat) (eff:Own) (arrs' : List (Nat×Fm ArrF)) (v:Value) (w' : World):Prop :=
 ∃ N:Env,OneC N∧∀ E2,Sat B W w0 E2 S a w→AgreeD (·∈ks) E E2→AgreeD (NewIds S.nid nx) N E2→v=tmpl.den E2∧FitsG B W E2 S w w' eff arrs'
inductive IX where
 | t (n:Nat)
 | k (v:SV)
inductive IOp where
 | mv (x:IX)
 | pick (c a b:IX)
 | new (t:Nat) (z:List SC)
 | newA (t:Nat) (n s:Nat) (z:List SC)
 | box (t:Nat) (x:IX)
 | build (z:List SC) (parts:List (Nat×Nat×IX))
 | mkSl (t:Nat) (len size:Nat) (z:List SC) (parts:List (Nat×Nat×IX))
 | ld (agg:Bool) (n:Nat) (x:IX)
 | st (n:Nat) (a v:IX)
 | nilck (x:IX)
 | bin (op:BinOp) (x y:IX)
 | sh (left:Bool) (x y:IX)
 | eqb (neg:Bool) (x y:IX)
 | eqs (neg:Bool) (x y:IX)
 | eqa (neg:Bool) (ks:List Bool) (x y:IX)
 | eqn (kd:Nat) (neg:Bool) (x y:IX)
 | un (op:UnOp) (x:IX)
 | conv (k:IntKind) (x:IX)
 | fa (off:Nat) (x:IX)
 | fld (agg:Bool) (off n:Nat) (x:IX)
 | ia (size:Nat) (x i:IX)
 | iar (len size:Nat) (x i:IX)
 | idx (agg:Bool) (len size:Nat) (x i:IX)
 | ext (i:Nat) (x:IX)
 | len (x:IX)
 | app (t size bytes:Nat) (z:List SC) (s x:IX)
 | cpy (size:Nat) (d s:IX)
 | mks (t size bytes:Nat) (z:List SC) (len cap:IX)
 | slc (size:Nat) (x:IX) (lo hi mx:Option IX)
 | sla (len:Nat) (x:IX)
 | mm (max:Bool) (x y:IX)
 | mif (t:Nat) (x:IX)
 | mfn (f:Fn) (l r:List IX)
 | mkm (kk:KK) (kd:IntKind)
 | lkp (kk:KK) (kd:IntKind) (ok:Bool) (m k:IX)
 | mup (kk:KK) (kd:IntKind) (m k v:IX)
 | ent (kk:KK) (kd:IntKind) (m k:IX)
 | ests (kk:KK) (kd:IntKind) (m s v:IX)
 | xmk (t:Nat)
 | xlk (t:Nat) (ok:Bool) (m k:IX)
 | xup (t:Nat) (m k v:IX)
 | call (f:Nat) (args:List IX)
 | callv (x:IX) (args:List IX)
 | calli (name:String) (x:IX) (args:List IX)
structure IO1 where
 dst:Option Nat
 op:IOp
 guard:Option (Nat×Bool)
structure Out where
 val:SV
 eff:Own
 arrs:List (Nat×Fm ArrF)
 cnt:Nat
inductive Res where
 | ok (vc:Prop) (out:Out)
 | two (c:Prop) (vc:Prop) (out:Out) (vc' : Prop) (out' : Out)
 | bad
def Res.Sel:Res→Prop→Out→Prop
 | .ok p o,vc,out=>vc=p∧out=o
 | .two c p o p' o',vc,out=>(c∧vc=p∧out=o)∨(¬ c∧vc=p'∧out=o')
 | .bad,_,_=>False
def St.ev (S:St):IX→Option SV
 | .t n=>look S.tmps n
 | .k v=>some v
def evs (S:St):List IX→Option (List SV)
 | []=>some []
 | x :: r=>match S.ev x,evs S r with
  | some v,some vs=>some (v :: vs)
  | _,_=>none
def evC (S:St):List IX→Option (List SC)
 | []=>some []
 | x :: r=>match S.ev x,evC S r with
  | some (.c v),some vs=>some (v :: vs)
  | _,_=>none
def SC.one:SC→Bool
 | .v x=>x.oneCell'
 | _=>true
def drop' {α:Type}:Nat→List α→List α
 | 0,l=>l
 | _+1,[]=>[]
 | n+1,_ :: l=>drop' n l
def take' {α:Type}:Nat→List α→List α
 | 0,_=>[]
 | _+1,[]=>[]
 | n+1,a :: l=>a :: take' n l
def nth {α:Type}:List α→Nat→Option α
 | [],_=>none
 | a :: _,0=>some a
 | _ :: l,n+1=>nth l n
def len' {α:Type}:List α→Nat
 | []=>0
 | _ :: l=>len' l+1
def allOne:List SC→Bool
 | []=>true
 | c :: r=>c.one && allOne r
def SV.cells:SV→Option (List SC)
 | .c x=>if x.one then some [x] else none
 | .agg l=>if allOne l then some l else none
 | .tup _=>none
 | .gd _ _ _ _=>none
def put (l:List SC) (off:Nat) (cs:List SC):List SC:=take' off l++cs++drop' (off+len' cs) l
def fillP (S:St):List (Nat×Nat×IX)→List SC→Option (List SC)
 | [],z=>some z
 | (off,size,x) :: r,z=>match S.ev x with
  | some v=>match v.cells with
   | some cs=>if len' cs=size∧off+size≤len' z then fillP S r (put z off cs) else none
   | none=>none
  | none=>none
def pureO (v:SV):Out:=⟨v,[],[],0⟩
def endO (S:St) (size:Nat):Out:=⟨.c (.xv (S.nid,0,0)),[],[(S.nid,.one ⟨0,size,fun _=>[],0⟩)],1⟩
def pure1 (v:SV):Res:=.ok True (pureO v)
def shI (left:Bool) (k:IntKind) (a b:Int):Int:=if left then k.wrap (a * 2 ^ min b.toNat k.bits) else a.fdiv (2 ^ min b.toNat k.bits)
def binI (op:BinOp) (k:IntKind) (a b:Int):Res :=
 match op with
 | .add=>pure1 (.c (.v (.int k (k.wrap (a+b)))))
 | .sub=>pure1 (.c (.v (.int k (k.wrap (a - b)))))
 | .mul=>pure1 (.c (.v (.int k (k.wrap (a * b)))))
 | .quo=>.ok (b≠0) (pureO (.c (.v (.int k (k.wrap (a.tdiv b))))))
 | .rem=>.ok (b≠0) (pureO (.c (.v (.int k (a.tmod b)))))
 | .and=>pure1 (.c (.v (.int k (bits .and k a b))))
 | .or=>pure1 (.c (.v (.int k (bits .or k a b))))
 | .xor=>pure1 (.c (.v (.int k (bits .xor k a b))))
 | .andNot=>pure1 (.c (.v (.int k (bits .andNot k a b))))
 | .eql=>pure1 (.c (.bo (a == b)))
 | .neq=>pure1 (.c (.bo (a != b)))
 | .lss=>pure1 (.c (.bo (decide (a<b))))
 | .leq=>pure1 (.c (.bo (decide (a≤b))))
 | .gtr=>pure1 (.c (.bo (decide (a>b))))
 | .geq=>pure1 (.c (.bo (decide (a≥b))))
 | _=>.bad
def SC.bool? : SC→Option Bool
 | .v (.bool b)=>some b
 | .bo e=>some e
 | _=>none
def eqCells:List Bool→List SC→List SC→Option Bool
 | [],[],[]=>some true
 | true :: ks,.v (.int k a) :: r,.v (.int k' b) :: r'=>if k=k' then (eqCells ks r r').map ((a == b) && ·) else none
 | false :: ks,c :: r,c' :: r'=>match c.bool?,c'.bool? with
  | some a,some b=>(eqCells ks r r').map ((a == b) && ·)
  | _,_=>none
 | _,_,_=>none
def neg? (neg b:Bool):Bool:=if neg then !b else b
def SC.nil? : Nat→SC→Option Bool
 | 0,.v (.pointer none)=>some true
 | 0,.ptr _ _=>some false
 | 0,.pe _ _ _ _=>some false
 | 1,.v (.slice none _ _)=>some true
 | 2,.v (.map none)=>some true
 | 2,.mp _=>some false
 | 3,.v .nilFunc=>some true
 | 3,.fn _ _ _=>some false
 | 4,.v .nilIface=>some true
 | 4,.ifc _ _=>some false
 | _,_=>none
def intsOf (k:IntKind):List SC→Option (List Int)
 | []=>some []
 | .v (.int k' n) :: r=>if k' = k then (intsOf k r).map (n :: ·) else none
 | _=>none
def keyOf:KK→SV→Option (List Int)
 | .int k,.c (.v (.int k' n))=>if k' = k then some [n] else none
 | .arr _ k,.agg l=>intsOf k l
 | _,_=>none
def segs (s:Nat) (cs:List SC) (e:Nat):List SC:=take' s (drop' (e * s) cs)
def rowC:Nat→Nat→(Nat→List SC)→List SC
 | 0,_,_=>[]
 | n+1,k,f=>f k++rowC n (k+1) f
theorem rowC_get:∀ (n k:Nat) (f:Nat→List SC),(∀ e,e<n→(f (k+e)).length=1)→(rowC n k f).length=n∧∀ j,j<n→(rowC n k f)[j]? = (f (k+j))[0]?
 | 0,k,f,_=>⟨rfl,fun j hj=>by omega⟩
 | n+1,k,f,h=>by
  obtain ⟨h1,h2⟩:=rowC_get n (k+1) f fun e he=>by have:=h (e+1) (by omega);rwa [show k+(e+1)=k+1+e by omega] at this
  have h0:=h 0 (by omega)
  rw [Nat.add_zero] at h0
  refine ⟨by simp only [rowC,List.length_append,h0,h1];omega,fun j hj=>?_⟩
  cases j with
  | zero =>
   simp only [rowC,Nat.add_zero]
   rw [List.getElem?_append_left (by omega)]
  | succ j =>
   simp only [rowC]
   rw [List.getElem?_append_right (by omega),h0,Nat.add_sub_cancel,h2 j (by omega),show k+1+j=k+(j+1) by omega]
def SV.int? : SV→Option Int
 | .c (.v (.int _ n))=>some n
 | _=>none
def slSrc (S:St) (s:Nat):SV→Option (Prop×Nat×(Nat→List SC))
 | .c (.v (.slice none 0 0))=>some (True,0,fun _=>[])
 | .c (.sl x s' o n _)=>match pkN S.own x with
  | some (p,.ar m s'' at_ _)=>some (p∧s' = s∧s'' = s∧o+n≤m,n,fun e=>at_ (o+e))
  | _=>none
 | .c (.xv x)=>match pkN S.arrs x with
  | some (p,A)=>some (p∧A.size=s,A.len,A.at_)
  | _=>none
 | .c (.xs x s' o n _)=>match pkN S.arrs x with
  | some (p,A)=>some (p∧s' = s∧A.size=s∧o+n≤A.len,n,fun e=>A.at_ (o+e))
  | _=>none
 | _=>none
def appAt (n:Nat) (f g:Nat→List SC) (e:Nat):List SC:=if e<n then f e else g (e - n)
def cpyAt (o n:Nat) (f g:Nat→List SC) (e:Nat):List SC:=if o≤e∧e<o+n then g (e - o) else f e
def setAt (k:Nat) (f:Nat→List SC) (x:List SC) (e:Nat):List SC:=if e=k then x else f e
def slB (S:St) (lo hi:Option IX) (n:Nat):Option (Int×Int) :=
 match (match lo with
  | none=>some (0:Int)
  | some x=>(S.ev x).bind SV.int?),(match hi with
  | none=>some (n:Int)
  | some x=>(S.ev x).bind SV.int?) with
 | some l,some h=>some (l,h)
 | _,_=>none
def slM (S:St):Option IX→Option (Option Int)
 | none=>some none
 | some x=>match (S.ev x).bind SV.int? with
  | some m=>some (some m)
  | none=>none
def gB (want b:Bool):Bool:=if want=true then b else !b
def chain (tmps:List (Nat×SV)):Nat→Nat→Bool→List (Nat×Bool×Bool)
 | 0,_,_=>[]
 | n+1,g,want=>match look tmps g with
  | some (.c (.bo b))=>[(g,want,gB want b)]
  | some (.gd g' w' e' (.c (.bo b)))=>(g,want,e' && gB want b) :: chain tmps n g' w'
  | _=>[]
def chainP (tmps:List (Nat×SV)):Nat→Nat→Bool→Prop
 | 0,_,_=>True
 | n+1,g,want=>match look tmps g with
  | some (.gd g' w' e' (.c (.bo b)))=>(match chain tmps n g' w' with
   | (_,_,e'') :: _=>e' = e''
   | []=>False)∧chainP tmps n g' w'
  | _=>True
def inCh:List (Nat×Bool×Bool)→Nat→Bool→Option Bool
 | [],_,_=>none
 | (g,w,e) :: l,g',w'=>if g=g'∧w=w' then some e else inCh l g' w'
def resV (ch:List (Nat×Bool×Bool)) (tmps:List (Nat×SV)):SV→Prop×SV
 | .gd g w e v=>match inCh ch g w with
  | some e0=>(e=e0,v)
  | none=>match look tmps g with
   | some (.gd g' w' e' (.c (.bo b)))=>match inCh ch g' w' with
    | some e0=>(e' = e0∧e=(e' && gB w b),.gd g w (gB w b) v)
    | none=>(True,.gd g w e v)
   | _=>(True,.gd g w e v)
 | v=>(True,v)
def rsvP (ch:List (Nat×Bool×Bool)) (tmps:List (Nat×SV)):List Nat→Prop
 | []=>True
 | t :: l=>match look tmps t with
  | some v=>(resV ch tmps v).1∧rsvP ch tmps l
  | none=>rsvP ch tmps l
def resT (ch:List (Nat×Bool×Bool)) (tmps:List (Nat×SV)):List Nat→List (Nat×SV)
 | []=>tmps
 | t :: l=>match look tmps t with
  | some v=>setL (resT ch tmps l) t (resV ch tmps v).2
  | none=>resT ch tmps l
def slot1:IX→List Nat
 | .t n=>[n]
 | .k _=>[]
def pureSlots:IOp→Option (List Nat)
 | .mv x=>some (slot1 x)
 | .pick c a b=>some (slot1 c++slot1 a++slot1 b)
 | .ld _ _ x=>some (slot1 x)
 | .nilck x=>some (slot1 x)
 | .bin _ x y=>some (slot1 x++slot1 y)
 | .sh _ x y=>some (slot1 x++slot1 y)
 | .eqb _ x y=>some (slot1 x++slot1 y)
 | .eqs _ x y=>some (slot1 x++slot1 y)
 | .eqa _ _ x y=>some (slot1 x++slot1 y)
 | .eqn _ _ x y=>some (slot1 x++slot1 y)
 | .un _ x=>some (slot1 x)
 | .conv _ x=>some (slot1 x)
 | .fa _ x=>some (slot1 x)
 | .fld _ _ _ x=>some (slot1 x)
 | .ia _ x i=>some (slot1 x++slot1 i)
 | .iar _ _ x i=>some (slot1 x++slot1 i)
 | .idx _ _ _ x i=>some (slot1 x++slot1 i)
 | .ext _ x=>some (slot1 x)
 | .len x=>some (slot1 x)
 | .mm _ x y=>some (slot1 x++slot1 y)
 | .lkp _ _ _ m k=>some (slot1 m++slot1 k)
 | _=>none
def St.evW (S:St) (c:IX) (want:Bool) (x:IX):Option (Prop×SV):=match S.ev x with
 | some (.gd g w e v)=>match c with
  | .t n=>if g=n∧w=want then (match look S.tmps n with
   | some (.c (.bo b))=>some (e=gB want b,v)
   | _=>none) else none
  | _=>none
 | some v=>some (True,v)
 | none=>none
def resA1 (g:Nat) (b0 b:Bool):SV→Prop×SV
 | .gd g' w e v=>if g' = g then (e=gB w b0,if w=b then v else .c (.v undef)) else (True,.gd g' w e v)
 | v=>(True,v)
def resAP (g:Nat) (b0 b:Bool):List (Nat×SV)→Prop
 | []=>True
 | (_,v) :: l=>(resA1 g b0 b v).1∧resAP g b0 b l
def resA (g:Nat) (b0 b:Bool):List (Nat×SV)→List (Nat×SV)
 | []=>[]
 | (t,v) :: l=>(t,(resA1 g b0 b v).2) :: resA g b0 b l
def stepOut (op:IOp) (S:St):Res :=
 match op with
 | .mv x=>match S.ev x with
  | some v=>pure1 v
  | none=>.bad
 | .pick c a b=>match S.ev c with
  | some (.c (.v (.bool true)))=>match S.ev a with
   | some v=>pure1 v
   | none=>.bad
  | some (.c (.v (.bool false)))=>match S.ev b with
   | some v=>pure1 v
   | none=>.bad
  | some (.c (.bo e))=>match S.evW c true a,S.evW c false b with
   | some (pa,.c x),some (pb,.c y)=>match x.bool?,y.bool? with
    | some p,some q=>.ok (pa∧pb) (pureO (.c (.bo (if e=true then p else q))))
    | _,_=>.bad
   | _,_=>.bad
  | _=>.bad
 | .new t z=>.ok True ⟨.c (.ptr (S.nid,0,0) 0),[(S.nid,.one (.bk z t))],[],1⟩
 | .newA t n s z=>.ok (allOne z=true∧len' z=s∧n≤maxLen) ⟨.c (.pe (S.nid,0,0) s 0 0),[(S.nid,.one (.ar n s (fun _=>z) t))],[],1⟩
 | .box t x=>match S.ev x with
  | some v=>match v.cells with
   | some cs=>.ok True ⟨.c (.ptr (S.nid,0,0) 0),[(S.nid,.one (.bk cs t))],[],1⟩
   | none=>.bad
  | none=>.bad
 | .build z ps=>match fillP S ps z with
  | some cs=>pure1 (.agg cs)
  | none=>.bad
 | .mkSl t len s z ps=>match fillP S ps z with
  | some cs=>.ok (allOne cs=true∧len' cs=len * s∧len≤maxLen) ⟨.c (.sl (S.nid,0,0) s 0 len none),[(S.nid,.one (.ar len s (segs s cs) t))],[],1⟩
  | none=>.bad
 | .ld agg n x=>match S.ev x with
  | some (.c (.ptr x off))=>match pkN S.own x with
   | some (p,.bk cs _)=>if agg then (if off+n≤len' cs then .ok p (pureO (.agg (take' n (drop' off cs)))) else .bad)
    else match nth cs off with
     | some c=>.ok p (pureO (.c c))
     | none=>.bad
   | _=>.bad
  | some (.c (.pe x s k j))=>match pkN S.own x with
   | some (p,.ar m s' at_ _)=>if agg then (if s=1∧1<n then .ok (p∧s' = s∧s=1∧j=0∧k+n≤m∧0<n) (pureO (.agg (rowC n k at_))) else .ok (p∧k<m∧s' = s∧j+n≤s) (pureO (.agg (take' n (drop' j (at_ k))))))
    else match nth (at_ k) j with
     | some c=>.ok (p∧k<m∧s' = s) (pureO (.c c))
     | none=>.bad
   | _=>.bad
  | some (.c (.ep x s k j))=>match pkN S.arrs x with
   | some (p,A)=>if agg then .ok (p∧k<A.len∧A.size=s∧j+n≤s) (pureO (.agg (take' n (drop' j (A.at_ k)))))
    else match nth (A.at_ k) j with
     | some c=>.ok (p∧k<A.len∧A.size=s) (pureO (.c c))
     | none=>.bad
   | none=>.bad
  | _=>.bad
 | .st n a v=>match S.ev a,S.ev v with
  | some (.c (.ptr x off)),some v=>match pkN S.own x,v.cells with
   | some (p,.bk cs t),some new=>if len' new=n∧off+n≤len' cs then .ok p ⟨.c (.v undef),setN S.own x (.bk (put cs off new) t),[],0⟩ else .bad
   | _,_=>.bad
  | some (.c (.pe x s k j)),some v=>match pkN S.own x,v.cells with
   | some (p,.ar m s' at_ t),some new=>if s=1∧1<n then .ok (p∧s' = s∧s=1∧j=0∧k=0∧len' new=n∧n=m∧0<n) ⟨.c (.v undef),setN S.own x (.ar m s' (segs 1 new) t),[],0⟩
    else .ok (p∧k<m∧s' = s∧len' new=n∧j+n≤s) ⟨.c (.v undef),setN S.own x (.ar m s' (setAt k at_ (put (at_ k) j new)) t),[],0⟩
   | _,_=>.bad
  | _,_=>.bad
 | .nilck x=>match S.ev x with
  | some (.c (.ptr x off))=>pure1 (.c (.ptr x off))
  | some (.c (.pe x s k j))=>pure1 (.c (.pe x s k j))
  | some (.c (.ep x s k j))=>match pkN S.arrs x with
   | some (p,A)=>.ok (p∧k<A.len) (pureO (.c (.ep x s k j)))
   | none=>.bad
  | some (.c (.fn f l r))=>match f with
   | .func _=>pure1 (.c (.fn f l r))
   | _=>.bad
  | _=>.bad
 | .bin op x y=>match S.ev x,S.ev y with
  | some (.c (.v (.int k a))),some (.c (.v (.int k' b)))=>if k=k' then binI op k a b else .bad
  | _,_=>.bad
 | .sh left x y=>match S.ev x,S.ev y with
  | some (.c (.v (.int k a))),some (.c (.v (.int _ b)))=>.ok (0≤b) (pureO (.c (.v (.int k (shI left k a b)))))
  | _,_=>.bad
 | .eqb neg x y=>match S.ev x,S.ev y with
  | some (.c x),some (.c y)=>match x.bool?,y.bool? with
   | some a,some b=>pure1 (.c (.bo (neg? neg (a == b))))
   | _,_=>.bad
  | _,_=>.bad
 | .eqs neg x y=>match S.ev x,S.ev y with
  | some (.c (.v (.string a))),some (.c (.v (.string b)))=>pure1 (.c (.bo (neg? neg (a.toList == b.toList))))
  | _,_=>.bad
 | .eqa neg ks x y=>match S.ev x,S.ev y with
  | some (.agg a),some (.agg b)=>match eqCells ks a b with
   | some r=>pure1 (.c (.bo (neg? neg r)))
   | none=>.bad
  | _,_=>.bad
 | .eqn kd neg x y=>match S.ev x,S.ev y with
  | some (.c x),some (.c y)=>match x.nil? kd,y.nil? kd with
   | some a,some true=>pure1 (.c (.v (.bool (neg? neg a))))
   | some true,some b=>pure1 (.c (.v (.bool (neg? neg b))))
   | _,_=>.bad
  | _,_=>.bad
 | .un op x=>match op,S.ev x with
  | .not,some (.c (.v (.bool b)))=>pure1 (.c (.v (.bool (!b))))
  | .not,some (.c (.bo e))=>pure1 (.c (.bo (!e)))
  | .neg,some (.c (.v (.int k n)))=>pure1 (.c (.v (.int k (k.wrap (0 - n)))))
  | _,_=>.bad
 | .conv k x=>match S.ev x with
  | some (.c (.v (.int _ n)))=>pure1 (.c (.v (.int k (k.wrap n))))
  | _=>.bad
 | .fa off x=>match S.ev x with
  | some (.c (.ptr x o))=>pure1 (.c (.ptr x (o+off)))
  | some (.c (.pe x s k j))=>pure1 (.c (.pe x s k (j+off)))
  | some (.c (.ep x s k j))=>match pkN S.arrs x with
   | some (p,A)=>.ok (p∧k<A.len) (pureO (.c (.ep x s k (j+off))))
   | none=>.bad
  | _=>.bad
 | .fld agg off n x=>match S.ev x with
  | some (.agg cs)=>if agg then (if off+n≤len' cs then pure1 (.agg (take' n (drop' off cs))) else .bad)
   else match nth cs off with
    | some c=>pure1 (.c c)
    | none=>.bad
  | _=>.bad
 | .ia size x i=>match S.ev x,S.ev i with
  | some (.c (.xv x)),some (.c (.v (.int _ z)))=>match pkN S.arrs x with
   | some (p,A)=>.ok (p∧0≤z∧z<A.len) (pureO (.c (.ep x size z.toNat 0)))
   | none=>.bad
  | some (.c (.xs x s o n _)),some (.c (.v (.int _ z)))=>match pkN S.arrs x with
   | some (p,A)=>.ok (p∧s=size∧0≤z∧z<n∧o+n≤A.len) (pureO (.c (.ep x size (o+z.toNat) 0)))
   | none=>.bad
  | some (.c (.sl x s o n _)),some (.c (.v (.int _ z)))=>match pkN S.own x with
   | some (p,.ar m _ _ _)=>.ok (p∧s=size∧0≤z∧z<n∧o+n≤m) (pureO (.c (.pe x size (o+z.toNat) 0)))
   | _=>.bad
  | _,_=>.bad
 | .iar len size x i=>match S.ev x,S.ev i with
  | some (.c (.ptr x off)),some (.c (.v (.int _ z)))=>.ok (0≤z∧z<len) (pureO (.c (.ptr x (off+z.toNat * size))))
  | some (.c (.pe x s 0 0)),some (.c (.v (.int _ z)))=>if s=size then .ok (0≤z∧z<len) (pureO (.c (.pe x s z.toNat 0))) else .ok (0≤z∧z<len) (pureO (.c (.pe x s 0 (z.toNat * size))))
  | some (.c (.pe x s k j)),some (.c (.v (.int _ z)))=>.ok (0≤z∧z<len) (pureO (.c (.pe x s k (j+z.toNat * size))))
  | some (.c (.ep x s k j)),some (.c (.v (.int _ z)))=>match pkN S.arrs x with
   | some (p,A)=>.ok (p∧k<A.len∧0≤z∧z<len) (pureO (.c (.ep x s k (j+z.toNat * size))))
   | none=>.bad
  | _,_=>.bad
 | .idx agg len size x i=>match S.ev x,S.ev i with
  | some (.agg cs),some (.c (.v (.int _ z)))=>if agg then .ok (0≤z∧z<len) (pureO (.agg (take' size (drop' (z.toNat * size) cs))))
   else match nth cs (z.toNat * size) with
    | some c=>.ok (0≤z∧z<len) (pureO (.c c))
    | none=>.bad
  | _,_=>.bad
 | .ext i x=>match S.ev x with
  | some (.tup l)=>match nth l i with
   | some (true,cs)=>pure1 (.agg cs)
   | some (false,c :: _)=>pure1 (.c c)
   | _=>.bad
  | _=>.bad
 | .len x=>match S.ev x with
  | some (.c (.xv x))=>match pkN S.arrs x with
   | some (p,A)=>.ok p (pureO (.c (.v (.int .i64 A.len))))
   | none=>.bad
  | some (.c (.xs x _ _ n _))=>match pkN S.arrs x with
   | some (p,_)=>.ok p (pureO (.c (.v (.int .i64 n))))
   | none=>.bad
  | some (.c (.sl _ _ _ n _))=>pure1 (.c (.v (.int .i64 n)))
  | some (.c (.v (.slice _ n _)))=>pure1 (.c (.v (.int .i64 n)))
  | _=>.bad
 | .app t size bytes z s x=>match S.ev x with
  | some xv=>match slSrc S size xv with
   | some (q,m,g)=>match S.ev s with
    | some (.c (.v (.slice none 0 0)))=>.ok (q∧len' z=size∧0<size∧m * bytes≤281474976710656∧m≤maxLen)
      ⟨.c (.sl (S.nid,0,0) size 0 m none),[(S.nid,.one (.ar m size g t))],[],1⟩
    | some (.c (.sl y s' 0 n none))=>match pkN S.own y with
     | some (p,.ar k s'' f t')=>.ok (p∧q∧s' = size∧s'' = size∧t' = t∧len' z=size∧0<size∧n≤k∧(n+m+(n+m) / 4+192) * bytes≤281474976710656∧n+m≤maxLen)
       ⟨.c (.sl (S.nid,0,0) size 0 (n+m) none),(S.nid,.one (.ar (n+m) size (appAt n f g) t)) :: setN S.own y .no,[],1⟩
     | _=>.bad
    | some (.c (.sl y s' o n (some c)))=>match pkN S.own y with
     | some (p,.ar k s'' f _)=>.ok (p∧q∧s' = size∧s'' = size∧len' z=size∧0<size∧o+n≤k∧c=n∧0<m∧(n+m+(n+m) / 4+192) * bytes≤281474976710656∧n+m≤maxLen)
       ⟨.c (.sl (S.nid,0,0) size 0 (n+m) none),[(S.nid,.one (.ar (n+m) size (appAt n (fun e=>f (o+e)) g) t))],[],1⟩
     | _=>.bad
    | some (.c (.xs y s' o n (some c)))=>match pkN S.arrs y with
     | some (p,A)=>.ok (p∧q∧s' = size∧A.size=size∧len' z=size∧0<size∧o+n≤A.len∧c=n∧0<m∧(n+m+(n+m) / 4+192) * bytes≤281474976710656∧n+m≤maxLen)
       ⟨.c (.sl (S.nid,0,0) size 0 (n+m) none),[(S.nid,.one (.ar (n+m) size (appAt n (fun e=>A.at_ (o+e)) g) t))],[],1⟩
     | _=>.bad
    | _=>.bad
   | none=>.bad
  | none=>.bad
 | .cpy size d x=>match S.ev x with
  | some xv=>match slSrc S size xv with
   | some (q,m,g)=>match S.ev d with
    | some (.c (.sl y s' o n _))=>match pkN S.own y with
     | some (p,.ar k s'' f t)=>.ok (p∧q∧s' = size∧s'' = size∧0<size∧o+n≤k) ⟨.c (.v (.int .i64 (Nat.min m n))),setN S.own y (.ar k s'' (cpyAt o (Nat.min m n) f g) t),[],0⟩
     | _=>.bad
    | _=>.bad
   | none=>.bad
  | none=>.bad
 | .mks t size bytes z l c=>match S.ev l,S.ev c with
  | some (.c (.v (.int _ n))),some (.c (.v (.int _ m)))=>.ok (0≤n∧n≤m∧m * bytes≤140737488355328∧m≤maxLen∧len' z=size∧0<size∧allOne z=true) ⟨.c (.sl (S.nid,0,0) size 0 n.toNat none),[(S.nid,.one (.ar m.toNat size (fun _=>z) t))],[],1⟩
  | _,_=>.bad
 | .slc size x lo hi mx=>match slM S mx with
  | some m=>match S.ev x with
   | some (.c (.sl y s o n c))=>match slB S lo hi n,pkN S.own y with
    | some (l,h),some (p,.ar k s' _ _) =>
     match m with
     | none=>.two (l=n∧h=l∧0<l) (p∧s=size∧s' = size∧o+n≤k∧∀ q,c=some q→n≤q∧q≤maxLen) (endO S size)
       (p∧s=size∧s' = size∧0≤l∧l≤h∧o+h≤k∧(∀ q,c=some q→h≤q∧(0<l→n≤q))∧(l<n∨l=0)∧(0<l→o+n≤k)) (pureO (.c (.sl y s (o+l.toNat) (h.toNat - l.toNat) (c.map (· - l.toNat)))))
     | some m=>.ok (p∧s=size∧s' = size∧0≤l∧l≤h∧h≤m∧o+m≤k∧(∀ q,c=some q→m≤q)∧(l<m∨l=0)) (pureO (.c (.sl y s (o+l.toNat) (h.toNat - l.toNat) (some (m.toNat - l.toNat)))))
    | _,_=>.bad
   | some (.c (.xv y))=>match pkN S.arrs y with
    | some (p,A)=>match slB S lo hi A.len with
     | some (l,h)=>match m with
      | none=>match lo,hi with
       | some _,some _=>.two (l=A.len∧h=l) (p∧A.size=size) (endO S size)
         (p∧A.size=size∧0≤l∧l≤h∧h≤A.len∧(l<A.len∨l=0)) (pureO (.c (.xs y size l.toNat (h.toNat - l.toNat) none)))
       | _,_=>.ok (p∧A.size=size∧0≤l∧l≤h∧h≤A.len∧(l<A.len∨l=0)) (pureO (.c (.xs y size l.toNat (h.toNat - l.toNat) none)))
      | some m=>.ok (p∧A.size=size∧0≤l∧l≤h∧h≤m∧m≤A.len∧(l<m∨l=0)) (pureO (.c (.xs y size l.toNat (h.toNat - l.toNat) (some (m.toNat - l.toNat)))))
     | none=>.bad
    | none=>.bad
   | some (.c (.xs y s o n c))=>match pkN S.arrs y with
    | some (p,A)=>match slB S lo hi n with
     | some (l,h)=>match m with
      | none=>.ok (p∧A.size=size∧s=size∧0≤l∧l≤h∧o+h≤A.len∧(∀ q,c=some q→h≤q)∧(l<h∨l=0)) (pureO (.c (.xs y size (o+l.toNat) (h.toNat - l.toNat) (c.map (· - l.toNat)))))
      | some m=>.ok (p∧A.size=size∧s=size∧0≤l∧l≤h∧h≤m∧m≤n∧o+n≤A.len∧(∀ q,c=some q→n≤q)∧(l<m∨l=0)) (pureO (.c (.xs y size (o+l.toNat) (h.toNat - l.toNat) (some (m.toNat - l.toNat)))))
     | none=>.bad
    | none=>.bad
   | _=>.bad
  | none=>.bad
 | .sla len x=>match S.ev x with
  | some (.c (.pe y s e j))=>match pkN S.own y with
   | some (p,.ar m _ _ _)=>.ok (p∧e<m∧0<len) (pureO (.c (.sl y 1 (e * s+j) len (some len))))
   | _=>.bad
  | some (.c (.ep y s e j))=>match pkN S.arrs y with
   | some (p,A)=>.ok (p∧e<A.len∧0<len) (pureO (.c (.xs y 1 (e * s+j) len (some len))))
   | none=>.bad
  | _=>.bad
 | .mm max x y=>match S.ev x,S.ev y with
  | some (.c (.v (.int k a))),some (.c (.v (.int k' b)))=>if k=k' then pure1 (.c (.v (.int k (if max then (if b>a then b else a) else (if b<a then b else a))))) else .bad
  | _,_=>.bad
 | .mif t x=>match S.ev x with
  | some (.c c)=>pure1 (.c (.ifc t c))
  | _=>.bad
 | .mfn f l r=>match evC S l,evC S r with
  | some l,some r=>pure1 (.c (.fn f l r))
  | _,_=>.bad
 | .mkm kk kd=>.ok True ⟨.c (.mp (S.nid,0,0)),[(S.nid,.one (.mp kk kd fun _=>none))],[],1⟩
 | .lkp kk kd ok m k=>match S.ev m,S.ev k with
  | some (.c (.mp x)),some kv=>match pkN S.own x,keyOf kk kv with
   | some (p,.mp kk' kd' f),some a=>.ok (p∧kk' = kk∧kd' = kd∧a.length=kk.len) (pureO (if ok then .tup [(false,[.v (.int kd ((f a).getD 0))]),(false,[.bo (f a).isSome])] else .c (.v (.int kd ((f a).getD 0)))))
   | some (p,.wm kk' kd' g),some a=>if ok then .bad else .ok (p∧kk' = kk∧kd' = kd∧a.length=kk.len) (pureO (.c (.v (.int kd (g a)))))
   | _,_=>.bad
  | _,_=>.bad
 | .mup kk kd m k v=>match S.ev m,S.ev k,S.ev v with
  | some (.c (.mp x)),some kv,some (.c (.v (.int kd'' n)))=>match pkN S.own x,keyOf kk kv with
   | some (p,.mp kk' kd' f),some a=>.ok (p∧kk' = kk∧kd' = kd∧kd'' = kd∧a.length=kk.len) ⟨.c (.v undef),setN S.own x (.mp kk kd fun q=>if q=a then some n else f q),[],0⟩
   | _,_=>.bad
  | _,_,_=>.bad
 | .ent kk kd m k=>match S.ev m,S.ev k with
  | some (.c (.mp x)),some kv=>match pkN S.own x,keyOf kk kv with
   | some (p,.mp kk' kd' f),some a=>.ok (p∧kk' = kk∧kd' = kd∧a.length=kk.len) ⟨.tup [(false,[.v (.int kd ((f a).getD 0))]),(false,[.xv (S.nid,0,0)])],setN S.own x (.mpe kk kd f a (S.nid,0,0)),[],1⟩
   | _,_=>.bad
  | _,_=>.bad
 | .ests kk kd m s v=>match S.ev m,S.ev s,S.ev v with
  | some (.c (.mp x)),some (.c (.xv y)),some (.c (.v (.int kd'' n)))=>match pkN S.own x with
   | some (p,.mpe kk' kd' f a y')=>.ok (p∧kk' = kk∧kd' = kd∧kd'' = kd∧y' = y∧a.length=kk.len) ⟨.c (.v undef),setN S.own x (.mp kk kd fun q=>if q=a then some n else f q),[],0⟩
   | _=>.bad
  | _,_,_=>.bad
 | .xmk _=>.bad
 | .xlk _ _ _ _=>.bad
 | .xup _ _ _ _=>.bad
 | .call _ _=>.bad
 | .callv _ _=>.bad
 | .calli _ _ _=>.bad
def St.putT (S:St) (dst:Option Nat) (v:SV):List (Nat×SV) :=
 match dst with
 | some d=>if d<S.nt then setL S.tmps d v else S.tmps
 | none=>S.tmps
def St.app (S:St) (dst:Option Nat) (o:Out):St :=
 ⟨S.nt,S.putT dst o.val,mergeL o.eff S.own,mergeL o.arrs S.arrs,S.facts,S.nid+o.cnt⟩
end Go.Proofs.Ytcloeignccpljaa.Z
namespace Go.Proofs.Ytcloeignccpljaa.Z
open Go Go.RowKit
section
variable {α:Type}
theorem look_cons (k:Nat) (v:α) (l:List (Nat×α)) (t:Nat):look ((k,v) :: l) t=if k=t then some v else look l t:=rfl
theorem look_setL:∀ (l:List (Nat×α)) (k:Nat) (v:α) (t:Nat),look (setL l k v) t=if k=t then some v else look l t
 | [],k,v,t=>rfl
 | (j,u) :: l,k,v,t=>by
  simp only [setL]
  split
  ·next e=>subst e;simp only [look_cons];split <;> rfl
  ·next e =>
   simp only [look_cons,look_setL l k v t]
   split
   ·next e1=>subst e1;rw [if_neg (fun h=>e h.symm)]
   ·rfl
theorem look_mergeL:∀ (e l:List (Nat×α)) (t:Nat),look (mergeL e l) t=(look e t).or (look l t)
 | [],l,t=>rfl
 | (k,v) :: e,l,t=>by
  simp only [mergeL,look_setL,look_cons,look_mergeL e l t]
  split <;> rfl
theorem atN_some {l:List (Nat×Fm α)} {x:Nm} {b:α} (h:atN l x=some b):∃ F,look l x.1=some F∧F.get x.2=some b:=by
 unfold atN at h
 split at h
 ·next F hF=>exact ⟨F,hF,h⟩
 ·cases h
theorem atN_mergeL (e l:List (Nat×Fm α)) (x:Nm):atN (mergeL e l) x=if (look e x.1).isSome=true then atN e x else atN l x:=by
 unfold atN
 rw [look_mergeL]
 cases look e x.1 with
 | none=>rfl
 | some F=>rfl
theorem get_pk {F:Fm α} {k:Nat×Nat} (h:(F.pk k).1):F.get k=some (F.pk k).2:=by
 obtain ⟨k,l⟩:=k
 cases F <;> simp only [Fm.pk,Fm.get] at h ⊢ <;> rw [if_pos h]
theorem pkN_at {l:List (Nat×Fm α)} {x:Nm} {p:Prop} {b:α} (h:pkN l x=some (p,b)) (hp:p):atN l x=some b:=by
 unfold pkN at h
 unfold atN
 split at h
 ·next F hF =>
  simp only [Option.some.injEq] at h
  have:=get_pk (F:=F) (k:=x.2) (by rw [h];exact hp)
  rw [h] at this
  simp only [this]
 ·cases h
theorem get_set {F:Fm α} {k:Nat×Nat} (h:(F.pk k).1) (b:α) (q:Nat×Nat):(F.set k b).get q=if q=k then some b else F.get q:=by
 obtain ⟨k,l⟩:=k
 obtain ⟨x,y⟩:=q
 cases F with
 | one a =>
  simp only [Fm.pk] at h
  obtain ⟨rfl,rfl⟩:=h
  simp only [Fm.set,Fm.get,Prod.mk.injEq]
  by_cases e:x=0∧y=0
  ·rw [if_pos e,if_pos e]
  ·rw [if_neg e,if_neg e,if_neg e]
 | fam n f =>
  simp only [Fm.pk] at h
  simp only [Fm.set,Fm.get,Prod.mk.injEq]
  by_cases e:x=k∧y=l
  ·obtain ⟨rfl,rfl⟩:=e
   simp [h]
  ·rw [if_neg e]
   by_cases e2:x<n∧y=0
   ·rw [if_pos e2,if_pos e2,if_neg]
    rintro rfl
    exact e ⟨rfl,by omega⟩
   ·rw [if_neg e2,if_neg e2]
 | fam2 n m f =>
  simp only [Fm.pk] at h
  simp only [Fm.set,Fm.get,Prod.mk.injEq]
  by_cases e:x=k∧y=l
  ·obtain ⟨rfl,rfl⟩:=e
   simp [h]
  ·rw [if_neg e]
   by_cases e2:x<n∧y<m x
   ·rw [if_pos e2,if_neg e]
   ·rw [if_neg e2,if_neg e]
theorem setN_look {l:List (Nat×Fm α)} {x:Nm} {p:Prop} {b:α} (h:pkN l x=some (p,b)) (b' : α) (i:Nat):(look (setN l x b') i).isSome=true↔i=x.1:=by
 unfold pkN at h
 unfold setN
 split at h
 ·next F hF =>
  simp only [look]
  split
  ·next e=>simp [e]
  ·next e=>simp [Ne.symm e]
 ·cases h
theorem atN_setN {l:List (Nat×Fm α)} {x:Nm} {p:Prop} {b:α} (h:pkN l x=some (p,b)) (hp:p) (b' : α) (y:Nm):atN (setN l x b') y=if y.1=x.1 then (if y=x then some b' else atN l y) else none:=by
 obtain ⟨x,k⟩:=x
 obtain ⟨y,q⟩:=y
 unfold pkN at h
 unfold setN atN
 simp only at h ⊢
 split at h
 ·next F hF =>
  simp only [Option.some.injEq] at h
  simp only [look]
  by_cases e:y=x
  ·subst e
   rw [if_pos rfl,if_pos rfl]
   simp only [get_set (F:=F) (k:=k) (by rw [h];exact hp),hF,Prod.mk.injEq,true_and]
  ·rw [if_neg e,if_neg (fun h=>e h.symm)]
 ·cases h
theorem memB_iff {l:List Nat} {k:Nat}:memB l k=true↔k∈l:=by
 induction l with
 | nil=>simp [memB]
 | cons a l ih =>
  simp only [memB,List.mem_cons]
  split
  ·next e=>simp [e]
  ·next e=>rw [ih];simp [Ne.symm e]
theorem look_dropL {ks:List Nat}:∀ {l:List (Nat×α)} {t:Nat} {v:α},look (dropL ks l) t=some v→¬ t∈ks∧look l t=some v
 | [],t,v,h=>by cases h
 | (k,x) :: l,t,v,h=>by
  simp only [dropL] at h
  by_cases hk:memB ks k=true
  ·rw [if_pos hk] at h
   obtain ⟨h1,h2⟩:=look_dropL h
   refine ⟨h1,?_⟩
   rw [look_cons,if_neg]
   ·exact h2
   ·rintro rfl;exact h1 (memB_iff.1 hk)
  ·rw [if_neg hk,look_cons] at h
   split at h
   ·next e =>
    subst e
    exact ⟨fun hm=>hk (memB_iff.2 hm),by rw [look_cons,if_pos rfl];exact h⟩
   ·next e =>
    obtain ⟨h1,h2⟩:=look_dropL h
    exact ⟨h1,by rw [look_cons,if_neg e];exact h2⟩
end
theorem denL_eq (E:Env):∀ l:List SC,SC.denL E l=l.map (SC.den E)
 | []=>by simp [SC.denL]
 | c :: r=>by simp [SC.denL,denL_eq E r]
theorem put_size' (a:Act) (d:Option Tmp) (v:Value):(a.put d v).tmps.size=a.tmps.size:=by cases d <;> simp [Act.put]
theorem put_defers' (a:Act) (d:Option Tmp) (v:Value):(a.put d v).defers=a.defers:=by cases d <;> rfl
theorem put_same' (a:Act) (d:Tmp) (v:Value) (h:d<a.tmps.size):(a.put (some d) v).tmps.getD d undef=v:=by
 simp [Act.put,Array.getD_eq_getD_getElem?,h]
theorem put_other' (a:Act) (d t:Tmp) (v:Value) (h:d≠t):(a.put (some d) v).tmps.getD t undef=a.tmps.getD t undef:=by
 simp [Act.put,Array.getD_eq_getD_getElem?,Array.getElem?_setIfInBounds_ne h]
section
variable {B:Nat} {W:Nat→Prop} {w0:World} {E:Env} {S:St} {a:Act} {w w' : World}
theorem sat_put (hs:Sat B W w0 E S a w) (dst:Option Nat) (v:SV):∀ t u,look (S.putT dst v) t=some u→t<S.nt∧(a.put dst (v.den E)).tmps.getD t undef=u.den E:=by
 intro t u h
 cases dst with
 | none=>exact hs.tmps t u h
 | some d =>
  simp only [St.putT] at h
  by_cases hd:d<S.nt
  ·rw [if_pos hd,look_setL] at h
   split at h
   ·next e =>
    subst e
    simp only [Option.some.injEq] at h
    subst h
    exact ⟨hd,put_same' a d _ (by rw [hs.size];exact hd)⟩
   ·next e =>
    obtain ⟨h1,h2⟩:=hs.tmps t u h
    exact ⟨h1,by rw [put_other' a d t _ e];exact h2⟩
  ·rw [if_neg hd] at h
   obtain ⟨h1,h2⟩:=hs.tmps t u h
   exact ⟨h1,by rw [put_other' a d t _ (show (d:Nat)≠t by omega)];exact h2⟩
theorem HeapOk.lt {own:Own} {H:Nm→PH} (hH:HeapOk B W E own H w) {x:Nm} {b:Blk} (h:atN own x=some b) {n:Nat} {o:Obj} (hn:H x n=some o):n<w.heap.size :=
 (Array.getElem?_eq_some_iff.1 (hH.sub x b h n o hn).1).1
theorem sat_after {eff:Own} {arrs' : List (Nat×Fm ArrF)} {tmpl:SV} (hs:Sat B W w0 E S a w) (hfit:FitsG B W E S w w' eff arrs') (dst:Option Nat) (nid:Nat) :
  Sat B W w0 E ⟨S.nt,S.putT dst tmpl,mergeL eff S.own,mergeL arrs' S.arrs,S.facts,nid⟩ (a.put dst (tmpl.den E)) w':=by
 obtain ⟨H,hH,hF⟩:=hs.mem
 obtain ⟨G,hG,hfit1,hfit2⟩:=hfit
 have he:=hfit1 H hH
 obtain ⟨H',h1,h2,h3⟩:=he.new
 have hk:∀ n,n<w.heap.size→(∀ x b,(look eff x.1).isSome=true→atN S.own x=some b→H x n=none)→w'.heap[n]? = w.heap[n]?:=he.keep
 refine ⟨by rw [put_size'];exact hs.size,by rw [put_defers'];exact hs.defers,hs.one,sat_put hs dst tmpl,?_,fun x=>if (look eff x.1).isSome=true then H' x else H x,⟨?_,?_,?_⟩,?_⟩
 ·refine ⟨he.os.trans hs.frame.os,he.tape.trans hs.frame.tape,he.output.trans hs.frame.output,Nat.le_trans hs.frame.size he.size,fun n hn hW=>?_⟩
  rw [← hs.frame.keep n hn hW]
  refine hk n (Nat.lt_of_lt_of_le hn hs.frame.size) (fun x b _ hx=>?_)
  cases hHn:H x n with
  | none=>rfl
  | some o =>
   rcases (hH.sub x b hx n o hHn).2 with h | h
   ·omega
   ·exact absurd h hW
 ·intro x b hb
  simp only [atN_mergeL] at hb
  by_cases e:(look eff x.1).isSome=true
  ·rw [if_pos e] at hb
   simp only [e,if_true]
   exact h1 x b hb
  ·rw [if_neg e] at hb
   simp only [e,if_false,Bool.false_eq_true]
   exact hH.den x b hb
 ·intro x y b c hb hc hne n
  simp only [atN_mergeL] at hb hc
  have mixed:∀ x y b c,(look eff x.1).isSome=true→¬ (look eff y.1).isSome=true→atN eff x=some b→atN S.own y=some c→H' x n=none∨H y n=none:=by
   intro x y b c ex ey hb hc
   cases h4:H' x n with
   | none=>exact Or.inl rfl
   | some o =>
    right
    cases h5:H y n with
    | none=>rfl
    | some o' =>
     have hlt:=hH.lt hc h5
     rcases (h3 x b hb n o h4).2 with h | ⟨z,d,ez,hz,h6⟩
     ·have:=h.1;omega
     ·rcases hH.disj z y d c hz hc (fun e=>ey (e ▸ ez)) n with h | h
      ·exact absurd h h6
      ·rw [h] at h5;cases h5
  by_cases ex:(look eff x.1).isSome=true
  ·by_cases ey:(look eff y.1).isSome=true
   ·simp only [ex,ey,if_true] at hb hc ⊢
    exact h2 x y b c hb hc hne n
   ·simp only [ex,ey,if_true,if_false,Bool.false_eq_true] at hb hc ⊢
    exact mixed x y b c ex ey hb hc
  ·by_cases ey:(look eff y.1).isSome=true
   ·simp only [ex,ey,if_true,if_false,Bool.false_eq_true] at hb hc ⊢
    exact (mixed y x c b ey ex hc hb).symm
   ·simp only [ex,ey,if_false,Bool.false_eq_true] at hb hc ⊢
    exact hH.disj x y b c hb hc hne n
 ·intro x b hb n o hn
  simp only [atN_mergeL] at hb
  by_cases e:(look eff x.1).isSome=true
  ·simp only [e,if_true] at hb hn
   obtain ⟨g1,g2⟩:=h3 x b hb n o hn
   refine ⟨g1,?_⟩
   rcases g2 with g | ⟨z,d,ez,hz,h6⟩
   ·exact Or.inl (Nat.le_trans hs.frame.size g.1)
   ·cases h7:H z n with
    | none=>exact absurd h7 h6
    | some o'=>exact (hH.sub z d hz n o' h7).2
  ·simp only [e,if_false,Bool.false_eq_true] at hb hn
   obtain ⟨g1,g2⟩:=hH.sub x b hb n o hn
   refine ⟨?_,g2⟩
   rw [← g1]
   refine hk n (hH.lt hb hn) (fun y c ey hy=>?_)
   rcases hH.disj y x c b hy hb (fun e'=>e (e' ▸ ey)) n with h | h
   ·exact h
   ·rw [h] at hn;cases hn
 ·intro w'' hw''
  have hold:Holds E S w'':=by
   refine hF w'' (fun n hn hfree=>?_)
   have h4:w'.heap[n]? = w.heap[n]?:=hk n hn (fun x b _ hx=>hfree x b hx)
   rw [← h4]
   refine hw'' n (Nat.lt_of_lt_of_le hn he.size) (fun x b hb=>?_)
   simp only [atN_mergeL] at hb
   by_cases e:(look eff x.1).isSome=true
   ·simp only [e,if_true] at hb ⊢
    cases h5:H' x n with
    | none=>rfl
    | some o =>
     rcases (h3 x b hb n o h5).2 with h | ⟨z,d,ez,hz,h6⟩
     ·have:=h.1;omega
     ·exact absurd (hfree z d hz) h6
   ·simp only [e,if_false,Bool.false_eq_true] at hb ⊢
    exact hfree x b hb
  refine ⟨fun x A hA=>?_,hold.2⟩
  simp only [atN_mergeL] at hA
  by_cases e:(look arrs' x.1).isSome=true
  ·rw [if_pos e] at hA
   refine hfit2 w'' hold (fun n hn=>?_) x A hA
   obtain ⟨g1,g2⟩:=hG n hn
   refine hw'' n g2 fun y b hb=>?_
   simp only [atN_mergeL] at hb
   by_cases e:(look eff y.1).isSome=true
   ·simp only [e,if_true] at hb ⊢
    cases h5:H' y n with
    | none=>rfl
    | some o =>
     rcases (h3 y b hb n o h5).2 with h | ⟨z,d,ez,hz,h6⟩
     ·exact absurd hn h.2
     ·cases h7:H z n with
      | none=>exact absurd h7 h6
      | some o'=>have:=hH.lt hz h7;omega
   ·simp only [e,if_false,Bool.false_eq_true] at hb ⊢
    cases h5:H y n with
    | none=>rfl
    | some o=>have:=hH.lt hb h5;omega
  ·rw [if_neg e] at hA
   exact hold.1 x A hA
theorem Same.refl (E:Env) (x:Nm):Same E E x:=⟨rfl,rfl,rfl,rfl⟩
theorem Same.trans {E1 E2 E3:Env} {x:Nm} (h:Same E1 E2 x) (k:Same E2 E3 x):Same E1 E3 x:=⟨k.1.trans h.1,k.2.1.trans h.2.1,k.2.2.1.trans h.2.2.1,k.2.2.2.trans h.2.2.2⟩
theorem Same.symm {E1 E2:Env} {x:Nm} (h:Same E1 E2 x):Same E2 E1 x:=⟨h.1.symm,h.2.1.symm,h.2.2.1.symm,h.2.2.2.symm⟩
theorem AgreeD.refl (D:Nat→Prop) (E:Env):AgreeD D E E:=fun x _=>Same.refl E x
theorem SatD.sat {D:Nat→Prop} (h:SatD D B W w0 E S a w) (h1:OneC E):Sat B W w0 E S a w:=h E (.refl _ _) h1
theorem SatA.sat (h:SatA B W w0 E S a w):Sat B W w0 E S a w:=h.2 E (.refl _ _) h.1
def Env.mix (E N:Env) (lo nx:Nat):Env :=
 ⟨fun x=>if lo≤x.1∧x.1<lo+nx then N.ρ x else E.ρ x,fun x=>if lo≤x.1∧x.1<lo+nx then N.κ x else E.κ x,fun x=>if lo≤x.1∧x.1<lo+nx then N.ν x else E.ν x,fun x=>if lo≤x.1∧x.1<lo+nx then N.χ x else E.χ x⟩
theorem mix_new {E N:Env} {lo nx:Nat} {x:Nm} (h:NewIds lo nx x.1):Same N (E.mix N lo nx) x:=by
 have h:lo≤x.1∧x.1<lo+nx:=h
 exact ⟨by simp [Env.mix,h],by simp [Env.mix,h],by simp [Env.mix,h],by simp [Env.mix,h]⟩
theorem mix_old {E N:Env} {lo nx:Nat} {x:Nm} (h:¬ NewIds lo nx x.1):Same E (E.mix N lo nx) x:=by
 have h:¬ (lo≤x.1∧x.1<lo+nx):=h
 exact ⟨by simp only [Env.mix,if_neg h],by simp only [Env.mix,if_neg h],by simp only [Env.mix,if_neg h],by simp only [Env.mix,if_neg h]⟩
theorem mix_one {E N:Env} {lo nx:Nat} (h:OneC E) (h' : OneC N):OneC (E.mix N lo nx):=by
 intro x
 simp only [Env.mix]
 split
 ·exact h' x
 ·exact h x
theorem satD_after {S' : St} {D:Nat→Prop} {eff:Own} {arrs' : List (Nat×Fm ArrF)} {tmpl:SV} {nx:Nat} {v:Value} (hs:SatD D B W w0 E S' a w) (h1:OneC E) (hD:∀ i,NewIds S.nid nx i→¬ D i)
  (hsub:∀ E,Sat B W w0 E S' a w→Sat B W w0 E S a w) (hfit:∀ E,Sat B W w0 E S' a w→FitsG B W E S w w' eff arrs'→FitsG B W E S' w w' eff arrs')
  {ks:List Nat} (hks:∀ i∈ks,D i) (h:After B W w0 E ks S a w tmpl nx eff arrs' v w') (dst:Option Nat) (nid:Nat) :
  ∃ E',OneC E'∧SatD (fun i=>D i∨NewIds S.nid nx i) B W w0 E' ⟨S'.nt,S'.putT dst tmpl,mergeL eff S'.own,mergeL arrs' S'.arrs,S'.facts,nid⟩ (a.put dst v) w':=by
 obtain ⟨N,hN,h⟩:=h
 refine ⟨E.mix N S.nid nx,mix_one h1 hN,fun E2 hE2 ho2=>?_⟩
 have hs2:=hs E2 (fun x hx=>(mix_old (fun hn=>hD _ hn hx)).trans (hE2 x (Or.inl hx))) ho2
 obtain ⟨e,hf⟩:=h E2 (hsub E2 hs2) (fun x hx=>hE2 x (Or.inl (hks _ hx)) |> fun q=>(mix_old (N:=N) (lo:=S.nid) (nx:=nx) (fun hn=>hD _ hn (hks _ hx))).trans q) (fun x hx=>(mix_new hx).trans (hE2 x (Or.inr hx)))
 rw [e]
 exact sat_after hs2 (hfit E2 hs2 hf) dst nid
theorem satA_after {eff:Own} {arrs' : List (Nat×Fm ArrF)} {tmpl:SV} {nx:Nat} {v:Value} (hs:SatA B W w0 E S a w)
  {ks:List Nat} (hks:∀ i∈ks,i<S.nid) (h:After B W w0 E ks S a w tmpl nx eff arrs' v w') (dst:Option Nat) :
  ∃ E',SatA B W w0 E' ⟨S.nt,S.putT dst tmpl,mergeL eff S.own,mergeL arrs' S.arrs,S.facts,S.nid+nx⟩ (a.put dst v) w':=by
 obtain ⟨E',h1,h2⟩:=satD_after hs.2 hs.1 (fun i hi hlt=>by have:=hi.1;omega) (fun _ h=>h) (fun _ _ h=>h) hks h dst (S.nid+nx)
 refine ⟨E',h1,fun E2 hE2=>h2 E2 (fun x hx=>hE2 x ?_)⟩
 rcases hx with hx | hx
 ·exact Nat.lt_of_lt_of_le hx (Nat.le_add_right _ _)
 ·exact hx.2
theorem sing_some {b n:Nat} {o o' : Obj} (h:sing b o n=some o'):n=b∧o' = o:=by
 unfold sing at h
 split at h
 ·next e=>cases h;exact ⟨e,rfl⟩
 ·cases h
theorem effOk_nil {own:Own} {H:Nm→PH}:EffOk E own H w w [] :=
 ⟨rfl,rfl,rfl,Nat.le_refl _,fun _ _ _=>rfl,fun _=>emp,fun x b h=>by simp [atN,look] at h,fun x y b c h=>by simp [atN,look] at h,fun x b h=>by simp [atN,look] at h⟩
theorem fits_nil:Fits B W E S w w [] []:=⟨fun _ _=>effOk_nil,fun _ _ x A h=>by simp [atN,look] at h⟩
theorem fits_alloc {o:Obj} {b:Blk} {i:Nat} (hb:b.den E (i,0,0) (sing w.heap.size o)) (w1:World) (hw:w1=w.alloc o∨w1=w.drew.alloc o):Fits B W E S w w1 [(i,.one b)] []:=by
 refine ⟨fun H hH=>?_,fun _ _ x A h=>by simp [atN,look] at h⟩
 have e1:w1.heap=w.heap.push o:=by rcases hw with rfl | rfl <;> rfl
 have hat:∀ x c,atN [(i,Fm.one b)] x=some c→x=(i,0,0)∧c=b:=by
  rintro ⟨j,k,l⟩ c h
  simp only [atN,look] at h
  by_cases e:i=j
  ·subst e
   simp only [if_true,Fm.get] at h
   split at h
   ·next e =>
    obtain ⟨rfl,rfl⟩:=e
    cases h
    exact ⟨rfl,rfl⟩
   ·cases h
  ·rw [if_neg e] at h
   cases h
 refine ⟨by rcases hw with rfl | rfl <;> rfl,by rcases hw with rfl | rfl <;> rfl,by rcases hw with rfl | rfl <;> rfl,by rw [e1];simp,fun n hn _=>?_,fun _=>sing w.heap.size o,?_,?_,?_⟩
 ·rw [e1,Array.getElem?_push]
  rw [if_neg (by omega)]
 ·intro x c h
  obtain ⟨rfl,rfl⟩:=hat x c h
  exact hb
 ·intro x y c d hx hy hne
  obtain ⟨rfl,_⟩:=hat x c hx
  obtain ⟨rfl,_⟩:=hat y d hy
  exact absurd rfl hne
 ·intro x c hx n o' hn
  obtain ⟨rfl,rfl⟩:=sing_some hn
  refine ⟨?_,Or.inl (Nat.le_refl _)⟩
  rw [e1,Array.getElem?_push]
  simp
theorem fits_write {o:Obj} {b b' : Blk} {x:Nm} {p:Prop} {g:Nat} (hx:pkN S.own x=some (p,b)) (hp:p) (hg:g<w.heap.size) (hown:∀ H,HeapOk B W E S.own H w→H x=sing g (w.heap[g]?.getD default))
  (hb:b'.den E x (sing g o)) (w1:World) (h0:w1.os=w.os∧w1.tape=w.tape∧w1.output=w.output) (hw:∀ n,w1.heap[n]? = if n=g then some o else w.heap[n]?):Fits B W E S w w1 (setN S.own x b') []:=by
 refine ⟨fun H hH=>?_,fun _ _ x A h=>by simp [atN,look] at h⟩
 have hHx:=hown H hH
 have hat:=pkN_at hx hp
 have hsz:w.heap.size≤w1.heap.size:=by
  rcases Nat.lt_or_ge w1.heap.size w.heap.size with h | h
  ·have h1:=hw w1.heap.size
   rw [Array.getElem?_eq_none (Nat.le_refl _)] at h1
   split at h1
   ·cases h1
   ·rw [Array.getElem?_eq_getElem h] at h1;cases h1
  ·exact h
 refine ⟨h0.1,h0.2.1,h0.2.2,hsz,fun n hn h=>?_,fun y=>if y=x then sing g o else H y,?_,?_,?_⟩
 ·rw [hw n]
  split
  ·next e =>
   subst e
   have:=h x b ((setN_look hx b' x.1).2 rfl) hat
   rw [hHx] at this
   simp [sing] at this
  ·rfl
 ·intro y c hc
  rw [atN_setN hx hp] at hc
  split at hc
  ·split at hc
   ·next e=>subst e;cases hc;simpa using hb
   ·next e=>simp only [e,if_false];exact hH.den y c hc
  ·cases hc
 ·intro y z c d hc hd hne n
  rw [atN_setN hx hp] at hc hd
  have key:∀ z d,z≠x→atN S.own z=some d→sing g o n=none∨H z n=none:=by
   intro z d hz hd
   by_cases e:n=g
   ·right
    rcases hH.disj x z b d hat hd (Ne.symm hz) n with h | h
    ·rw [hHx,e] at h
     simp [sing] at h
    ·exact h
   ·left
    simp [sing,e]
  split at hc
  ·split at hd
   ·by_cases ey:y=x
    ·by_cases ez:z=x
     ·exact absurd (ey.trans ez.symm) hne
     ·simp only [ey,ez,if_true,if_false] at hc hd ⊢
      exact key z d ez hd
    ·by_cases ez:z=x
     ·simp only [ey,ez,if_true,if_false] at hc hd ⊢
      exact (key y c ey hc).symm
     ·simp only [ey,ez,if_false] at hc hd ⊢
      exact hH.disj y z c d hc hd hne n
   ·cases hd
  ·cases hc
 ·intro y c hc n o' hn
  rw [atN_setN hx hp] at hc
  split at hc
  ·next e1 =>
   by_cases ey:y=x
   ·simp only [ey,if_true] at hn
    unfold sing at hn
    split at hn
    ·next e =>
     subst e
     cases hn
     refine ⟨by rw [hw];simp,Or.inr ⟨x,b,(setN_look hx b' x.1).2 rfl,hat,?_⟩⟩
     rw [hHx];simp [sing]
    ·cases hn
   ·simp only [ey,if_false] at hc hn
    have h4:=(hH.sub y c hc n o' hn).1
    have hng:n≠g:=by
     intro e
     rcases hH.disj x y b c hat hc (Ne.symm ey) n with h | h
     ·rw [hHx,e] at h
      simp [sing] at h
     ·rw [h] at hn;cases hn
    refine ⟨by rw [hw,if_neg hng];exact h4,Or.inr ⟨y,c,?_,hc,?_⟩⟩
    ·exact (setN_look hx b' y.1).2 e1
    ·rw [hn];simp
  ·cases hc
end
end Go.Proofs.Ytcloeignccpljaa.Z
