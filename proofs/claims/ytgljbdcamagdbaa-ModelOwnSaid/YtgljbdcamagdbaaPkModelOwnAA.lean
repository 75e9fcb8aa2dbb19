/- ModelOwnSaid: what its proof is made of. No condition. -/
import Derived.Test.YtgljbdcamagdbaaRows
import Derived.WalkKit
import Derived.WalkSpells
import Derived.Lib.Hide
import Derived.WalkLawsBesides
import Derived.ProofKit
import Derived.OpenShut
import Derived.JoinedCond
import Derived.BigQuiet
import Derived.Deep.QuietTactic
import Derived.Deep.RegionHeld3
import Derived.Deep.AppendLies
import Derived.Orders
import Derived.SizedLaws
import Derived.Deep.Cut
import Derived.Lib.SliceRun
import Derived.Laws.CopyOwn
import Derived.Lib.AppendZerosOnto
import Derived.ArgAppend
import Derived.Lib.Overlaps
import Derived.Deep.LoopGhost
import Derived.StillTailTactics
import Derived.Deep.AppendSrc
import Derived.Deep.DeepAppendWide
import Derived.ChangeKeysEq
import Derived.IntWalk
import Derived.JoinedTies
set_option linter.unusedSimpArgs false
set_option linter.unusedVariables false
namespace Go.Proofs.Ytgljbdcamagdbaa
open Go.RowKit
theorem flat_len {α:Type} {enc:α→List Value} {s:Nat} (hs:∀ x,(enc x).length=s) (xs:List α):(xs.flatMap enc).length=xs.length * s:=by
 induction xs with
 | nil=>simp
 | cons x r ih=>simp only [List.flatMap_cons,List.length_append,hs,ih,List.length_cons,Nat.add_mul,Nat.one_mul];omega
theorem flat_get {α:Type} {enc:α→List Value} {s:Nat} (hs:∀ x,(enc x).length=s) (xs:List α) (k j:Nat) (x:α) (hk:xs[k]? = some x) (hj:j<s) :
  (xs.flatMap enc)[k * s+j]? = (enc x)[j]?:=by
 induction xs generalizing k with
 | nil=>simp at hk
 | cons y r ih =>
  cases k with
  | zero =>
   simp only [List.getElem?_cons_zero,Option.some.injEq] at hk
   subst hk
   simp only [List.flatMap_cons,Nat.zero_mul,Nat.zero_add]
   rw [List.getElem?_append_left (by rw [hs];exact hj)]
  | succ k =>
   simp only [List.getElem?_cons_succ] at hk
   simp only [List.flatMap_cons]
   rw [List.getElem?_append_right (by rw [hs,Nat.add_mul];omega)]
   rw [show (k+1) * s+j - (enc y).length=k * s+j by rw [hs,Nat.add_mul];omega]
   exact ih k hk
def Arr {α:Type} (w:World) (enc:α→List Value) (s:Nat) (v:Value) (xs:List α):Prop :=
 ∃ ba cap,v = .slice ba xs.length cap∧xs.length≤cap∧cap≤maxLen ∧
  (xs=[]∨∃ b off,ba=some ⟨b,off,none⟩∧∀ k x,xs[k]? = some x→∀ j u,(enc x)[j]? = some u→w.cell? ⟨b,off+k * s+j,none⟩=some u)
def eI (x:Int):List Value:=[.int .i64 x]
theorem Arr.nil {α:Type} (w:World) (enc:α→List Value) (s:Nat):Arr w enc s (.slice none 0 0) [] :=
 ⟨none,0,rfl,Nat.le_refl _,by unfold maxLen;omega,Or.inl rfl⟩
theorem Arr.keep {α:Type} {w w' : World} {enc:α→List Value} {s:Nat} {v:Value} {xs:List α} (h:Arr w enc s v xs) (hk:∀ a u,w.cell? a=some u→w'.cell? a=some u):Arr w' enc s v xs:=by
 obtain ⟨ba,cap,hv,hl,hm,h0⟩:=h
 refine ⟨ba,cap,hv,hl,hm,?_⟩
 rcases h0 with h0 | ⟨b,off,hb,hc⟩
 ·exact Or.inl h0
 ·exact Or.inr ⟨b,off,hb,fun k x hx j u hu=>hk _ _ (hc k x hx j u hu)⟩
theorem keeps_below {w w' : World} (hb:Below w.heap.size w w'):∀ a u,w.cell? a=some u→w'.cell? a=some u :=
 fun a _ h=>(hb.cell (World.block_lt_of_cell? w a h)).trans h
theorem Arr.below {α:Type} {w w' : World} {enc:α→List Value} {s:Nat} {v:Value} {xs:List α} (h:Arr w enc s v xs) (hb:Below w.heap.size w w'):Arr w' enc s v xs :=
 h.keep (keeps_below hb)
theorem Arr.len {α:Type} {w:World} {enc:α→List Value} {s:Nat} {v:Value} {xs:List α} (h:Arr w enc s v xs):xs.length≤9223372036854775807:=by
 obtain ⟨_,cap,_,h1,h2,_⟩:=h
 unfold maxLen at h2;omega
theorem Arr.own {α:Type} {w:World} {base:Nat} {e:TypeId} {enc:α→List Value} {s:Nat} (hs:∀ x,(enc x).length=s) {v:Value} {xs:List α} (h:w.ownsRow base e s v xs.length (xs.flatMap enc)):Arr w enc s v xs:=by
 obtain ⟨_,h | ⟨g,cap,cur,rfl,_,hg,hn,hm,hc,ht⟩⟩:=h
 ·obtain ⟨rfl,h0⟩:=h
  have:xs=[]:=List.eq_nil_of_length_eq_zero h0
  subst this
  exact Arr.nil _ _ _
 ·refine ⟨_,cap,rfl,hn,hm,Or.inr ⟨g,0,rfl,fun k x hx j u hu=>?_⟩⟩
  have hj:j<s:=by rw [← hs x];exact (List.getElem?_eq_some_iff.1 hu).1
  rw [Nat.zero_add,cell_of_row w g (k * s+j) cur e (0,0) hg]
  have h1:(xs.flatMap enc)[k * s+j]? = some u:=by rw [flat_get hs xs k j x hx hj];exact hu
  rw [← ht,List.getElem?_take] at h1
  split at h1
  ·simpa using h1
  ·cases h1
theorem Arr.cells {α:Type} {w:World} {enc:α→List Value} {s:Nat} (hs:∀ x,(enc x).length=s) (h0:0<s) {b off n cap:Nat} {xs:List α}
  (h:Arr w enc s (.slice (some ⟨b,off,none⟩) n cap) xs):∀ j u,(xs.flatMap enc)[j]? = some u→w.cell? ((⟨b,off,none⟩:Addr).add j)=some u:=by
 intro j u hu
 obtain ⟨ba,cap',hv,_,_,h1⟩:=h
 cases hv
 have hadd:(⟨b,off,none⟩:Addr).add j=⟨b,off+j,none⟩:=by unfold Addr.add;split <;> simp_all
 rcases h1 with h1 | ⟨b',off',hb,hc⟩
 ·subst h1;simp at hu
 ·cases hb
  have hlt:j<xs.length * s:=by rw [← flat_len hs];exact (List.getElem?_eq_some_iff.1 hu).1
  have hk:j / s<xs.length:=Nat.div_lt_of_lt_mul (by rw [Nat.mul_comm];exact hlt)
  have hm:j % s<s:=Nat.mod_lt _ h0
  have e:j / s * s+j % s=j:=by rw [Nat.mul_comm];exact Nat.div_add_mod j s
  have hx:xs[j / s]? = some xs[j / s]:=List.getElem?_eq_getElem hk
  have:=flat_get hs xs (j / s) (j % s) _ hx hm
  rw [e] at this
  have h2:=hc (j / s) _ hx (j % s) u (by rw [← this];exact hu)
  rw [hadd]
  rw [show off+j / s * s+j % s=off+j by omega] at h2
  exact h2
theorem Arr.at1 {w:World} {v:Value} {xs:List Int} (h:Arr w eI 1 v xs):∃ ba cap,v = .slice ba xs.length cap∧xs.length≤cap∧cap≤9223372036854775807 ∧
  ∀ k x,xs[k]? = some x→∃ b off,ba=some ⟨b,off,none⟩∧b<w.heap.size∧w.cell? ⟨b,off+k,none⟩=some (.int .i64 x):=by
 obtain ⟨ba,cap,hv,hl,hm,hc⟩:=h
 refine ⟨ba,cap,hv,hl,hm,fun k x hx=>?_⟩
 rcases hc with h | ⟨b,off,hb,hc⟩
 ·subst h;simp at hx
 ·have:=hc k x hx 0 (.int .i64 x) rfl
  rw [Nat.mul_one,Nat.add_zero] at this
  exact ⟨b,off,hb,World.block_lt_of_cell? w _ this,this⟩
def eP (p:Int×Int):List Value:=[.int .i64 p.1,.int .i64 p.2]
theorem Arr.at2 {w:World} {v:Value} {xs:List (Int×Int)} (h:Arr w eP 2 v xs):∃ ba cap,v = .slice ba xs.length cap∧xs.length≤cap∧cap≤9223372036854775807 ∧
  ∀ k x,xs[k]? = some x→∃ b off,ba=some ⟨b,off,none⟩∧b<w.heap.size∧w.cell? ⟨b,off+k * 2,none⟩=some (.int .i64 x.1)∧w.cell? ⟨b,off+k * 2+1,none⟩=some (.int .i64 x.2):=by
 obtain ⟨ba,cap,hv,hl,hm,hc⟩:=h
 refine ⟨ba,cap,hv,hl,hm,fun k x hx=>?_⟩
 rcases hc with h | ⟨b,off,hb,hc⟩
 ·subst h;simp at hx
 ·have h0:=hc k x hx 0 (.int .i64 x.1) rfl
  have h1:=hc k x hx 1 (.int .i64 x.2) rfl
  rw [Nat.add_zero] at h0
  exact ⟨b,off,hb,World.block_lt_of_cell? w _ h0,h0,h1⟩
theorem take_eq_succ {α:Type} {xs ys:List α} {k:Nat} {x y:α} (h:xs.take k=ys.take k) (hx:xs[k]? = some x) (hy:ys[k]? = some y) (e:x=y):xs.take (k+1)=ys.take (k+1):=by
 rw [List.take_add_one,List.take_add_one,h,hx,hy,e]
theorem ne_of_at {α:Type} {xs ys:List α} {k:Nat} {x y:α} (hx:xs[k]? = some x) (hy:ys[k]? = some y) (e:x≠y):xs≠ys:=by
 rintro rfl;rw [hx] at hy;exact e (Option.some.inj hy)
theorem box_cell (w:World) (cs:Array Value) (t:TypeId) (j:Nat) (u:Value) (h:cs[j]? = some u):(w.alloc (.cells cs t)).cell? ⟨w.heap.size,j,none⟩=some u:=by
 rw [cell_of_row _ w.heap.size j cs t (0,0) (heap_alloc_new w _)]
 exact h
theorem box_cell' {w:World} {n:Nat} (cs:Array Value) (t:TypeId) (hn:w.heap.size=n) (j:Nat) (u:Value) (h:cs[j]? = some u):(w.alloc (.cells cs t)).cell? ⟨n,j,none⟩=some u:=by
 subst hn;exact box_cell w cs t j u h
theorem below_box (w:World) (o:Obj):Below w.heap.size w (w.alloc o):=(Below.refl _ _).alloc (Nat.le_refl _) _
theorem below_from {w w' : World} {o:Obj} (h:Below (w.heap.size+1) (w.alloc o) w'):Below w.heap.size w w' :=
 (below_box w o).trans (h.mono (by omega))
def incB:List Int→Bool
 | x :: y :: r=>decide (x<y) && incB (y :: r)
 | _=>true
theorem incB_iff (xs:List Int):incB xs=true↔∀ i x y,xs[i]? = some x→xs[i+1]? = some y→x<y:=by
 induction xs with
 | nil=>simp [incB]
 | cons a r ih =>
  cases r with
  | nil=>simp [incB]
  | cons b r =>
   simp only [incB,Bool.and_eq_true,decide_eq_true_eq,ih]
   constructor
   ·rintro ⟨h1,h2⟩ i x y hx hy
    cases i with
    | zero=>simp at hx hy;omega
    | succ i=>exact h2 i x y (by simpa using hx) (by simpa using hy)
   ·intro h
    exact ⟨h 0 a b rfl rfl,fun i x y hx hy=>h (i+1) x y (by simpa using hx) (by simpa using hy)⟩
theorem incB_no {xs:List Int} {i:Nat} {x y:Int} (hx:xs[i]? = some x) (hy:xs[i+1]? = some y) (h:y≤x):incB xs=false:=by
 cases hb:incB xs with
 | false=>rfl
 | true=>have:=(incB_iff xs).1 hb i x y hx hy;omega
theorem incB_no' {xs:List Int} {k:Nat} {x y:Int} (h1:1≤k) (hx:xs[k - 1]? = some x) (hy:xs[k]? = some y) (h:y≤x):incB xs=false :=
 incB_no hx (by rw [show k - 1+1=k by omega];exact hy) h
def IncTo (xs:List Int) (k:Nat):Prop:=∀ i x y,i+1<k→xs[i]? = some x→xs[i+1]? = some y→x<y
theorem IncTo.step {xs:List Int} {k:Nat} {x y:Int} (h:IncTo xs k) (hk:1≤k) (hx:xs[k - 1]? = some x) (hy:xs[k]? = some y) (hxy:x<y):IncTo xs (k+1):=by
 intro i a b hi ha hb
 by_cases e:i+1<k
 ·exact h i a b e ha hb
 ·have:i=k - 1:=by omega
  subst this
  rw [show k - 1+1=k by omega,hy] at hb
  rw [hx] at ha
  cases ha;cases hb;exact hxy
theorem IncTo.all {xs:List Int} {k:Nat} (h:IncTo xs k) (hk:xs.length≤k):incB xs=true:=by
 rw [incB_iff]
 intro i x y hx hy
 exact h i x y (by have:=(List.getElem?_eq_some_iff.1 hy).1;omega) hx hy
theorem run_append_arr {P:Program} {w:World} (base:Nat) (t ty e:TypeId) (i:TypeInfo) (z:Value) (size bytes:Nat) (ht:P.underlying t=some (.slice e)) (hi:P.info? e=some i) (hz:i.zero=some z)
  (hsize:i.size=size) (hby:i.bytes=bytes) (hzs:z.cells.size=size) (hsz:0<size)
  (v:Value) (n:Nat) (cs:List Value) (hown:w.ownsRow base e size v n cs)
  {α:Type} {enc:α→List Value} (hs:∀ x,(enc x).length=size) (h1:∀ x,∀ u∈enc x,u.oneCell' = true) (v2:Value) (xs:List α) (hx:Arr w enc size v2 xs)
  (h63:n+xs.length≤maxLen) (hbytes:(n+xs.length) * bytes≤140737488355328) (hbase:base≤w.heap.size) :
  ∃ v' w',(Builtin.append_ #[t,t] ty #[v,v2]).run P w = .ok v' w'∧w'.ownsRow base e size v' (n+xs.length) (cs++xs.flatMap enc)∧w.grownBy w' v.ownBlock:=by
 have hx0:=hx
 obtain ⟨ba,cap,rfl,hl,hm,hc⟩:=hx
 rcases ba with _ | ⟨b,off,sp⟩
 ·have he:xs=[]:=by
   rcases hc with h | ⟨b,off,hb,_⟩
   ·exact h
   ·cases hb
  subst he
  refine ⟨v,w,?_,by simpa using hown,⟨rfl,rfl,rfl,Nat.le_refl _,fun _ _ _=>rfl⟩⟩
  obtain ⟨_,hv⟩:=hown
  rcases hv with ⟨rfl,rfl⟩ | ⟨g,cap',cur,rfl,_,hg,hn,_,hcs,_⟩
  ·simp [Builtin.append_,run_underlying ht,sizeOf,typeInfo,hi,Builtin.lenOf,Builtin.firstCells]
  ·simp [Builtin.append_,run_underlying ht,sizeOf,typeInfo,hi,Builtin.lenOf,Builtin.firstCells,hn,storeCells]
 ·rcases hc with h | ⟨b',off',hb,hc⟩
  ·subst h
   obtain ⟨v',w',hr,ho,hg,_⟩:=run_append_own (P:=P) w base t ty e i z size bytes ht hi hz hsize hby hzs hsz v n cs hown ⟨b,off,sp⟩ 0 cap [] (by simp) (by simp) (by simp) (by simpa using h63) (by simpa using hbytes) hbase
   exact ⟨v',w',hr,by simpa using ho,hg⟩
  ·simp only [Option.some.injEq,Addr.mk.injEq] at hb
   obtain ⟨rfl,rfl,rfl⟩:=hb
   obtain ⟨v',w',hr,ho,hg,_⟩:=run_append_own (P:=P) w base t ty e i z size bytes ht hi hz hsize hby hzs hsz v n cs hown ⟨b,off,none⟩ xs.length cap (xs.flatMap enc) (flat_len hs xs)
    (Arr.cells hs hsz hx0) (fun u hu=>by obtain ⟨x,_,h⟩:=List.mem_flatMap.1 hu;exact h1 x u h) h63 hbytes hbase
   exact ⟨v',w',hr,ho,hg⟩
structure ElemT (P:Program) (t e:TypeId) (size bytes:Nat):Prop where
 ht:P.underlying t=some (.slice e)
 ex:∃ i z,P.info? e=some i∧i.zero=some z∧i.size=size∧i.bytes=bytes∧z.cells.size=size
 pos:0<size
structure EncT {α:Type} (enc:α→List Value) (size:Nat):Prop where
 len:∀ x,(enc x).length=size
 one:∀ x,∀ u∈enc x,u.oneCell' = true
theorem eI_ok:EncT eI 1:=⟨fun _=>rfl,fun x u hu=>by simp [eI] at hu;subst hu;rfl⟩
theorem eP_ok:EncT eP 2:=⟨fun _=>rfl,fun x u hu=>by simp [eP] at hu;rcases hu with rfl | rfl <;> rfl⟩
theorem wp_append_arr {P:Program} {w:World} {o:Oper} {a:Act} {K:Act→World→Prop} {Q:Exit→Act→World→Prop} (s x:Operand) {t e:TypeId} {size bytes:Nat}
  (ho:o.op = .call { callee:=.builtin .append,args:=#[s,x],argTypes:=#[t,t] }) (T:ElemT P t e size bytes) (base:Nat)
  {v:Value} {n:Nat} {cs:List Value} (hs:a.eval s=v) (hown:w.ownsRow base e size v n cs)
  {α:Type} {enc:α→List Value} (E:EncT enc size) {v2:Value} {xs:List α} (hx:a.eval x=v2) (hxs:Arr w enc size v2 xs)
  (hbytes:(n+xs.length) * bytes≤140737488355328) (h63:n+xs.length≤maxLen) (hbase:base≤w.heap.size)
  (h:∀ v' w',w'.ownsRow base e size v' (n+xs.length) (cs++xs.flatMap enc)→w.grownBy w' v.ownBlock→K (a.put o.dst v') w'):o.wp P a w K Q:=by
 obtain ⟨i,z,hi,hz,hsz,hby,hzs⟩:=T.ex
 obtain ⟨v',w',hr,h2,h3⟩:=run_append_arr (P:=P) (w:=w) base t o.type e i z size bytes T.ht hi hz hsz hby hzs T.pos v n cs hown E.len E.one v2 xs hxs h63 hbytes hbase
 unfold Oper.wp execOp
 simp only [ho,resolve,invoke,builtin,Sem.run_bind,Sem.run_pure,Result.andThen_ok,List.map_toArray,List.map_cons,List.map_nil,hs,hx,hr]
 exact h v' w' h2 h3
theorem wpList_append_arr {P:Program} {w:World} {ops:Array Oper} {rest:List Oper} {o:Oper} {a:Act} {Q:Exit→Act→World→Prop} (hgd:o.guard=none) (s x:Operand) {t e:TypeId} {size bytes:Nat}
  (ho:o.op = .call { callee:=.builtin .append,args:=#[s,x],argTypes:=#[t,t] }) (T:ElemT P t e size bytes) (base:Nat)
  {v:Value} {n:Nat} {cs:List Value} (hs:a.eval s=v) (hown:w.ownsRow base e size v n cs)
  {α:Type} {enc:α→List Value} (E:EncT enc size) {v2:Value} {xs:List α} (hx:a.eval x=v2) (hxs:Arr w enc size v2 xs)
  (hbytes:(n+xs.length) * bytes≤140737488355328) (h63:n+xs.length≤maxLen) (hbase:base≤w.heap.size)
  (h:∀ v' w',w'.ownsRow base e size v' (n+xs.length) (cs++xs.flatMap enc)→w.grownBy w' v.ownBlock→wpList P ops Q rest (a.put o.dst v') w'):wpList P ops Q (o :: rest) a w :=
 wpList_plain hgd fun _ hK=>wp_append_arr s x ho T base hs hown E hx hxs hbytes h63 hbase fun v' w' h2 h3=>hK _ _ (h v' w' h2 h3)
theorem step_append_arr {P:Program} {w:World} {ops:Array Oper} {o:Oper} {a:Act} {K:Act→World→Prop} {Q:Exit→Act→World→Prop} {F:Prop} (hgd:o.guard=none) (s x:Operand) {t e:TypeId} {size bytes:Nat}
  (ho:o.op = .call { callee:=.builtin .append,args:=#[s,x],argTypes:=#[t,t] }) (T:ElemT P t e size bytes) (base:Nat)
  {v:Value} {n:Nat} {cs:List Value} (hs:a.eval s=v) (hown:w.ownsRow base e size v n cs)
  {α:Type} {enc:α→List Value} (E:EncT enc size) {v2:Value} {xs:List α} (hx:a.eval x=v2) (hxs:Arr w enc size v2 xs)
  (hbytes:(n+xs.length) * bytes≤140737488355328) (h63:n+xs.length≤maxLen) (hbase:base≤w.heap.size)
  (h:∀ v' w',w'.ownsRow base e size v' (n+xs.length) (cs++xs.flatMap enc)→w.grownBy w' v.ownBlock→K (a.put o.dst v') w') :
  if Region.wanted o (yielded ops a.tmps)=true then Oper.wp P o a w K Q else F:=by
 have hw:Region.wanted o (yielded ops a.tmps)=true:=by simp [Region.wanted,hgd]
 rw [if_pos hw]
 exact wp_append_arr s x ho T base hs hown E hx hxs hbytes h63 hbase h
theorem run_append_full {P:Program} {w:World} {t e:TypeId} {size bytes:Nat} (T:ElemT P t e size bytes) (ty:TypeId) {α:Type} {enc:α→List Value} (E:EncT enc size)
  {ba:Option Addr} {n:Nat} {ys xs:List α} (hd:Arr w enc size (.slice ba n n) ys) {v2:Value} (hx:Arr w enc size v2 xs)
  (hbytes:(n+xs.length) * bytes≤140737488355328) (h63:n+xs.length≤maxLen) :
  ∃ v' w',(Builtin.append_ #[t,t] ty #[.slice ba n n,v2]).run P w = .ok v' w'∧Below w.heap.size w w' ∧
   ((xs=[]∧v' = .slice ba n n∧w' = w)∨(xs≠[]∧w'.ownsRow w.heap.size e size v' (n+xs.length) ((ys++xs).flatMap enc))):=by
 obtain ⟨i,z,hi,hz,hsz,hby,hzs⟩:=T.ex
 have ht:=T.ht
 subst hsz
 subst hby
 have hd0:=hd
 obtain ⟨ba',cap',hv,hl,hm,hc⟩:=hd
 simp only [Value.slice.injEq] at hv
 obtain ⟨rfl,hn,rfl⟩:=hv
 have hx0:=hx
 obtain ⟨bx,cx,rfl,hlx,hmx,hcx⟩:=hx
 by_cases he:xs=[]
 ·subst he
  refine ⟨.slice ba n n,w,?_,Below.refl _ _,Or.inl ⟨rfl,rfl,rfl⟩⟩
  rcases bx with _ | bx <;> rcases ba with _ | ba <;>
   simp [Builtin.append_,run_underlying ht,sizeOf,typeInfo,hi,Builtin.lenOf,Builtin.firstCells,loadCells,loadCellsFrom,storeCells]
 ·rcases hcx with h | ⟨b,off,rfl,hcx⟩
  ·exact absurd h he
  have hpos:0<xs.length:=by cases xs with | nil=>exact absurd rfl he | cons _ _=>simp
  have hnews:=Arr.cells E.len T.pos hx0
  have h1:∀ u∈xs.flatMap enc,u.oneCell' = true:=fun u hu=>by obtain ⟨x,_,h⟩:=List.mem_flatMap.1 hu;exact E.one x u h
  have hg63:n+xs.length≤9223372036854775807:=by unfold maxLen at h63;omega
  have hlen:((ys++xs).flatMap enc).length=(n+xs.length) * i.size:=by rw [flat_len E.len,List.length_append,hn]
  have fin:∀ (old:Nat),old<n+xs.length →
    (w.drew.alloc (.cells ((ys.flatMap enc).toArray++(xs.flatMap enc).toArray++Builtin.zeroCells z.cells (grownCap w (n+xs.length) old e - (n+xs.length))) e)).ownsRow w.heap.size e i.size
     (.slice (some ⟨w.heap.size,0,none⟩) (n+xs.length) (grownCap w (n+xs.length) old e)) (n+xs.length) ((ys++xs).flatMap enc) ∧
    Below w.heap.size w (w.drew.alloc (.cells ((ys.flatMap enc).toArray++(xs.flatMap enc).toArray++Builtin.zeroCells z.cells (grownCap w (n+xs.length) old e - (n+xs.length))) e)):=by
   intro old ho
   have hge:=grownCap_ge w (n+xs.length) old e
   have hcm:grownCap w (n+xs.length) old e≤maxLen:=grownCap_le_maxLen w (n+xs.length) old e h63
   refine ⟨⟨hlen,.inr ⟨w.heap.size,_,_,rfl,Nat.le_refl _,heap_alloc_new w.drew _,hge,hcm,?_,?_⟩⟩,((Below.refl _ _).drew).alloc (Nat.le_refl _) _⟩
   ·simp only [Array.size_append,List.size_toArray,size_zeroCells,hzs,flat_len E.len,← Nat.add_mul]
    rw [← hn]
    congr 1
    omega
   ·simp only [Array.toList_append]
    rw [← List.flatMap_append,← hlen]
    exact List.take_left
  rcases ba with _ | ⟨b0,o0,sp⟩
  ·have hys:ys=[]:=by
    rcases hc with h | ⟨_,_,h,_⟩
    ·exact h
    ·cases h
   subst hys
   simp only [List.length_nil] at hn
   subst hn
   have hr:=run_append_nil (P:=P) w t ty e i z ht hi hz ⟨b,off,none⟩ xs.length cx (xs.flatMap enc) (flat_len E.len xs) hnews hpos (by omega) (by simp only [Nat.zero_add] at hbytes;omega)
   have hf:=fin 0 (by omega)
   simp only [Nat.zero_add,List.nil_append,List.flatMap_nil,Array.empty_append] at hf hr ⊢
   exact ⟨_,_,hr,hf.2,Or.inr ⟨he,hf.1⟩⟩
  ·have holds:∀ j u,(ys.flatMap enc)[j]? = some u→w.cell? ((⟨b0,o0,sp⟩:Addr).add j)=some u:=by
    rcases hc with h | ⟨b',o',h,_⟩
    ·subst h;intro j u hu;simp at hu
    ·simp only [Option.some.injEq,Addr.mk.injEq] at h
     obtain ⟨rfl,rfl,rfl⟩:=h
     exact Arr.cells E.len T.pos hd0
   have hr:=run_append_grow (P:=P) w t ty e i z ht hi hz ⟨b0,o0,sp⟩ n n (ys.flatMap enc) (by rw [flat_len E.len,hn]) holds ⟨b,off,none⟩ xs.length cx (xs.flatMap enc) (flat_len E.len xs) hnews (by omega) (by omega) (growslice_fits (by omega) hbytes)
   have hf:=fin n (by omega)
   exact ⟨_,_,hr,hf.2,Or.inr ⟨he,hf.1⟩⟩
theorem wp_append_full {P:Program} {w:World} {o:Oper} {a:Act} {K:Act→World→Prop} {Q:Exit→Act→World→Prop} (s x:Operand) {t e:TypeId} {size bytes:Nat}
  (ho:o.op = .call { callee:=.builtin .append,args:=#[s,x],argTypes:=#[t,t] }) (T:ElemT P t e size bytes)
  {α:Type} {enc:α→List Value} (E:EncT enc size) {ba:Option Addr} {n:Nat} {ys xs:List α} (hs:a.eval s = .slice ba n n) (hd:Arr w enc size (.slice ba n n) ys)
  {v2:Value} (hx:a.eval x=v2) (hxs:Arr w enc size v2 xs)
  (hbytes:(n+xs.length) * bytes≤140737488355328) (h63:n+xs.length≤maxLen)
  (h:∀ v' w',Below w.heap.size w w'→((xs=[]∧v' = .slice ba n n∧w' = w)∨(xs≠[]∧w'.ownsRow w.heap.size e size v' (n+xs.length) ((ys++xs).flatMap enc)))→K (a.put o.dst v') w'):o.wp P a w K Q:=by
 obtain ⟨v',w',hr,h2,h3⟩:=run_append_full (w:=w) T o.type E hd hxs hbytes h63
 unfold Oper.wp execOp
 simp only [ho,resolve,invoke,builtin,Sem.run_bind,Sem.run_pure,Result.andThen_ok,List.map_toArray,List.map_cons,List.map_nil,hs,hx,hr]
 exact h v' w' h2 h3
def OwnE {α:Type} (w:World) (base:Nat) (e:TypeId) (enc:α→List Value) (size:Nat) (v:Value) (xs:List α):Prop :=
 (xs=[]∧∃ ba,v = .slice ba 0 0)∨w.ownsRow base e size v xs.length (xs.flatMap enc)
theorem arr_empty {α:Type} (w:World) (enc:α→List Value) (s:Nat) (ba:Option Addr):Arr w enc s (.slice ba 0 0) ([]:List α) :=
 ⟨ba,0,rfl,Nat.le_refl _,by unfold maxLen;omega,Or.inl rfl⟩
theorem OwnE.arr {α:Type} {w:World} {base:Nat} {e:TypeId} {enc:α→List Value} {size:Nat} (E:EncT enc size) {v:Value} {xs:List α} (h:OwnE w base e enc size v xs):Arr w enc size v xs:=by
 rcases h with ⟨rfl,ba,rfl⟩ | h
 ·exact arr_empty _ _ _ _
 ·exact Arr.own E.len h
theorem OwnE.form {α:Type} {w:World} {base:Nat} {e:TypeId} {enc:α→List Value} {size:Nat} {v:Value} {xs:List α} (h:OwnE w base e enc size v xs):∃ ba cap,v = .slice ba xs.length cap:=by
 rcases h with ⟨rfl,ba,rfl⟩ | ⟨_,⟨rfl,h⟩ | ⟨g,cap,_,rfl,_⟩⟩
 ·exact ⟨_,_,rfl⟩
 ·rw [h];exact ⟨_,_,rfl⟩
 ·exact ⟨_,_,rfl⟩
theorem OwnE.ext {α:Type} {w w' : World} {base:Nat} {e:TypeId} {enc:α→List Value} {size:Nat} {v:Value} {xs:List α} (h:OwnE w base e enc size v xs) (hb:Below w.heap.size w w'):OwnE w' base e enc size v xs:=by
 rcases h with h | ⟨h1,h⟩
 ·exact Or.inl h
 ·refine Or.inr ⟨h1,?_⟩
  rcases h with h | ⟨g,cap,cur,r1,r2,r3,r4⟩
  ·exact Or.inl h
  ·exact Or.inr ⟨g,cap,cur,r1,r2,(hb.block g (Array.getElem?_eq_some_iff.1 r3).1).trans r3,r4⟩
theorem OwnE.base {α:Type} {w:World} {base base' : Nat} {e:TypeId} {enc:α→List Value} {size:Nat} {v:Value} {xs:List α} (h:OwnE w base e enc size v xs) (hb:base'≤base):OwnE w base' e enc size v xs:=by
 rcases h with h | ⟨h1,h⟩
 ·exact Or.inl h
 ·refine Or.inr ⟨h1,?_⟩
  rcases h with h | ⟨g,cap,cur,r1,r2,r3⟩
  ·exact Or.inl h
  ·exact Or.inr ⟨g,cap,cur,r1,Nat.le_trans hb r2,r3⟩
theorem OwnE.keep {α:Type} {w w' : World} {base:Nat} {e:TypeId} {enc:α→List Value} {size:Nat} {v:Value} {xs:List α} {g:Nat} (h:OwnE w base e enc size v xs) (hg:w.grownBy w' (some g)) (hlt:g<base):OwnE w' base e enc size v xs:=by
 rcases h with h | h
 ·exact Or.inl h
 ·refine Or.inr (h.kept hg ?_)
  cases hv:v.ownBlock with
  | none=>exact Or.inl rfl
  | some k =>
   have:=(h.lt k hv).1
   right
   intro e
   have e:=Option.some.inj e
   omega
theorem own_keep0 {w w' : World} {base:Nat} {e:TypeId} {size:Nat} {v:Value} {n:Nat} {xs:List Value} (h:w.ownsRow base e size v n xs) (hg:w.grownBy w' none):w'.ownsRow base e size v n xs :=
 h.kept hg (by cases v.ownBlock <;> simp)
theorem own_keep {w w' : World} {base:Nat} {e:TypeId} {size:Nat} {v:Value} {n:Nat} {xs:List Value} {g:Nat} (h:w.ownsRow base e size v n xs) (hg:w.grownBy w' (some g)) (hlt:g<base):w'.ownsRow base e size v n xs:=by
 refine h.kept hg ?_
 cases hv:v.ownBlock with
 | none=>exact Or.inl rfl
 | some k =>
  have:=(h.lt k hv).1
  right
  intro e
  have e:=Option.some.inj e
  omega
theorem own_base {w:World} {base base' : Nat} {e:TypeId} {size:Nat} {v:Value} {n:Nat} {xs:List Value} (h:w.ownsRow base e size v n xs) (hb:base'≤base):w.ownsRow base' e size v n xs:=by
 refine ⟨h.1,?_⟩
 rcases h.2 with h | ⟨g,cap,cur,r1,r2,r3⟩
 ·exact Or.inl h
 ·exact Or.inr ⟨g,cap,cur,r1,Nat.le_trans hb r2,r3⟩
theorem own_form {w:World} {base:Nat} {e:TypeId} {size:Nat} {v:Value} {n:Nat} {xs:List Value} (h:w.ownsRow base e size v n xs):∃ ba cap,v = .slice ba n cap:=by
 obtain ⟨_,⟨rfl,rfl⟩ | ⟨g,cap,_,rfl,_⟩⟩:=h
 ·exact ⟨_,_,rfl⟩
 ·exact ⟨_,_,rfl⟩
theorem own_apart {w w' : World} {base base' : Nat} {e e' : TypeId} {size size' : Nat} {v v' : Value} {n n' : Nat} {xs xs' : List Value} (h:w.ownsRow base e size v n xs) (h' : w'.ownsRow base' e' size' v' n' xs') (hb:w.heap.size≤base') :
  v'.ownBlock=none∨v.ownBlock≠v'.ownBlock:=by
 cases hv' : v'.ownBlock with
 | none=>exact Or.inl rfl
 | some k' =>
  right
  intro e
  have h1:=(h.lt k' e).2
  have h2:=(h'.lt k' hv').1
  omega
theorem grownBy_setRow (w:World) (n:Nat) (cs:Array Value):w.grownBy (w.setRow n cs) (some n) :=
 ⟨rfl,rfl,rfl,by simp,fun k _ hk=>setRow_other w n k cs (fun e=>hk (by rw [e]))⟩
theorem below_setRow' {B n:Nat} {w0 w:World} (hb:Below B w0 w) (hB:B≤n) (cs:Array Value):Below B w0 (w.setRow n cs) :=
 hb.trans ⟨rfl,rfl,rfl,by simp,fun k hk=>setRow_other w n k cs (by omega)⟩
theorem set5 {w:World} {n:Nat} {t:TypeId} {a0 b0 c0 d0 e0:Value} (h:w.heap[n]? = some (.cells #[a0,b0,c0,d0,e0] t)) (a b c d e:Value) :
  ((((w.setCell ⟨n,0,none⟩ a).setCell ⟨n,1,none⟩ b).setCell ⟨n,2,none⟩ c).setCell ⟨n,3,none⟩ d).setCell ⟨n,4,none⟩ e=w.setRow n #[a,b,c,d,e]:=by
 rw [setCell_eq_setRow w n 0 _ t (0,0) a h]
 have h1:=setRow_heap w n _ (#[a0,b0,c0,d0,e0].setIfInBounds 0 a) t (0,0) h
 rw [setCell_eq_setRow _ n 1 _ t (0,0) b h1,setRow_setRow]
 have h2:=setRow_heap w n _ ((#[a0,b0,c0,d0,e0].setIfInBounds 0 a).setIfInBounds 1 b) t (0,0) h
 rw [setCell_eq_setRow _ n 2 _ t (0,0) c h2,setRow_setRow]
 have h3:=setRow_heap w n _ (((#[a0,b0,c0,d0,e0].setIfInBounds 0 a).setIfInBounds 1 b).setIfInBounds 2 c) t (0,0) h
 rw [setCell_eq_setRow _ n 3 _ t (0,0) d h3,setRow_setRow]
 have h4:=setRow_heap w n _ ((((#[a0,b0,c0,d0,e0].setIfInBounds 0 a).setIfInBounds 1 b).setIfInBounds 2 c).setIfInBounds 3 d) t (0,0) h
 rw [setCell_eq_setRow _ n 4 _ t (0,0) e h4,setRow_setRow]
 rfl
theorem two_boxes (w:World) (A B:Array Value) (t u:TypeId) :
  Below w.heap.size w ((w.alloc (.cells A t)).alloc (.cells B u))∧((w.alloc (.cells A t)).alloc (.cells B u)).heap.size=w.heap.size+2 ∧
  ((w.alloc (.cells A t)).alloc (.cells B u)).heap[w.heap.size]? = some (.cells A t)∧((w.alloc (.cells A t)).alloc (.cells B u)).heap[w.heap.size+1]? = some (.cells B u):=by
 refine ⟨(below_box _ _).trans ((below_box _ _).mono (by simp)),by simp,?_,?_⟩
 ·rw [((below_box (w.alloc (.cells A t)) (.cells B u)).block w.heap.size (by simp))]
  exact heap_alloc_new w _
 ·have:=heap_alloc_new (w.alloc (.cells A t)) (.cells B u)
  simpa using this
theorem one_box (w:World) (A:Array Value) (t:TypeId) :
  Below w.heap.size w (w.alloc (.cells A t))∧(w.alloc (.cells A t)).heap.size=w.heap.size+1∧(w.alloc (.cells A t)).heap[w.heap.size]? = some (.cells A t) :=
 ⟨below_box _ _,by simp,heap_alloc_new w _⟩
section
variable {H:Type} {enc:TypeId×Value→H} {P:Program}
theorem trodAll_below (hl:laidOutB P=true) {W W' : World} (hb:Below W.heap.size W W'):∀ (ts:List TypeId) (vs:List Value) (ds:List (DataW H)) (ps:List MemPlace),
  (∀ t∈ts,P.readableRec t=true∧t<P.types.size)→DataW.TrodAll enc P W 0 (fun _=>true) true ts vs ds ps→(∀ x∈ps,x.block<W.heap.size) →
  DataW.TrodAll enc P W' 0 (fun b=>decide (b<W.heap.size)) true ts vs ds ps:=by
 intro ts
 induction ts with
 | nil =>
  intro vs ds ps _ h _
  cases vs <;> cases ds <;> simp_all [DataW.TrodAll]
 | cons t ts ih =>
  intro vs ds ps hr h hlt
  cases vs with
  | nil=>simp [DataW.TrodAll] at h
  | cons v vs =>
   cases ds with
   | nil=>simp [DataW.TrodAll] at h
   | cons d ds =>
    obtain ⟨p,q,h1,h2,rfl⟩:=h
    refine ⟨p,q,?_,?_,rfl⟩
    ·exact Below.trod hl (hr t (by simp)).1 (hr t (by simp)).2 h1 hb (fun x hx=>hlt x (by simp [hx]))
    ·exact ih vs ds q (fun t ht=>hr t (by simp [ht])) h2 (fun x hx=>hlt x (by simp [hx]))
theorem post_of_below {f:Func} {s:ChangeSpec} {apart:Bool} {W W' : World} {args:Array Value} {ds gs:List (DataW H)} {before:List MemPlace} {tb:TypeId}
  (hl:laidOutB P=true) (hs:s.vars=[]) (hpar:∀ t∈f.params.toList,P.readableRec t=true∧t<P.types.size) (hres:f.resultTypes = #[tb]) (htb:P.underlying tb=some .bool)
  (hW:DataW.Whole enc P f.params.toList s.vars apart W args.toList ds gs before)
  (hfn:s.fn H ds={ results:=[.lit (.bool true)],args:=ds }) (hb:Below W.heap.size W W'):s.post enc P f apart true false false W args (.bool true) W':=by
 have hW':=hW
 obtain ⟨p,q,hA,hV,rfl,hfz,hnd⟩:=hW
 rw [hs] at hV
 obtain ⟨rfl,rfl⟩:=ChangeShapes.trodVars_none hV
 have hlt:∀ x∈p,x.block<W.heap.size:=fun x hx=>hW'.lt x (by simp [hx])
 refine ⟨ds,[],p++[],[],p,[],hW',?_,?_,?_,hb.frame _,fun h=>by cases h⟩
 ·rw [List.append_nil,hfn,hres]
  exact ChangeShapes.trodAll_mk1 (RowKit.shut_bool htb true)
 ·rw [List.append_nil,hfn]
  exact trodAll_below hl hb _ _ _ _ hpar hA hlt
 ·rw [List.append_nil,hfn,hs]
  exact rfl
end
end Go.Proofs.Ytgljbdcamagdbaa
namespace Go.Proofs.Ytgljbdcamagdbaa
open Go.RowKit
set_option maxHeartbeats 400000 in
theorem sameInts_core (ba bb:Option Addr) (n m c c' : Nat) (xs ys:List Int) (w:World) (hn:n=xs.length) (hm:m=ys.length) (hnc:n≤9223372036854775807) (_hmc:m≤9223372036854775807)
  (hx:∀ k x,xs[k]? = some x→∃ b off,ba=some ⟨b,off,none⟩∧b<w.heap.size∧w.cell? ⟨b,off+k,none⟩=some (.int .i64 x))
  (hy:∀ k x,ys[k]? = some x→∃ b off,bb=some ⟨b,off,none⟩∧b<w.heap.size∧w.cell? ⟨b,off+k,none⟩=some (.int .i64 x)) :
  Calls Try.prog 50 #[.slice ba n c,.slice bb m c'] w fun e w'=>e = .returned (.bool (decide (xs=ys)))∧Below w.heap.size w w':=by
 have HX:=Lib.hid hx;clear hx
 have HY:=Lib.hid hy;clear hy
 have HN:=Lib.hid hn;clear hn
 have HM:=Lib.hid hm;clear hm
 by_cases he:n=m
 ·subst he
  go_enter Try.func50,Try.ntmps50
  go_wp2
  go_loopw [5] (fun i wr=>∃ k:Nat,k≤n∧i = .int .i64 k∧Hid (xs.take k=ys.take k)∧Below w.heap.size w wr) (fun i _=>n - (intOf i).toNat)
  case atStart=>exact ⟨0,Nat.zero_le _,rfl,rfl,Below.refl _ _⟩
  case round =>
   obtain ⟨k,hk,rfl,hkk,hb⟩:=hrel
   by_cases hlt:k<n
   ·obtain ⟨x,hxk⟩:∃ x,xs[k]? = some x:=⟨_,List.getElem?_eq_getElem (by rw [← HN.out];exact hlt)⟩
    obtain ⟨y,hyk⟩:∃ x,ys[k]? = some x:=⟨_,List.getElem?_eq_getElem (by rw [← HM.out];exact hlt)⟩
    obtain ⟨b1,o1,rfl,hb1,c1⟩:=HX.out k x hxk
    obtain ⟨b2,o2,rfl,hb2,c2⟩:=HY.out k y hyk
    have d1:=(hb.cell (by exact hb1)).trans c1
    have d2:=(hb.cell (by exact hb2)).trans c2
    clear c1 c2 hb1 hb2
    have HXK:=Lib.hid hxk;clear hxk
    have HYK:=Lib.hid hyk;clear hyk
    have hI:(k:Int)<(n:Int):=by omega
    go_wp2
    go_quiet (fail)
    go_wp2
    ·go_ret
     have hxy:x≠y:=by simpa using ‹(x != y)=true›
     exact ⟨by rw [decide_eq_false (ne_of_at HXK.out HYK.out hxy)];rfl,below_drewN hb _⟩
    ·go_roundw
     case rel =>
      have hxy:x=y:=by simpa using ‹(x != y)=false›
      exact ⟨k+1,by omega,by go_num,take_eq_succ hkk HXK.out HYK.out hxy,below_drewN hb _⟩
     case measure=>simp [intOf];omega
   ·have hkn:k=n:=by omega
    have hxy:xs=ys:=by
     have h:=Hid.out hkk
     rwa [List.take_of_length_le (by rw [← HN.out];omega),List.take_of_length_le (by rw [← HM.out];omega)] at h
    clear hkk
    have HE:=Lib.hid hxy;clear hxy hkn
    go_wp2
    go_ret
    exact ⟨by rw [decide_eq_true HE.out];rfl,hb⟩
 ·have hne:xs≠ys:=by intro h;apply he;rw [HN.out,HM.out,h]
  have HE:=Lib.hid hne;clear hne
  go_enter Try.func50,Try.ntmps50
  go_wp2
  all_goals go_ret
  all_goals exact ⟨by rw [decide_eq_false HE.out];rfl,Below.refl _ _⟩
theorem sameInts_any {va vb:Value} {xs ys:List Int} {w:World} (hx:Arr w eI 1 va xs) (hy:Arr w eI 1 vb ys) :
  Calls Try.prog 50 #[va,vb] w fun e w'=>e = .returned (.bool (decide (xs=ys)))∧Below w.heap.size w w':=by
 obtain ⟨ba,c,rfl,h1,h2,h3⟩:=hx.at1
 obtain ⟨bb,c',rfl,h4,h5,h6⟩:=hy.at1
 exact sameInts_core ba bb _ _ c c' xs ys w rfl rfl (by omega) (by omega) h3 h6
end Go.Proofs.Ytgljbdcamagdbaa
namespace Go.Proofs.Ytgljbdcamagdbaa
open Go.RowKit
structure MC where
 cell:List Int
 stack:List Int
 queue:List Int
 set:List Int
 table:List (Int×Int)
 deriving DecidableEq
def Cont (w:World) (v:Value) (m:MC):Prop :=
 ∃ a b c d e,v = .agg #[a,b,c,d,e]∧Arr w eI 1 a m.cell∧Arr w eI 1 b m.stack∧Arr w eI 1 c m.queue∧Arr w eI 1 d m.set∧Arr w eP 2 e m.table
def mayB (m:MC):Bool:=decide (m.cell.length≤1) && incB m.set && incB (m.table.map (·.1))
theorem Cont.keep {w w' : World} {v:Value} {m:MC} (h:Cont w v m) (hk:∀ a u,w.cell? a=some u→w'.cell? a=some u):Cont w' v m:=by
 obtain ⟨a,b,c,d,e,rfl,h1,h2,h3,h4,h5⟩:=h
 exact ⟨a,b,c,d,e,rfl,h1.keep hk,h2.keep hk,h3.keep hk,h4.keep hk,h5.keep hk⟩
theorem Cont.below {w w' : World} {v:Value} {m:MC} (h:Cont w v m) (hb:Below w.heap.size w w'):Cont w' v m:=h.keep (keeps_below hb)
set_option maxHeartbeats 1000000 in
theorem mMay_core (b c:Value) (ba be bd:Option Addr) (nd ne na ca cd ce:Nat) (ds:List Int) (es:List (Int×Int)) (w:World)
  (hnd:nd=ds.length) (hne:ne=es.length) (hnc:nd≤9223372036854775807) (hmc:ne≤9223372036854775807)
  (hd:∀ k x,ds[k]? = some x→∃ b off,bd=some ⟨b,off,none⟩∧b<w.heap.size∧w.cell? ⟨b,off+k,none⟩=some (.int .i64 x))
  (he:∀ k x,es[k]? = some x→∃ b off,be=some ⟨b,off,none⟩∧b<w.heap.size∧w.cell? ⟨b,off+k * 2,none⟩=some (.int .i64 x.1)∧w.cell? ⟨b,off+k * 2+1,none⟩=some (.int .i64 x.2)) :
  Calls Try.prog 18 #[.agg #[.slice ba na ca,b,c,.slice bd nd cd,.slice be ne ce]] w fun e w'=>e = .returned (.bool (decide (na≤1) && incB ds && incB (es.map (·.1))))∧Below w.heap.size w w':=by
 have HD:=Lib.hid hd;clear hd
 have HE:=Lib.hid he;clear he
 have HND:=Lib.hid hnd;clear hnd
 have HNE:=Lib.hid hne;clear hne
 have x0:=box_cell w #[.slice ba na ca,b,c,.slice bd nd cd,.slice be ne ce] 29 0 _ rfl
 have x3:=box_cell w #[.slice ba na ca,b,c,.slice bd nd cd,.slice be ne ce] 29 3 _ rfl
 have x4:=box_cell w #[.slice ba na ca,b,c,.slice bd nd cd,.slice be ne ce] 29 4 _ rfl
 have X0:=Lib.hid x0;clear x0
 have X3:=Lib.hid x3;clear x3
 have X4:=Lib.hid x4;clear x4
 by_cases h1:na≤1
 ·go_enter Try.func18,Try.ntmps18
  go_wp2
  have hW0:w.heap.size+1≤(w.alloc (.cells #[.slice ba na ca,b,c,.slice bd nd cd,.slice be ne ce] 29)).heap.size:=by simp
  have hW0' : Below w.heap.size w (w.alloc (.cells #[.slice ba na ca,b,c,.slice bd nd cd,.slice be ne ce] 29)):=below_box _ _
  generalize w.alloc (.cells #[.slice ba na ca,b,c,.slice bd nd cd,.slice be ne ce] 29)=W1 at *
  go_loopw [3] (fun i wr=>∃ k:Nat,1≤k∧(k≤nd∨k=1)∧i = .int .i64 k∧Hid (IncTo ds k)∧Below (w.heap.size+1) W1 wr) (fun i _=>nd - (intOf i).toNat)
  case atStart=>exact ⟨1,by omega,Or.inr rfl,rfl,fun i x y h=>by omega,Below.refl _ _⟩
  case round =>
   obtain ⟨k,hk1,hk,rfl,hkk,hb⟩:=hrel
   have y3:=(hb.cell (by show w.heap.size<w.heap.size+1;omega)).trans X3.out
   by_cases hlt:k<nd
   ·obtain ⟨x,hxk⟩:∃ x,ds[k - 1]? = some x:=⟨_,List.getElem?_eq_getElem (by rw [← HND.out];omega)⟩
    obtain ⟨y,hyk⟩:∃ x,ds[k]? = some x:=⟨_,List.getElem?_eq_getElem (by rw [← HND.out];exact hlt)⟩
    obtain ⟨b1,o1,rfl,hb1,c1⟩:=HD.out (k - 1) x hxk
    obtain ⟨b2,o2,hbo,hb2,c2⟩:=HD.out k y hyk
    simp only [Option.some.injEq,Addr.mk.injEq,and_true] at hbo
    obtain ⟨rfl,rfl⟩:=hbo
    have d1:=((hb.mono (Nat.le_succ _)).cell (by exact hb1)).trans ((hW0'.cell (by exact hb1)).trans c1)
    have d2:=((hb.mono (Nat.le_succ _)).cell (by exact hb1)).trans ((hW0'.cell (by exact hb1)).trans c2)
    clear c1 c2 hb1 hb2
    have HXK:=Lib.hid hxk;clear hxk
    have HYK:=Lib.hid hyk;clear hyk
    have hI:(k:Int)<(nd:Int):=by omega
    have hI1:(1:Int)≤(k:Int):=by omega
    go_wp2
    go_quiet (fail)
    go_wp2
    ·go_ret
     have hxy:y≤x:=by assumption
     exact ⟨by rw [incB_no' hk1 HXK.out HYK.out hxy];simp,below_drewN (hW0'.trans (hb.mono (by omega))) _⟩
    ·go_roundw
     case rel =>
      have hxy:x<y:=by assumption
      exact ⟨k+1,by omega,by omega,by go_num,hkk.out.step hk1 HXK.out HYK.out hxy,below_drewN hb _⟩
     case measure=>simp [intOf];omega
   ·have hset:incB ds=true:=hkk.out.all (by rw [← HND.out];omega)
    have HSET:=Lib.hid hset;clear hset hkk
    have hI:¬ (k:Int)<(nd:Int):=by omega
    have hb' : Below w.heap.size w wr:=hW0'.trans (hb.mono (by omega))
    have Y4:=Lib.hid ((hb.cell (by show w.heap.size<w.heap.size+1;omega)).trans X4.out)
    have hsz:w.heap.size+1≤wr.heap.size:=Nat.le_trans hW0 hb.size
    clear hb X0 X3 X4 hW0
    go_wp2
    clear y3 hI hk hk1 hlt
    obtain ⟨wo,rfl⟩:∃ wo:World,wo=wr:=⟨_,rfl⟩
    go_loopw [4] (fun i wr=>∃ k:Nat,1≤k∧(k≤ne∨k=1)∧i = .int .i64 k∧Hid (IncTo (es.map (·.1)) k)∧Below (w.heap.size+1) wo wr) (fun i _=>ne - (intOf i).toNat)
    case atStart=>exact ⟨1,by omega,Or.inr rfl,rfl,fun i x y h=>by omega,Below.refl _ _⟩
    case round =>
     obtain ⟨k,hk1,hk,rfl,hkk,hb⟩:=hrel
     have y4:=(hb.cell (by show w.heap.size<w.heap.size+1;omega)).trans Y4.out
     by_cases hlt:k<ne
     ·obtain ⟨x,hxk⟩:∃ x,es[k - 1]? = some x:=⟨_,List.getElem?_eq_getElem (by rw [← HNE.out];omega)⟩
      obtain ⟨y,hyk⟩:∃ x,es[k]? = some x:=⟨_,List.getElem?_eq_getElem (by rw [← HNE.out];exact hlt)⟩
      obtain ⟨b1,o1,rfl,hb1,c1,_⟩:=HE.out (k - 1) x hxk
      obtain ⟨b2,o2,hbo,hb2,c2,_⟩:=HE.out k y hyk
      simp only [Option.some.injEq,Addr.mk.injEq,and_true] at hbo
      obtain ⟨rfl,rfl⟩:=hbo
      have d1:=((hb.mono (Nat.le_succ _)).cell (by exact hb1)).trans ((hb'.cell (by exact hb1)).trans c1)
      have d2:=((hb.mono (Nat.le_succ _)).cell (by exact hb1)).trans ((hb'.cell (by exact hb1)).trans c2)
      clear c1 c2 hb1 hb2
      have HXK:Hid ((es.map (·.1))[k - 1]? = some x.1):=by show _=_;rw [List.getElem?_map,hxk];rfl
      have HYK:Hid ((es.map (·.1))[k]? = some y.1):=by show _=_;rw [List.getElem?_map,hyk];rfl
      clear hxk hyk
      obtain ⟨x,x2⟩:=x
      obtain ⟨y,y2⟩:=y
      have hI:(k:Int)<(ne:Int):=by omega
      have hI1:(1:Int)≤(k:Int):=by omega
      go_wp2
      go_quiet (fail)
      go_wp2
      ·go_ret
       have hxy:y≤x:=by assumption
       exact ⟨by rw [incB_no' hk1 HXK.out HYK.out hxy];simp,below_drewN (hb'.trans (hb.mono (by omega))) _⟩
      ·go_roundw
       case rel =>
        have hxy:x<y:=by assumption
        exact ⟨k+1,by omega,by omega,by go_num,hkk.out.step hk1 HXK.out HYK.out hxy,below_drewN hb _⟩
       case measure=>simp [intOf];omega
     ·have htab:incB (es.map (·.1))=true:=hkk.out.all (by rw [List.length_map,← HNE.out];omega)
      have HTAB:=Lib.hid htab;clear htab hkk
      have hI:¬ (k:Int)<(ne:Int):=by omega
      go_wp2
      go_ret
      exact ⟨by rw [HSET.out,HTAB.out];simp,hb'.trans (hb.mono (by omega))⟩
 ·have hI:(1:Int)<(na:Int):=by omega
  have E:(decide (na≤1) && incB ds && incB (es.map (·.1)))=false:=by simp [h1]
  have E':=Lib.hid E;clear E
  go_enter Try.func18,Try.ntmps18
  go_wp2
  go_ret
  exact ⟨by rw [E'.out];rfl,below_box _ _⟩
set_option maxHeartbeats 1000000 in
theorem rMay_core (b c:Value) (ba be bd:Option Addr) (nd ne na ca cd ce:Nat) (ds:List Int) (es:List (Int×Int)) (w:World)
  (hnd:nd=ds.length) (hne:ne=es.length) (hnc:nd≤9223372036854775807) (hmc:ne≤9223372036854775807)
  (hd:∀ k x,ds[k]? = some x→∃ b off,bd=some ⟨b,off,none⟩∧b<w.heap.size∧w.cell? ⟨b,off+k,none⟩=some (.int .i64 x))
  (he:∀ k x,es[k]? = some x→∃ b off,be=some ⟨b,off,none⟩∧b<w.heap.size∧w.cell? ⟨b,off+k * 2,none⟩=some (.int .i64 x.1)∧w.cell? ⟨b,off+k * 2+1,none⟩=some (.int .i64 x.2)) :
  Calls Try.prog 38 #[.agg #[.slice ba na ca,b,c,.slice bd nd cd,.slice be ne ce]] w fun e w'=>e = .returned (.bool (decide (na≤1) && incB ds && incB (es.map (·.1))))∧Below w.heap.size w w':=by
 have HD:=Lib.hid hd;clear hd
 have HE:=Lib.hid he;clear he
 have HND:=Lib.hid hnd;clear hnd
 have HNE:=Lib.hid hne;clear hne
 have x0:=box_cell w #[.slice ba na ca,b,c,.slice bd nd cd,.slice be ne ce] 29 0 _ rfl
 have x3:=box_cell w #[.slice ba na ca,b,c,.slice bd nd cd,.slice be ne ce] 29 3 _ rfl
 have x4:=box_cell w #[.slice ba na ca,b,c,.slice bd nd cd,.slice be ne ce] 29 4 _ rfl
 have X0:=Lib.hid x0;clear x0
 have X3:=Lib.hid x3;clear x3
 have X4:=Lib.hid x4;clear x4
 by_cases h1:na≤1
 ·go_enter Try.func38,Try.ntmps38
  go_wp2
  have hW0:w.heap.size+1≤(w.alloc (.cells #[.slice ba na ca,b,c,.slice bd nd cd,.slice be ne ce] 29)).heap.size:=by simp
  have hW0' : Below w.heap.size w (w.alloc (.cells #[.slice ba na ca,b,c,.slice bd nd cd,.slice be ne ce] 29)):=below_box _ _
  generalize w.alloc (.cells #[.slice ba na ca,b,c,.slice bd nd cd,.slice be ne ce] 29)=W1 at *
  go_loopw [3] (fun i wr=>∃ k:Nat,1≤k∧(k≤nd∨k=1)∧i = .int .i64 k∧Hid (IncTo ds k)∧Below (w.heap.size+1) W1 wr) (fun i _=>nd - (intOf i).toNat)
  case atStart=>exact ⟨1,by omega,Or.inr rfl,rfl,fun i x y h=>by omega,Below.refl _ _⟩
  case round =>
   obtain ⟨k,hk1,hk,rfl,hkk,hb⟩:=hrel
   have y3:=(hb.cell (by show w.heap.size<w.heap.size+1;omega)).trans X3.out
   by_cases hlt:k<nd
   ·obtain ⟨x,hxk⟩:∃ x,ds[k - 1]? = some x:=⟨_,List.getElem?_eq_getElem (by rw [← HND.out];omega)⟩
    obtain ⟨y,hyk⟩:∃ x,ds[k]? = some x:=⟨_,List.getElem?_eq_getElem (by rw [← HND.out];exact hlt)⟩
    obtain ⟨b1,o1,rfl,hb1,c1⟩:=HD.out (k - 1) x hxk
    obtain ⟨b2,o2,hbo,hb2,c2⟩:=HD.out k y hyk
    simp only [Option.some.injEq,Addr.mk.injEq,and_true] at hbo
    obtain ⟨rfl,rfl⟩:=hbo
    have d1:=((hb.mono (Nat.le_succ _)).cell (by exact hb1)).trans ((hW0'.cell (by exact hb1)).trans c1)
    have d2:=((hb.mono (Nat.le_succ _)).cell (by exact hb1)).trans ((hW0'.cell (by exact hb1)).trans c2)
    clear c1 c2 hb1 hb2
    have HXK:=Lib.hid hxk;clear hxk
    have HYK:=Lib.hid hyk;clear hyk
    have hI:(k:Int)<(nd:Int):=by omega
    have hI1:(1:Int)≤(k:Int):=by omega
    go_wp2
    go_quiet (fail)
    go_wp2
    ·go_ret
     have hxy:y≤x:=by assumption
     exact ⟨by rw [incB_no' hk1 HXK.out HYK.out hxy];simp,below_drewN (hW0'.trans (hb.mono (by omega))) _⟩
    ·go_roundw
     case rel =>
      have hxy:x<y:=by assumption
      exact ⟨k+1,by omega,by omega,by go_num,hkk.out.step hk1 HXK.out HYK.out hxy,below_drewN hb _⟩
     case measure=>simp [intOf];omega
   ·have hset:incB ds=true:=hkk.out.all (by rw [← HND.out];omega)
    have HSET:=Lib.hid hset;clear hset hkk
    have hI:¬ (k:Int)<(nd:Int):=by omega
    have hb' : Below w.heap.size w wr:=hW0'.trans (hb.mono (by omega))
    have Y4:=Lib.hid ((hb.cell (by show w.heap.size<w.heap.size+1;omega)).trans X4.out)
    have hsz:w.heap.size+1≤wr.heap.size:=Nat.le_trans hW0 hb.size
    clear hb X0 X3 X4 hW0
    go_wp2
    clear y3 hI hk hk1 hlt
    obtain ⟨wo,rfl⟩:∃ wo:World,wo=wr:=⟨_,rfl⟩
    go_loopw [4] (fun i wr=>∃ k:Nat,1≤k∧(k≤ne∨k=1)∧i = .int .i64 k∧Hid (IncTo (es.map (·.1)) k)∧Below (w.heap.size+1) wo wr) (fun i _=>ne - (intOf i).toNat)
    case atStart=>exact ⟨1,by omega,Or.inr rfl,rfl,fun i x y h=>by omega,Below.refl _ _⟩
    case round =>
     obtain ⟨k,hk1,hk,rfl,hkk,hb⟩:=hrel
     have y4:=(hb.cell (by show w.heap.size<w.heap.size+1;omega)).trans Y4.out
     by_cases hlt:k<ne
     ·obtain ⟨x,hxk⟩:∃ x,es[k - 1]? = some x:=⟨_,List.getElem?_eq_getElem (by rw [← HNE.out];omega)⟩
      obtain ⟨y,hyk⟩:∃ x,es[k]? = some x:=⟨_,List.getElem?_eq_getElem (by rw [← HNE.out];exact hlt)⟩
      obtain ⟨b1,o1,rfl,hb1,c1,_⟩:=HE.out (k - 1) x hxk
      obtain ⟨b2,o2,hbo,hb2,c2,_⟩:=HE.out k y hyk
      simp only [Option.some.injEq,Addr.mk.injEq,and_true] at hbo
      obtain ⟨rfl,rfl⟩:=hbo
      have d1:=((hb.mono (Nat.le_succ _)).cell (by exact hb1)).trans ((hb'.cell (by exact hb1)).trans c1)
      have d2:=((hb.mono (Nat.le_succ _)).cell (by exact hb1)).trans ((hb'.cell (by exact hb1)).trans c2)
      clear c1 c2 hb1 hb2
      have HXK:Hid ((es.map (·.1))[k - 1]? = some x.1):=by show _=_;rw [List.getElem?_map,hxk];rfl
      have HYK:Hid ((es.map (·.1))[k]? = some y.1):=by show _=_;rw [List.getElem?_map,hyk];rfl
      clear hxk hyk
      obtain ⟨x,x2⟩:=x
      obtain ⟨y,y2⟩:=y
      have hI:(k:Int)<(ne:Int):=by omega
      have hI1:(1:Int)≤(k:Int):=by omega
      go_wp2
      go_quiet (fail)
      go_wp2
      ·go_ret
       have hxy:y≤x:=by assumption
       exact ⟨by rw [incB_no' hk1 HXK.out HYK.out hxy];simp,below_drewN (hb'.trans (hb.mono (by omega))) _⟩
      ·go_roundw
       case rel =>
        have hxy:x<y:=by assumption
        exact ⟨k+1,by omega,by omega,by go_num,hkk.out.step hk1 HXK.out HYK.out hxy,below_drewN hb _⟩
       case measure=>simp [intOf];omega
     ·have htab:incB (es.map (·.1))=true:=hkk.out.all (by rw [List.length_map,← HNE.out];omega)
      have HTAB:=Lib.hid htab;clear htab hkk
      have hI:¬ (k:Int)<(ne:Int):=by omega
      go_wp2
      go_ret
      exact ⟨by rw [HSET.out,HTAB.out];simp,hb'.trans (hb.mono (by omega))⟩
 ·have hI:(1:Int)<(na:Int):=by omega
  have E:(decide (na≤1) && incB ds && incB (es.map (·.1)))=false:=by simp [h1]
  have E':=Lib.hid E;clear E
  go_enter Try.func38,Try.ntmps38
  go_wp2
  go_ret
  exact ⟨by rw [E'.out];rfl,below_box _ _⟩
theorem mMay {v:Value} {m:MC} {w:World} (h:Cont w v m) :
  Calls Try.prog 18 #[v] w fun e w'=>e = .returned (.bool (mayB m))∧Below w.heap.size w w':=by
 obtain ⟨a,b,c,d,e,rfl,h1,_,_,h4,h5⟩:=h
 obtain ⟨ba,ca,rfl,_,_,_⟩:=h1.at1
 obtain ⟨bd,cd,rfl,_,_,g4⟩:=h4.at1
 obtain ⟨be,ce,rfl,_,_,g5⟩:=h5.at2
 exact mMay_core b c ba be bd _ _ _ ca cd ce m.set m.table w rfl rfl (by omega) (by omega) g4 g5
theorem rMay0 {v:Value} {m:MC} {w:World} (h:Cont w v m) :
  Calls Try.prog 38 #[v] w fun e w'=>e = .returned (.bool (mayB m))∧Below w.heap.size w w':=by
 obtain ⟨a,b,c,d,e,rfl,h1,_,_,h4,h5⟩:=h
 obtain ⟨ba,ca,rfl,_,_,_⟩:=h1.at1
 obtain ⟨bd,cd,rfl,_,_,g4⟩:=h4.at1
 obtain ⟨be,ce,rfl,_,_,g5⟩:=h5.at2
 exact rMay_core b c ba be bd _ _ _ ca cd ce m.set m.table w rfl rfl (by omega) (by omega) g4 g5
set_option maxHeartbeats 400000 in
theorem rMay {v:Value} {m:MC} {w:World} (h:Cont w v m) :
  Calls Try.prog 20 #[v] w fun e w'=>e = .returned (.bool (mayB m))∧Below w.heap.size w w':=by
 obtain ⟨a,b,c,d,e,rfl,h1,h2,h3,h4,h5⟩:=h
 have H:Hid (Cont w (.agg #[a,b,c,d,e]) m):=⟨a,b,c,d,e,rfl,h1,h2,h3,h4,h5⟩
 clear h1 h2 h3 h4 h5
 go_enter Try.func20,Try.ntmps20
 go_wp2_with (go_at_call 38;refine (rMay0 (H.out.below (below_box _ _))).mono ?_;rintro e w' ⟨rfl,hb⟩)
 go_ret
 exact ⟨rfl,below_from (hb.mono (by simp))⟩
end Go.Proofs.Ytgljbdcamagdbaa
namespace Go.Proofs.Ytgljbdcamagdbaa
open Go.RowKit
theorem box5 {W wr:World} {n m:Nat} {a b c d e:Value} (hX:∀ j u,#[a,b,c,d,e][j]? = some u→W.cell? ⟨n,j,none⟩=some u) (hb:Below m W wr) (h:n<m) :
  wr.cell? ⟨n,0,none⟩=some a∧wr.cell? ⟨n,1,none⟩=some b∧wr.cell? ⟨n,2,none⟩=some c∧wr.cell? ⟨n,3,none⟩=some d∧wr.cell? ⟨n,4,none⟩=some e :=
 ⟨(hb.cell h).trans (hX 0 _ rfl),(hb.cell h).trans (hX 1 _ rfl),(hb.cell h).trans (hX 2 _ rfl),(hb.cell h).trans (hX 3 _ rfl),(hb.cell h).trans (hX 4 _ rfl)⟩
theorem below_call {B:Nat} {W wr w' : World} (hb:Below B W wr) (hB:B≤W.heap.size) (h:Below wr.heap.size wr w'):Below B W w' :=
 hb.trans (h.mono (Nat.le_trans hB hb.size))
set_option maxHeartbeats 1000000 in
theorem rSame_core (a b c d a' b' c' d' : Value) (be bf:Option Addr) (n n' ce cf:Nat) (m m' : MC) (w:World)
  (hn:n=m.table.length) (hn' : n' = m'.table.length) (hnc:n≤9223372036854775807) (hnc' : n'≤9223372036854775807)
  (ha:Arr w eI 1 a m.cell) (hb:Arr w eI 1 b m.stack) (hc:Arr w eI 1 c m.queue) (hd:Arr w eI 1 d m.set)
  (ha' : Arr w eI 1 a' m'.cell) (hb' : Arr w eI 1 b' m'.stack) (hc' : Arr w eI 1 c' m'.queue) (hd' : Arr w eI 1 d' m'.set)
  (he:∀ k x,m.table[k]? = some x→∃ b off,be=some ⟨b,off,none⟩∧b<w.heap.size∧w.cell? ⟨b,off+k * 2,none⟩=some (.int .i64 x.1)∧w.cell? ⟨b,off+k * 2+1,none⟩=some (.int .i64 x.2))
  (he' : ∀ k x,m'.table[k]? = some x→∃ b off,bf=some ⟨b,off,none⟩∧b<w.heap.size∧w.cell? ⟨b,off+k * 2,none⟩=some (.int .i64 x.1)∧w.cell? ⟨b,off+k * 2+1,none⟩=some (.int .i64 x.2)) :
  Calls Try.prog 39 #[.agg #[a,b,c,d,.slice be n ce],.agg #[a',b',c',d',.slice bf n' cf]] w fun e w'=>e = .returned (.bool (decide (m=m')))∧Below w.heap.size w w':=by
 have HE:=Lib.hid he;clear he
 have HE':=Lib.hid he';clear he'
 have HN:=Lib.hid hn;clear hn
 have HN':=Lib.hid hn';clear hn'
 have HA:=Lib.hid ha;clear ha
 have HB:=Lib.hid hb;clear hb
 have HC:=Lib.hid hc;clear hc
 have HD:=Lib.hid hd;clear hd
 have HA':=Lib.hid ha';clear ha'
 have HB':=Lib.hid hb';clear hb'
 have HC':=Lib.hid hc';clear hc'
 have HD':=Lib.hid hd';clear hd'
 obtain ⟨p1,q1⟩:∃ p,decide (m.cell=m'.cell)=p:=⟨_,rfl⟩
 obtain ⟨p2,q2⟩:∃ p,decide (m.stack=m'.stack)=p:=⟨_,rfl⟩
 obtain ⟨p3,q3⟩:∃ p,decide (m.queue=m'.queue)=p:=⟨_,rfl⟩
 obtain ⟨p4,q4⟩:∃ p,decide (m.set=m'.set)=p:=⟨_,rfl⟩
 have hfin:decide (m=m')=(p1 && p2 && p3 && p4 && decide (m.table=m'.table)):=by
  rw [← q1,← q2,← q3,← q4]
  obtain ⟨m1,m2,m3,m4,m5⟩:=m
  obtain ⟨n1,n2,n3,n4,n5⟩:=m'
  rw [Bool.eq_iff_iff]
  simp [and_assoc]
 have HF:=Lib.hid hfin;clear hfin
 have C1:Hid (∀ wx,Below w.heap.size w wx→Calls Try.prog 50 #[a,a'] wx fun e w'=>e = .returned (.bool p1)∧Below wx.heap.size wx w'):=by intro wx h;rw [← q1];exact sameInts_any (HA.out.below h) (HA'.out.below h)
 have C2:Hid (∀ wx,Below w.heap.size w wx→Calls Try.prog 50 #[b,b'] wx fun e w'=>e = .returned (.bool p2)∧Below wx.heap.size wx w'):=by intro wx h;rw [← q2];exact sameInts_any (HB.out.below h) (HB'.out.below h)
 have C3:Hid (∀ wx,Below w.heap.size w wx→Calls Try.prog 50 #[c,c'] wx fun e w'=>e = .returned (.bool p3)∧Below wx.heap.size wx w'):=by intro wx h;rw [← q3];exact sameInts_any (HC.out.below h) (HC'.out.below h)
 have C4:Hid (∀ wx,Below w.heap.size w wx→Calls Try.prog 50 #[d,d'] wx fun e w'=>e = .returned (.bool p4)∧Below wx.heap.size wx w'):=by intro wx h;rw [← q4];exact sameInts_any (HD.out.below h) (HD'.out.below h)
 clear q1 q2 q3 q4 HA HB HC HD HA' HB' HC' HD'
 by_cases hnn:n=n'
 ·subst hnn
  go_enter Try.func39,Try.ntmps39
  have hW0' : Below w.heap.size w ((w.alloc (.cells #[a,b,c,d,.slice be n ce] 29)).alloc (.cells #[a',b',c',d',.slice bf n cf] 29)):=(below_box _ _).trans ((below_box _ _).mono (by simp))
  have hsz:w.heap.size+2≤((w.alloc (.cells #[a,b,c,d,.slice be n ce] 29)).alloc (.cells #[a',b',c',d',.slice bf n cf] 29)).heap.size:=by simp
  have X:Hid (∀ j u,#[a,b,c,d,Value.slice be n ce][j]? = some u→((w.alloc (.cells #[a,b,c,d,.slice be n ce] 29)).alloc (.cells #[a',b',c',d',.slice bf n cf] 29)).cell? ⟨w.heap.size,j,none⟩=some u) :=
   fun j u h=>((below_box _ _).cell (by simp)).trans (box_cell w _ _ j u h)
  have X' : Hid (∀ j u,#[a',b',c',d',Value.slice bf n cf][j]? = some u→((w.alloc (.cells #[a,b,c,d,.slice be n ce] 29)).alloc (.cells #[a',b',c',d',.slice bf n cf] 29)).cell? ⟨w.heap.size+1,j,none⟩=some u) :=
   fun j u h=>box_cell' _ _ (by simp) j u h
  have hb:=Below.refl (w.heap.size+2) ((w.alloc (.cells #[a,b,c,d,.slice be n ce] 29)).alloc (.cells #[a',b',c',d',.slice bf n cf] 29))
  have HB2:=Lib.hid hb;clear hb
  have HSZ:=Lib.hid hsz;clear hsz
  go_wp2_with (first
   | (go_at_call 50;have hsz:=HSZ.out;generalize (w.alloc (.cells #[a,b,c,d,.slice be n ce] 29)).alloc (.cells #[a',b',c',d',.slice bf n cf] 29)=W1 at *;have hb:=HB2.out;clear HB2 HSZ;(with_reducible refine (C1.out _ hW0').mono ?_);rintro e w2 ⟨rfl,hb2⟩;have hb:=below_call hb hsz hb2;have hbw:=hW0'.trans (hb.mono (by omega));obtain ⟨y0,y1,y2,y3,y4⟩:=box5 X.out hb (by omega);obtain ⟨z0,z1,z2,z3,z4⟩:=box5 X'.out hb (by omega))
   | (go_at_call 50;(first | (with_reducible refine (C2.out _ hbw).mono ?_) | (with_reducible refine (C3.out _ hbw).mono ?_) | (with_reducible refine (C4.out _ hbw).mono ?_));rintro e w2 ⟨rfl,hb2⟩;have hb:=below_call hb hsz hb2;have hbw:=hW0'.trans (hb.mono (by omega));obtain ⟨y0,y1,y2,y3,y4⟩:=box5 X.out hb (by omega);obtain ⟨z0,z1,z2,z3,z4⟩:=box5 X'.out hb (by omega)))
  all_goals first | (go_ret;exact ⟨by rw [HF.out];simp_all,hbw⟩) | skip
  have hp4:p4=true:=by simpa using ‹(!p4)=false›
  have hp3:p3=true:=by assumption
  have hp2:p2=true:=by assumption
  have hp1:p1=true:=by assumption
  have HF' : Hid (decide (m=m')=decide (m.table=m'.table)):=by show _=_;rw [HF.out,hp1,hp2,hp3,hp4];rfl
  subst hp4
  simp only [Bool.not_true]
  clear HF hp1 hp2 hp3 C1 C2 C3 C4 y0 y1 y2 y3 y4 z0 z1 z2 z3 z4
  go_loopw [5] (fun i wr=>∃ k:Nat,k≤n∧i = .int .i64 k∧Hid (m.table.take k=m'.table.take k)∧Below (w.heap.size+2) W1 wr) (fun i _=>n - (intOf i).toNat)
  case atStart=>exact ⟨0,by omega,rfl,rfl,hb⟩
  case round =>
   obtain ⟨k,hk,rfl,hkk,hb⟩:=hrel
   obtain ⟨_,_,_,_,y4⟩:=box5 X.out hb (by omega)
   obtain ⟨_,_,_,_,z4⟩:=box5 X'.out hb (by omega)
   have hbw:Below w.heap.size w wr:=hW0'.trans (hb.mono (by omega))
   by_cases hlt:k<n
   ·obtain ⟨x,hxk⟩:∃ x,m.table[k]? = some x:=⟨_,List.getElem?_eq_getElem (by rw [← HN.out];omega)⟩
    obtain ⟨y,hyk⟩:∃ x,m'.table[k]? = some x:=⟨_,List.getElem?_eq_getElem (by rw [← HN'.out];exact hlt)⟩
    obtain ⟨b1,o1,rfl,hb1,c1,e1⟩:=HE.out k x hxk
    obtain ⟨b2,o2,rfl,hb2,c2,e2⟩:=HE'.out k y hyk
    have d1:=(hbw.cell (by exact hb1)).trans c1
    have d2:=(hbw.cell (by exact hb2)).trans c2
    have f1:=(hbw.cell (by exact hb1)).trans e1
    have f2:=(hbw.cell (by exact hb2)).trans e2
    clear c1 c2 e1 e2 hb1 hb2
    have HXK:=Lib.hid hxk;clear hxk
    have HYK:=Lib.hid hyk;clear hyk
    obtain ⟨x,x2⟩:=x
    obtain ⟨y,y2⟩:=y
    have hI:(k:Int)<(n:Int):=by omega
    by_cases hxy:x=y
    ·by_cases hxy2:x2=y2
     ·subst hxy
      subst hxy2
      have ht:=take_eq_succ hkk.out HXK.out HYK.out rfl
      have HT:=Lib.hid ht;clear ht
      go_wp2
      go_quiet (fail)
      go_wp2
      go_roundw
      case rel=>exact ⟨k+1,by omega,by go_num,HT,below_drewN hb _⟩
      case measure=>simp [intOf];omega
     ·subst hxy
      have hmm:m.table≠m'.table:=ne_of_at HXK.out HYK.out (by simpa using hxy2)
      have HMM:=Lib.hid hmm;clear hmm
      have hne:(x2 != y2)=true:=by simpa using hxy2
      clear hxy2
      go_wp2
      go_quiet (fail)
      go_wp2
      go_ret
      exact ⟨by rw [HF'.out,decide_eq_false HMM.out];rfl,below_drewN hbw _⟩
    ·have hmm:m.table≠m'.table:=ne_of_at HXK.out HYK.out (by simp [hxy])
     have HMM:=Lib.hid hmm;clear hmm
     have hne:(x != y)=true:=by simpa using hxy
     clear hxy
     go_wp2
     go_quiet (fail)
     go_wp2
     go_ret
     exact ⟨by rw [HF'.out,decide_eq_false HMM.out];rfl,below_drewN hbw _⟩
   ·have htab:m.table=m'.table:=by
     have h:=hkk.out
     rwa [List.take_of_length_le (by rw [← HN.out];omega),List.take_of_length_le (by rw [← HN'.out];omega)] at h
    have HTAB:=Lib.hid htab;clear htab hkk
    have hI:¬ (k:Int)<(n:Int):=by omega
    go_wp2
    go_ret
    exact ⟨by rw [HF'.out,decide_eq_true HTAB.out];rfl,hbw⟩
 ·have hmm:m≠m':=by rintro rfl;exact hnn (HN.out.trans HN'.out.symm)
  have HMM:=Lib.hid hmm;clear hmm
  go_enter Try.func39,Try.ntmps39
  have hW0' : Below w.heap.size w ((w.alloc (.cells #[a,b,c,d,.slice be n ce] 29)).alloc (.cells #[a',b',c',d',.slice bf n' cf] 29)):=(below_box _ _).trans ((below_box _ _).mono (by simp))
  have hsz:w.heap.size+2≤((w.alloc (.cells #[a,b,c,d,.slice be n ce] 29)).alloc (.cells #[a',b',c',d',.slice bf n' cf] 29)).heap.size:=by simp
  have X:Hid (∀ j u,#[a,b,c,d,Value.slice be n ce][j]? = some u→((w.alloc (.cells #[a,b,c,d,.slice be n ce] 29)).alloc (.cells #[a',b',c',d',.slice bf n' cf] 29)).cell? ⟨w.heap.size,j,none⟩=some u) :=
   fun j u h=>((below_box _ _).cell (by simp)).trans (box_cell w _ _ j u h)
  have X' : Hid (∀ j u,#[a',b',c',d',Value.slice bf n' cf][j]? = some u→((w.alloc (.cells #[a,b,c,d,.slice be n ce] 29)).alloc (.cells #[a',b',c',d',.slice bf n' cf] 29)).cell? ⟨w.heap.size+1,j,none⟩=some u) :=
   fun j u h=>box_cell' _ _ (by simp) j u h
  have hb:=Below.refl (w.heap.size+2) ((w.alloc (.cells #[a,b,c,d,.slice be n ce] 29)).alloc (.cells #[a',b',c',d',.slice bf n' cf] 29))
  have HB2:=Lib.hid hb;clear hb
  have HSZ:=Lib.hid hsz;clear hsz
  go_wp2_with (first
   | (go_at_call 50;have hsz:=HSZ.out;generalize (w.alloc (.cells #[a,b,c,d,.slice be n ce] 29)).alloc (.cells #[a',b',c',d',.slice bf n' cf] 29)=W1 at *;have hb:=HB2.out;clear HB2 HSZ;(with_reducible refine (C1.out _ hW0').mono ?_);rintro e w2 ⟨rfl,hb2⟩;have hb:=below_call hb hsz hb2;have hbw:=hW0'.trans (hb.mono (by omega));obtain ⟨y0,y1,y2,y3,y4⟩:=box5 X.out hb (by omega);obtain ⟨z0,z1,z2,z3,z4⟩:=box5 X'.out hb (by omega))
   | (go_at_call 50;(first | (with_reducible refine (C2.out _ hbw).mono ?_) | (with_reducible refine (C3.out _ hbw).mono ?_) | (with_reducible refine (C4.out _ hbw).mono ?_));rintro e w2 ⟨rfl,hb2⟩;have hb:=below_call hb hsz hb2;have hbw:=hW0'.trans (hb.mono (by omega));obtain ⟨y0,y1,y2,y3,y4⟩:=box5 X.out hb (by omega);obtain ⟨z0,z1,z2,z3,z4⟩:=box5 X'.out hb (by omega)))
  all_goals go_ret
  all_goals exact ⟨by rw [decide_eq_false HMM.out];rfl,hbw⟩
end Go.Proofs.Ytgljbdcamagdbaa
namespace Go.Proofs.Ytgljbdcamagdbaa
open Go.RowKit
theorem run_append_fit {P:Program} {w:World} {t e:TypeId} {size bytes:Nat} (T:ElemT P t e size bytes) (ty:TypeId) {α:Type} {enc:α→List Value} (E:EncT enc size)
  {ba:Option Addr} {n:Nat} {ys xs:List α} (hd:Arr w enc size (.slice ba n n) ys) {v2:Value} (hx:Arr w enc size v2 xs)
  (hfit:Builtin.nextslicecap (n+xs.length) n * bytes≤281474976710656) (h63:n+xs.length≤maxLen) :
  ∃ v' w',(Builtin.append_ #[t,t] ty #[.slice ba n n,v2]).run P w = .ok v' w'∧Below w.heap.size w w' ∧
   ((xs=[]∧v' = .slice ba n n∧w' = w)∨(xs≠[]∧w'.ownsRow w.heap.size e size v' (n+xs.length) ((ys++xs).flatMap enc))):=by
 obtain ⟨i,z,hi,hz,hsz,hby,hzs⟩:=T.ex
 have ht:=T.ht
 subst hsz
 subst hby
 have hd0:=hd
 obtain ⟨ba',cap',hv,hl,hm,hc⟩:=hd
 simp only [Value.slice.injEq] at hv
 obtain ⟨rfl,hn,rfl⟩:=hv
 have hx0:=hx
 obtain ⟨bx,cx,rfl,hlx,hmx,hcx⟩:=hx
 by_cases he:xs=[]
 ·subst he
  refine ⟨.slice ba n n,w,?_,Below.refl _ _,Or.inl ⟨rfl,rfl,rfl⟩⟩
  rcases bx with _ | bx <;> rcases ba with _ | ba <;>
   simp [Builtin.append_,run_underlying ht,sizeOf,typeInfo,hi,Builtin.lenOf,Builtin.firstCells,loadCells,loadCellsFrom,storeCells]
 ·rcases hcx with h | ⟨b,off,rfl,hcx⟩
  ·exact absurd h he
  have hpos:0<xs.length:=by cases xs with | nil=>exact absurd rfl he | cons _ _=>simp
  have hnews:=Arr.cells E.len T.pos hx0
  have h1:∀ u∈xs.flatMap enc,u.oneCell' = true:=fun u hu=>by obtain ⟨x,_,h⟩:=List.mem_flatMap.1 hu;exact E.one x u h
  have hg63:n+xs.length≤9223372036854775807:=by unfold maxLen at h63;omega
  have hlen:((ys++xs).flatMap enc).length=(n+xs.length) * i.size:=by rw [flat_len E.len,List.length_append,hn]
  have fin:∀ (old:Nat),old<n+xs.length →
    (w.drew.alloc (.cells ((ys.flatMap enc).toArray++(xs.flatMap enc).toArray++Builtin.zeroCells z.cells (grownCap w (n+xs.length) old e - (n+xs.length))) e)).ownsRow w.heap.size e i.size
     (.slice (some ⟨w.heap.size,0,none⟩) (n+xs.length) (grownCap w (n+xs.length) old e)) (n+xs.length) ((ys++xs).flatMap enc) ∧
    Below w.heap.size w (w.drew.alloc (.cells ((ys.flatMap enc).toArray++(xs.flatMap enc).toArray++Builtin.zeroCells z.cells (grownCap w (n+xs.length) old e - (n+xs.length))) e)):=by
   intro old ho
   have hge:=grownCap_ge w (n+xs.length) old e
   have hcm:grownCap w (n+xs.length) old e≤maxLen:=grownCap_le_maxLen w (n+xs.length) old e h63
   refine ⟨⟨hlen,.inr ⟨w.heap.size,_,_,rfl,Nat.le_refl _,heap_alloc_new w.drew _,hge,hcm,?_,?_⟩⟩,((Below.refl _ _).drew).alloc (Nat.le_refl _) _⟩
   ·simp only [Array.size_append,List.size_toArray,size_zeroCells,hzs,flat_len E.len,← Nat.add_mul]
    rw [← hn]
    congr 1
    omega
   ·simp only [Array.toList_append]
    rw [← List.flatMap_append,← hlen]
    exact List.take_left
  rcases ba with _ | ⟨b0,o0,sp⟩
  ·have hys:ys=[]:=by
    rcases hc with h | ⟨_,_,h,_⟩
    ·exact h
    ·cases h
   subst hys
   simp only [List.length_nil] at hn
   subst hn
   have hr:=run_append_nil (P:=P) w t ty e i z ht hi hz ⟨b,off,none⟩ xs.length cx (xs.flatMap enc) (flat_len E.len xs) hnews hpos (by omega) (by rw [Nat.zero_add,nextslicecap_zero hpos] at hfit;exact hfit)
   have hf:=fin 0 (by omega)
   simp only [Nat.zero_add,List.nil_append,List.flatMap_nil,Array.empty_append] at hf hr ⊢
   exact ⟨_,_,hr,hf.2,Or.inr ⟨he,hf.1⟩⟩
  ·have holds:∀ j u,(ys.flatMap enc)[j]? = some u→w.cell? ((⟨b0,o0,sp⟩:Addr).add j)=some u:=by
    rcases hc with h | ⟨b',o',h,_⟩
    ·subst h;intro j u hu;simp at hu
    ·simp only [Option.some.injEq,Addr.mk.injEq] at h
     obtain ⟨rfl,rfl,rfl⟩:=h
     exact Arr.cells E.len T.pos hd0
   have hr:=run_append_grow (P:=P) w t ty e i z ht hi hz ⟨b0,o0,sp⟩ n n (ys.flatMap enc) (by rw [flat_len E.len,hn]) holds ⟨b,off,none⟩ xs.length cx (xs.flatMap enc) (flat_len E.len xs) hnews (by omega) (by omega) hfit
   have hf:=fin n (by omega)
   exact ⟨_,_,hr,hf.2,Or.inr ⟨he,hf.1⟩⟩
theorem cap0 (k:Nat):Builtin.nextslicecap k 0=k:=by
 rcases Nat.eq_zero_or_pos k with rfl | h
 ·rfl
 ·exact nextslicecap_zero h
theorem cap1 (k:Nat):Builtin.nextslicecap (1+k) 1≤2+k:=by
 unfold Builtin.nextslicecap
 split
 ·omega
 ·simp only [show (1:Nat)<256 from by decide,if_true]
  omega
theorem wp_append_zero {P:Program} {w:World} {o:Oper} {a:Act} {K:Act→World→Prop} {Q:Exit→Act→World→Prop} (s x:Operand) {t e:TypeId} {size bytes:Nat}
  (ho:o.op = .call { callee:=.builtin .append,args:=#[s,x],argTypes:=#[t,t] }) (T:ElemT P t e size bytes)
  {α:Type} {enc:α→List Value} (E:EncT enc size) {ba:Option Addr} {xs:List α} (hs:a.eval s = .slice ba 0 0) (hd:Arr w enc size (.slice ba 0 0) ([]:List α))
  {v2:Value} (hx:a.eval x=v2) (hxs:Arr w enc size v2 xs)
  (hbytes:(0+xs.length) * bytes≤281474976710656) (h63:0+xs.length≤maxLen)
  (h:∀ v' w',Below w.heap.size w w'→((xs=[]∧v' = .slice ba 0 0∧w' = w)∨(xs≠[]∧w'.ownsRow w.heap.size e size v' (0+xs.length) (([]++xs).flatMap enc)))→K (a.put o.dst v') w'):o.wp P a w K Q:=by
 obtain ⟨v',w',hr,h2,h3⟩:=run_append_fit (w:=w) T o.type E hd hxs (by rw [cap0];exact hbytes) h63
 unfold Oper.wp execOp
 simp only [ho,resolve,invoke,builtin,Sem.run_bind,Sem.run_pure,Result.andThen_ok,List.map_toArray,List.map_cons,List.map_nil,hs,hx,hr]
 exact h v' w' h2 h3
theorem step_append_nil {P:Program} {w:World} {ops:Array Oper} {o:Oper} {a:Act} {K:Act→World→Prop} {Q:Exit→Act→World→Prop} {F:Prop} (hgd:o.guard=none) (s x:Operand) {t e:TypeId} {size bytes:Nat}
  (ho:o.op = .call { callee:=.builtin .append,args:=#[s,x],argTypes:=#[t,t] }) (T:ElemT P t e size bytes)
  {α:Type} {enc:α→List Value} (E:EncT enc size) (hs:a.eval s = .slice none 0 0) {v2:Value} {xs:List α} (hx:a.eval x=v2) (hxs:Arr w enc size v2 xs)
  (hbytes:(0+xs.length) * bytes≤281474976710656) (h63:0+xs.length≤maxLen)
  (h:∀ v' w',w'.ownsRow w.heap.size e size v' (0+xs.length) ([]++xs.flatMap enc)→w.grownBy w' (Value.ownBlock (.slice none 0 0))→K (a.put o.dst v') w') :
  if Region.wanted o (yielded ops a.tmps)=true then Oper.wp P o a w K Q else F:=by
 have hw:Region.wanted o (yielded ops a.tmps)=true:=by simp [Region.wanted,hgd]
 rw [if_pos hw]
 refine wp_append_zero s x ho T E hs (arr_empty _ _ _ _) hx hxs hbytes h63 fun v' w' hb h2=>h v' w' ?_ ⟨hb.os,hb.tape,hb.output,hb.size,fun k hk _=>hb.block k hk⟩
 rcases h2 with ⟨rfl,rfl,rfl⟩ | ⟨_,h2⟩
 ·exact World.ownsRow_nil _ _ _ _
 ·exact h2
theorem wpList_append_one {P:Program} {w:World} {ops:Array Oper} {rest:List Oper} {o:Oper} {a:Act} {Q:Exit→Act→World→Prop} (hgd:o.guard=none) (s x:Operand) {t e:TypeId} {size bytes:Nat}
  (ho:o.op = .call { callee:=.builtin .append,args:=#[s,x],argTypes:=#[t,t] }) (T:ElemT P t e size bytes) (base:Nat)
  {α:Type} {enc:α→List Value} (E:EncT enc size) {ba:Option Addr} {ys:List α} (hs:a.eval s = .slice ba 1 1) (hown:OwnE w base e enc size (.slice ba 1 1) ys)
  {v2:Value} {xs:List α} (hx:a.eval x=v2) (hxs:Arr w enc size v2 xs)
  (hbytes:(2+xs.length) * bytes≤281474976710656) (hbase:base≤w.heap.size)
  (h:∀ v' w',OwnE w' base e enc size v' (ys++xs)→Below base w w'→wpList P ops Q rest (a.put o.dst v') w') (h63:1+xs.length≤maxLen):wpList P ops Q (o :: rest) a w:=by
 refine wpList_plain hgd fun K hK=>?_
 have hl:ys.length=1:=by
  obtain ⟨_,_,hv⟩:=hown.form
  simp only [Value.slice.injEq] at hv
  exact hv.2.1.symm
 obtain ⟨v',w',hr,h2,h3⟩:=run_append_fit (w:=w) T o.type E (hown.arr E) hxs (Nat.le_trans (Nat.mul_le_mul_right _ (cap1 _)) hbytes) h63
 unfold Oper.wp execOp
 simp only [ho,resolve,invoke,builtin,Sem.run_bind,Sem.run_pure,Result.andThen_ok,List.map_toArray,List.map_cons,List.map_nil,hs,hx,hr]
 refine hK _ _ (h v' w' ?_ (h2.mono hbase))
 rcases h3 with ⟨rfl,rfl,rfl⟩ | ⟨_,h3⟩
 ·rw [List.append_nil];exact hown
 ·have e1:1+xs.length=(ys++xs).length:=by rw [List.length_append,hl]
  rw [e1] at h3
  exact OwnE.base (Or.inr h3) hbase
end Go.Proofs.Ytgljbdcamagdbaa
namespace Go.Proofs.Ytgljbdcamagdbaa
open Go.RowKit
theorem tI:ElemT Try.prog 26 3 1 8:=by
 refine ⟨Try.underlying26,?_,by decide⟩
 obtain ⟨i0,hi,hz0,hz1,hz2⟩:=info_parts (show (Try.prog.info? 3).map (fun i=>(i.zero,i.size,i.bytes))=some (some (.int .i64 0),1,8) by kernel_rfl)
 exact ⟨i0,_,hi,hz0,hz1,hz2,rfl⟩
theorem tP:ElemT Try.prog 27 76 2 16:=by
 refine ⟨Try.underlying27,?_,by decide⟩
 obtain ⟨i0,hi,hz0,hz1,hz2⟩:=info_parts (show (Try.prog.info? 76).map (fun i=>(i.zero,i.size,i.bytes))=some (some (.agg #[.int .i64 0,.int .i64 0]),2,16) by kernel_rfl)
 exact ⟨i0,_,hi,hz0,hz1,hz2,rfl⟩
def MC.ok (k:Nat) (m:MC):Prop :=
 (m.cell.length+k) * 8≤140737488355328∧(m.stack.length+k) * 8≤281474976710648∧(m.queue.length+k) * 8≤140737488355328∧(m.set.length+k) * 8≤140737488355328∧(m.table.length+k) * 16≤140737488355328
def Apart (x y:Value):Prop:=y.ownBlock=none∨x.ownBlock≠y.ownBlock
def OwnC (w:World) (base:Nat) (v:Value) (m:MC):Prop :=
 ∃ a b c d e,v = .agg #[a,b,c,d,e]∧w.ownsRow base 3 1 a m.cell.length (m.cell.flatMap eI)∧w.ownsRow base 3 1 b m.stack.length (m.stack.flatMap eI) ∧
  w.ownsRow base 3 1 c m.queue.length (m.queue.flatMap eI)∧w.ownsRow base 3 1 d m.set.length (m.set.flatMap eI)∧w.ownsRow base 76 2 e m.table.length (m.table.flatMap eP) ∧
  Apart a c∧Apart b c∧Apart d c∧Apart e c
theorem blk5 {W:World} {n:Nat} {a b c d e:Value} {t:TypeId} (h:W.heap[n]? = some (.cells #[a,b,c,d,e] t)) :
  (W.cell? ⟨n,0,none⟩=some a∧W.cell? ⟨n,1,none⟩=some b∧W.cell? ⟨n,2,none⟩=some c∧W.cell? ⟨n,3,none⟩=some d∧W.cell? ⟨n,4,none⟩=some e) ∧
  (W.frozen? ⟨n,0,none⟩=false∧W.frozen? ⟨n,1,none⟩=false∧W.frozen? ⟨n,2,none⟩=false∧W.frozen? ⟨n,3,none⟩=false∧W.frozen? ⟨n,4,none⟩=false):=by
 refine ⟨⟨?_,?_,?_,?_,?_⟩,?_,?_,?_,?_,?_⟩ <;> first | (rw [cell_of_row W n _ _ t (0,0) h];rfl) | simp [World.frozen?,h]
set_option maxHeartbeats 2000000 in
theorem rCopy0 {a b c d e:Value} {m:MC} {w:World} (h:Cont w (.agg #[a,b,c,d,e]) m) (hok:m.ok 0) :
  Calls Try.prog 40 #[.agg #[a,b,c,d,e]] w fun r w'=>∃ v,r = .returned v∧OwnC w' w.heap.size v m∧Below w.heap.size w w':=by
 obtain ⟨_,_,_,_,_,hv,h1,h2,h3,h4,h5⟩:=h
 cases hv
 have H1:=Lib.hid h1;clear h1
 have H2:=Lib.hid h2;clear h2
 have H3:=Lib.hid h3;clear h3
 have H4:=Lib.hid h4;clear h4
 have H5:=Lib.hid h5;clear h5
 obtain ⟨k1,k2,k3,k4,k5⟩:=hok
 go_enter Try.func40,Try.ntmps40
 go_wp2_with fail
 have hb00:Below w.heap.size w ((w.alloc (.cells #[a,b,c,d,e] 29)).alloc (.cells #[.slice none 0 0,.slice none 0 0,.slice none 0 0,.slice none 0 0,.slice none 0 0] 29)):=(below_box _ _).trans ((below_box _ _).mono (by simp))
 have hbs:w.heap.size+2≤((w.alloc (.cells #[a,b,c,d,e] 29)).alloc (.cells #[.slice none 0 0,.slice none 0 0,.slice none 0 0,.slice none 0 0,.slice none 0 0] 29)).heap.size:=by simp
 have X:Hid (∀ j u,#[a,b,c,d,e][j]? = some u→((w.alloc (.cells #[a,b,c,d,e] 29)).alloc (.cells #[.slice none 0 0,.slice none 0 0,.slice none 0 0,.slice none 0 0,.slice none 0 0] 29)).cell? ⟨w.heap.size,j,none⟩=some u) :=
  fun j u h=>((below_box _ _).cell (by simp)).trans (box_cell w _ _ j u h)
 have Y:Hid (((w.alloc (.cells #[a,b,c,d,e] 29)).alloc (.cells #[.slice none 0 0,.slice none 0 0,.slice none 0 0,.slice none 0 0,.slice none 0 0] 29)).heap[w.heap.size+1]? = some (.cells #[.slice none 0 0,.slice none 0 0,.slice none 0 0,.slice none 0 0,.slice none 0 0] 29)):=by
  show _=_
  have:=heap_alloc_new (w.alloc (.cells #[a,b,c,d,e] 29)) (.cells #[.slice none 0 0,.slice none 0 0,.slice none 0 0,.slice none 0 0,.slice none 0 0] 29)
  simpa using this
 generalize ((w.alloc (.cells #[a,b,c,d,e] 29)).alloc (.cells #[.slice none 0 0,.slice none 0 0,.slice none 0 0,.slice none 0 0,.slice none 0 0] 29))=W1 at *
 obtain ⟨x0,x1,x2,x3,x4⟩:=box5 X.out (Below.refl _ _) (show w.heap.size<W1.heap.size by omega)
 have hl2:w.heap.size<w.heap.size+2:=by omega
 have hb0:Below (w.heap.size+2) W1 W1.drew:=(Below.refl _ _).drew
 go_region_held3 (fun w'=>w'.cell? ⟨w.heap.size,0,none⟩=some a∧w'.cell? ⟨w.heap.size,1,none⟩=some b∧w'.cell? ⟨w.heap.size,2,none⟩=some c∧w'.cell? ⟨w.heap.size,3,none⟩=some d∧w'.cell? ⟨w.heap.size,4,none⟩=some e)
  (first | (go_keep;done) | (with_reducible exact box5 X.out hb0 hl2) | (with_reducible exact box5 X.out hb1 hl2) | (with_reducible exact box5 X.out hb2 hl2) | (with_reducible exact box5 X.out hb3 hl2) | (with_reducible exact box5 X.out hb4 hl2) | (with_reducible exact box5 X.out hb5 hl2))
  (first
   | (refine step_append_arr (by rfl) _ (.tmp 4) (by rfl) tI _ (by rfl) (World.ownsRow_nil _ _ _ _) eI_ok (by rfl) (H1.out.below (hb00.trans (hb0.mono (by omega)))) (by omega) (by unfold maxLen;omega) (Nat.le_refl _) ?_;intro v1 w1 ho1 hg1;simp only [Nat.zero_add,List.nil_append] at ho1;obtain ⟨p1,q1,rfl⟩:=own_form ho1;have hb1:Below (w.heap.size+2) W1 w1:=hb0.grown hg1 (by have:=hb0.size;omega) (by simp [Value.ownBlock]))
   | (refine step_append_nil (by rfl) _ (.tmp 7) (by rfl) tI eI_ok (by rfl) (by rfl) (H2.out.below (hb00.trans (hb1.mono (by omega)))) (by omega) (by unfold maxLen;omega) ?_;intro v2 w2 ho2 hg2;simp only [Nat.zero_add,List.nil_append] at ho2;obtain ⟨p2,q2,rfl⟩:=own_form ho2;have hb2:Below (w.heap.size+2) W1 w2:=hb1.grown hg2 (by have:=hb1.size;omega) (by simp [Value.ownBlock]))
   | (refine step_append_arr (by rfl) _ (.tmp 10) (by rfl) tI _ (by rfl) (World.ownsRow_nil _ _ _ _) eI_ok (by rfl) (H3.out.below (hb00.trans (hb2.mono (by omega)))) (by omega) (by unfold maxLen;omega) (Nat.le_refl _) ?_;intro v3 w3 ho3 hg3;simp only [Nat.zero_add,List.nil_append] at ho3;obtain ⟨p3,q3,rfl⟩:=own_form ho3;have hb3:Below (w.heap.size+2) W1 w3:=hb2.grown hg3 (by have:=hb2.size;omega) (by simp [Value.ownBlock]))
   | (refine step_append_arr (by rfl) _ (.tmp 13) (by rfl) tI _ (by rfl) (World.ownsRow_nil _ _ _ _) eI_ok (by rfl) (H4.out.below (hb00.trans (hb3.mono (by omega)))) (by omega) (by unfold maxLen;omega) (Nat.le_refl _) ?_;intro v4 w4 ho4 hg4;simp only [Nat.zero_add,List.nil_append] at ho4;obtain ⟨p4,q4,rfl⟩:=own_form ho4;have hb4:Below (w.heap.size+2) W1 w4:=hb3.grown hg4 (by have:=hb3.size;omega) (by simp [Value.ownBlock]))
   | (refine step_append_arr (by rfl) _ (.tmp 16) (by rfl) tP _ (by rfl) (World.ownsRow_nil _ _ _ _) eP_ok (by rfl) (H5.out.below (hb00.trans (hb4.mono (by omega)))) (by omega) (by unfold maxLen;omega) (Nat.le_refl _) ?_;intro v5 w5 ho5 hg5;simp only [Nat.zero_add,List.nil_append] at ho5;obtain ⟨p5,q5,rfl⟩:=own_form ho5;have hb5:Below (w.heap.size+2) W1 w5:=hb4.grown hg5 (by have:=hb4.size;omega) (by simp [Value.ownBlock]);obtain ⟨⟨z0,z1,z2,z3,z4⟩,⟨f0,f1,f2,f3,f4⟩⟩:=blk5 ((hb5.block _ (by omega)).trans Y.out)))
 have o5:=ho5
 have o4:=own_keep0 ho4 hg5
 have o3:=own_keep0 (own_keep0 ho3 hg4) hg5
 have o2:=own_keep0 (own_keep0 (own_keep0 ho2 hg3) hg4) hg5
 have o1:=own_keep0 (own_keep0 (own_keep0 (own_keep0 ho1 hg2) hg3) hg4) hg5
 have A13:=own_apart (own_keep0 ho1 hg2) o3 (Nat.le_refl _)
 have A23:=own_apart ho2 o3 (Nat.le_refl _)
 have A43:Apart (.slice p4 m.set.length q4) (.slice p3 m.queue.length q3):=(own_apart ho3 o4 (Nat.le_refl _)).elim (fun h=>by
  unfold Apart;rw [h];cases (Value.slice p3 m.queue.length q3).ownBlock <;> simp) (fun h=>Or.inr (Ne.symm h))
 have A53:Apart (.slice p5 m.table.length q5) (.slice p3 m.queue.length q3):=(own_apart (own_keep0 ho3 hg4) o5 (Nat.le_refl _)).elim (fun h=>by
  unfold Apart;rw [h];cases (Value.slice p3 m.queue.length q3).ownBlock <;> simp) (fun h=>Or.inr (Ne.symm h))
 have hY:=(hb5.block _ (show w.heap.size+1<w.heap.size+2 by omega)).trans Y.out
 have s1:=hb1.size
 have s2:=hb2.size
 have s3:=hb3.size
 have s4:=hb4.size
 have s0:=hb0.size
 have OB:Hid (OwnC (w5.setRow (w.heap.size+1) #[.slice p1 m.cell.length q1,.slice p2 m.stack.length q2,.slice p3 m.queue.length q3,.slice p4 m.set.length q4,.slice p5 m.table.length q5]) w.heap.size (.agg #[.slice p1 m.cell.length q1,.slice p2 m.stack.length q2,.slice p3 m.queue.length q3,.slice p4 m.set.length q4,.slice p5 m.table.length q5]) m):=by
  have G:=grownBy_setRow w5 (w.heap.size+1) #[.slice p1 m.cell.length q1,.slice p2 m.stack.length q2,.slice p3 m.queue.length q3,.slice p4 m.set.length q4,.slice p5 m.table.length q5]
  exact ⟨_,_,_,_,_,rfl,own_base (own_keep o1 G (by omega)) (by omega),own_base (own_keep o2 G (by omega)) (by omega),own_base (own_keep o3 G (by omega)) (by omega),own_base (own_keep o4 G (by omega)) (by omega),own_base (own_keep o5 G (by omega)) (by omega),A13,A23,A43,A53⟩
 have BB:Hid (Below w.heap.size w (w5.setRow (w.heap.size+1) #[.slice p1 m.cell.length q1,.slice p2 m.stack.length q2,.slice p3 m.queue.length q3,.slice p4 m.set.length q4,.slice p5 m.table.length q5])) :=
  below_setRow' (hb00.trans (hb5.mono (by omega))) (by omega) _
 clear o1 o2 o3 o4 o5 A13 A23 A43 A53 ho1 ho2 ho3 ho4 ho5 hg1 hg2 hg3 hg4 hg5
 go_wp2
 rw [set5 hY]
 obtain ⟨⟨z0,z1,z2,z3,z4⟩,_⟩:=blk5 (setRow_heap w5 (w.heap.size+1) _ #[.slice p1 m.cell.length q1,.slice p2 m.stack.length q2,.slice p3 m.queue.length q3,.slice p4 m.set.length q4,.slice p5 m.table.length q5] 29 (0,0) hY)
 refine bodyPost_ret (v:=.agg #[.slice p1 m.cell.length q1,.slice p2 m.stack.length q2,.slice p3 m.queue.length q3,.slice p4 m.set.length q4,.slice p5 m.table.length q5])
  (by simp [results,Try.results40,go_sem,z0,z1,z2,z3,z4]) rfl ⟨_,rfl,OB.out,BB.out⟩
end Go.Proofs.Ytgljbdcamagdbaa
