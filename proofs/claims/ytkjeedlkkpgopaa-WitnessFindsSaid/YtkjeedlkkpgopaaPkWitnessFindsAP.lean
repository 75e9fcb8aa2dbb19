/- WitnessFindsSaid: what its proof is made of. No condition. -/
import Derived.Test.YtkjeedlkkpgopaaPkWitnessFindsAO
set_option linter.unusedSimpArgs false
set_option linter.unusedVariables false
namespace Go.Proofs.Ytkjeedlkkpgopaa.Z
open Go Go.RowKit
theorem rmcopy_Z {v:Value} {m:MC} {w:World} (h:Cont w v m) (hok:m.ok 0):Calls Try.prog 84 #[v] w (RetB w (fun _=>True) 5 cT (mcR m)):=by
 obtain ⟨x0,x1,x2,x3,x4,rfl,g0,g1,g2,g3,g4⟩:=h
 refine (rCopy0 (m:=m) ⟨_,_,_,_,_,rfl,g0,g1,g2,g3,g4⟩ hok).mono ?_
 rintro e w' ⟨v',rfl,hown,hb⟩
 refine ⟨_,rfl,hb,fun b=>?_⟩
 obtain ⟨N,h1,h2⟩:=retB_D (ownC_D' hown) b
 refine ⟨N,h1,fun E2 hE=>?_⟩
 obtain ⟨h3,h4⟩:=h2 E2 hE
 exact ⟨h3,fun w'' _ hw''=>h4 w'' hw''⟩
set_option maxRecDepth 100000 in
set_option maxHeartbeats 400000 in
theorem ral_Z {w:World} {v:Value} {m:MC} (c:Cl) (h:Cont w v m) (hok:MC.okR m) (hm:mayB m=true) (ho:objOf c.op≠0):Calls Try.prog 63 #[v,.agg c.enc.toArray] w (RetB w (fun _=>True) 5 (ralT (allowM m c)) (mcR (allowM m c).1)):=by
 refine enterC (A:=[]) (c:=ir63) (rs:=rs63) (nt:=nt63) h [.agg (mcS 0),.agg c.sc] _ Try.func63 rfl (by kernel_rfl) (by kernel_rfl) rfl (fun E' h0=>by rw [List.map_cons,h0];simp [SV.den,SC.den,Cl.sc,Cl.enc]) (of_decide_eq_true rfl) ?_
 simp (maxSteps:=2000000) only [ir63,nt63,rs63,go_sem,↓reduceIte,Nat.reduceLT,Nat.reduceLeDiff,Nat.reduceAdd,Nat.reduceSub,Nat.reduceMul,Nat.reduceEqDiff,reduceCtorEq,Int.reduceToNat,Int.reduceEq,Int.reduceBEq,Int.reduceBNe,Int.reduceLT,Int.reduceLE,Int.reduceNeg,Int.reduceAdd,Int.reduceSub,Int.reduceMul,Int.reduceGE,Int.reduceGT,Cl.enc,iv,endO,mcS,mcA,Cl.sc,iv]
 refine callF 5 (rdT (doM m c.op c.arg c.data)) (mcR (doM m c.op c.arg c.data).1) (mcR_id _ _) (fun E a w' hs=>rmDo_Z c.op c.arg c.data (cont_at hs 0 rfl rfl rfl rfl rfl) hok hm ho) ?_
 simp (maxSteps:=2000000) only [go_sem,↓reduceIte,Nat.reduceLT,Nat.reduceLeDiff,Nat.reduceAdd,Nat.reduceSub,Nat.reduceMul,Nat.reduceEqDiff,reduceCtorEq,Int.reduceToNat,Int.reduceEq,Int.reduceBEq,Int.reduceBNe,Int.reduceLT,Int.reduceLE,Int.reduceNeg,Int.reduceAdd,Int.reduceSub,Int.reduceMul,Int.reduceGE,Int.reduceGT,Cl.enc,iv,endO,rdT,mcS,mcR,mcA]
 refine both (fun hk=>?_) (fun hk=>?_)
 ·have hk:c.kind=0:=by simpa using hk
  have hd:allowM m c=((doM m c.op c.arg c.data).1,true):=by simp [allowM,hk]
  rw [hd]
  exact retB5 _ _ _ _ _ (rdN_nw 8 List.mem_cons_self rfl) (rdN_nw 9 List.mem_cons_self rfl) (rdN_nw 10 List.mem_cons_self rfl) (rdN_nw 11 List.mem_cons_self rfl) (rdN_nw 12 List.mem_cons_self rfl) (ralT_ok _ _ _ _ _ _ _ fun E=>by rw [den_v])
 have hk:c.kind≠0:=by simpa using hk
 refine both (fun h4=>?_) (fun h4=>?_)
 ·have h4:c.kind=4:=by simpa using h4
  have hd:allowM m c=if fullB c.op=true then (m,true) else (mc0,false):=by simp [allowM,h4]
  refine both (fun hf=>?_) (fun n22=>?_)
  ·have hf:c.op=22:=by simpa using hf
   refine both (fun _=>?_) (fun hx=>absurd hx (by simp [hf]))
   have hf:fullB c.op=true:=by simp [fullB,hf]
   rw [hd,if_pos hf]
   refine callF 5 cT (mcR m) (mcR_id _ _) (fun E a w' hs=>rmcopy_Z (cont_at hs 0 rfl rfl rfl rfl rfl) (hok.1.le (by decide))) ?_
   simp (maxSteps:=2000000) only [go_sem,↓reduceIte,Nat.reduceLT,Nat.reduceLeDiff,Nat.reduceAdd,Nat.reduceSub,Nat.reduceMul,Nat.reduceEqDiff,reduceCtorEq,Int.reduceToNat,Int.reduceEq,Int.reduceBEq,Int.reduceBNe,Int.reduceLT,Int.reduceLE,Int.reduceNeg,Int.reduceAdd,Int.reduceSub,Int.reduceMul,Int.reduceGE,Int.reduceGT,Cl.enc,iv,endO,cT,mcS,mcR,mcA]
   exact retB5 _ _ _ _ _ (rdN_nw 15 List.mem_cons_self rfl) (rdN_nw 16 List.mem_cons_self rfl) (rdN_nw 17 List.mem_cons_self rfl) (rdN_nw 18 List.mem_cons_self rfl) (rdN_nw 19 List.mem_cons_self rfl) (ralT_ok _ _ _ _ _ _ _ fun E=>by rw [den_v])
  refine both (fun hf=>?_) (fun n30=>?_)
  ·have hf:c.op=30:=by simpa using hf
   refine both (fun _=>?_) (fun hx=>absurd hx (by simp [hf]))
   have hf:fullB c.op=true:=by simp [fullB,hf]
   rw [hd,if_pos hf]
   refine callF 5 cT (mcR m) (mcR_id _ _) (fun E a w' hs=>rmcopy_Z (cont_at hs 0 rfl rfl rfl rfl rfl) (hok.1.le (by decide))) ?_
   simp (maxSteps:=2000000) only [go_sem,↓reduceIte,Nat.reduceLT,Nat.reduceLeDiff,Nat.reduceAdd,Nat.reduceSub,Nat.reduceMul,Nat.reduceEqDiff,reduceCtorEq,Int.reduceToNat,Int.reduceEq,Int.reduceBEq,Int.reduceBNe,Int.reduceLT,Int.reduceLE,Int.reduceNeg,Int.reduceAdd,Int.reduceSub,Int.reduceMul,Int.reduceGE,Int.reduceGT,Cl.enc,iv,endO,cT,mcS,mcR,mcA]
   exact retB5 _ _ _ _ _ (rdN_nw 15 List.mem_cons_self rfl) (rdN_nw 16 List.mem_cons_self rfl) (rdN_nw 17 List.mem_cons_self rfl) (rdN_nw 18 List.mem_cons_self rfl) (rdN_nw 19 List.mem_cons_self rfl) (ralT_ok _ _ _ _ _ _ _ fun E=>by rw [den_v])
  refine both (fun hf=>?_) (fun n40=>?_)
  ·have hf:c.op=40:=by simpa using hf
   refine both (fun _=>?_) (fun hx=>absurd hx (by simp [hf]))
   have hf:fullB c.op=true:=by simp [fullB,hf]
   rw [hd,if_pos hf]
   refine callF 5 cT (mcR m) (mcR_id _ _) (fun E a w' hs=>rmcopy_Z (cont_at hs 0 rfl rfl rfl rfl rfl) (hok.1.le (by decide))) ?_
   simp (maxSteps:=2000000) only [go_sem,↓reduceIte,Nat.reduceLT,Nat.reduceLeDiff,Nat.reduceAdd,Nat.reduceSub,Nat.reduceMul,Nat.reduceEqDiff,reduceCtorEq,Int.reduceToNat,Int.reduceEq,Int.reduceBEq,Int.reduceBNe,Int.reduceLT,Int.reduceLE,Int.reduceNeg,Int.reduceAdd,Int.reduceSub,Int.reduceMul,Int.reduceGE,Int.reduceGT,Cl.enc,iv,endO,cT,mcS,mcR,mcA]
   exact retB5 _ _ _ _ _ (rdN_nw 15 List.mem_cons_self rfl) (rdN_nw 16 List.mem_cons_self rfl) (rdN_nw 17 List.mem_cons_self rfl) (rdN_nw 18 List.mem_cons_self rfl) (rdN_nw 19 List.mem_cons_self rfl) (ralT_ok _ _ _ _ _ _ _ fun E=>by rw [den_v])
  refine both (fun hf=>?_) (fun n50=>?_)
  ·have hf:c.op=50:=by simpa using hf
   refine both (fun _=>?_) (fun hx=>absurd hx (by simp [hf]))
   have hf:fullB c.op=true:=by simp [fullB,hf]
   rw [hd,if_pos hf]
   refine callF 5 cT (mcR m) (mcR_id _ _) (fun E a w' hs=>rmcopy_Z (cont_at hs 0 rfl rfl rfl rfl rfl) (hok.1.le (by decide))) ?_
   simp (maxSteps:=2000000) only [go_sem,↓reduceIte,Nat.reduceLT,Nat.reduceLeDiff,Nat.reduceAdd,Nat.reduceSub,Nat.reduceMul,Nat.reduceEqDiff,reduceCtorEq,Int.reduceToNat,Int.reduceEq,Int.reduceBEq,Int.reduceBNe,Int.reduceLT,Int.reduceLE,Int.reduceNeg,Int.reduceAdd,Int.reduceSub,Int.reduceMul,Int.reduceGE,Int.reduceGT,Cl.enc,iv,endO,cT,mcS,mcR,mcA]
   exact retB5 _ _ _ _ _ (rdN_nw 15 List.mem_cons_self rfl) (rdN_nw 16 List.mem_cons_self rfl) (rdN_nw 17 List.mem_cons_self rfl) (rdN_nw 18 List.mem_cons_self rfl) (rdN_nw 19 List.mem_cons_self rfl) (ralT_ok _ _ _ _ _ _ _ fun E=>by rw [den_v])
  refine both (fun hf=>?_) (fun n60=>?_)
  ·have hf:c.op=60:=by simpa using hf
   have hf:fullB c.op=true:=by simp [fullB,hf]
   rw [hd,if_pos hf]
   refine callF 5 cT (mcR m) (mcR_id _ _) (fun E a w' hs=>rmcopy_Z (cont_at hs 0 rfl rfl rfl rfl rfl) (hok.1.le (by decide))) ?_
   simp (maxSteps:=2000000) only [go_sem,↓reduceIte,Nat.reduceLT,Nat.reduceLeDiff,Nat.reduceAdd,Nat.reduceSub,Nat.reduceMul,Nat.reduceEqDiff,reduceCtorEq,Int.reduceToNat,Int.reduceEq,Int.reduceBEq,Int.reduceBNe,Int.reduceLT,Int.reduceLE,Int.reduceNeg,Int.reduceAdd,Int.reduceSub,Int.reduceMul,Int.reduceGE,Int.reduceGT,Cl.enc,iv,endO,cT,mcS,mcR,mcA]
   exact retB5 _ _ _ _ _ (rdN_nw 15 List.mem_cons_self rfl) (rdN_nw 16 List.mem_cons_self rfl) (rdN_nw 17 List.mem_cons_self rfl) (rdN_nw 18 List.mem_cons_self rfl) (rdN_nw 19 List.mem_cons_self rfl) (ralT_ok _ _ _ _ _ _ _ fun E=>by rw [den_v])
  have hf:¬ fullB c.op=true:=by
   simp only [b_decR,b_decL,bt_ite,bf_ite,bt_dec,bf_dec,bt_int,bf_int,bt_nint,bf_nint,bt_bool,bf_bool,bt_nbool,bf_nbool,bt_not,bf_not,bt_and,bf_and,bt_or,bf_or,Bool.false_eq_true,Bool.true_eq_false,Bool.not_eq_true,Bool.not_eq_false,reduceCtorEq,false_iff,true_iff,iff_false,iff_true,and_true,true_and,and_false,false_and,or_true,true_or,or_false,false_or,not_true_eq_false,not_false_eq_true,ne_eq] at n22 n30 n40 n50 n60
   simp [fullB,n22,n30,n40,n50,n60]
  rw [hd,if_neg hf]
  exact retB5 _ _ _ _ _ rdN_nil rdN_nil rdN_nil rdN_nil rdN_nil (ralT_ok _ _ _ _ _ _ _ fun E=>by rw [den_v])
 have h4:c.kind≠4:=by simpa using h4
 refine both (fun he=>?_) (fun he=>?_)
 ·have he:¬ (c.kind=(doM m c.op c.arg c.data).2.1∧c.val=(doM m c.op c.arg c.data).2.2):=by
   intro h
   rw [h.1,h.2] at he
   simp at he
  have hd:allowM m c=(mc0,false):=by unfold allowM;rw [if_neg hk,if_neg h4,if_neg he]
  rw [hd]
  exact retB5 _ _ _ _ _ rdN_nil rdN_nil rdN_nil rdN_nil rdN_nil (ralT_ok _ _ _ _ _ _ _ fun E=>by rw [den_v])
 ·simp only [b_decR,b_decL,bt_ite,bf_ite,bt_dec,bf_dec,bt_int,bf_int,bt_nint,bf_nint,bt_bool,bf_bool,bt_nbool,bf_nbool,bt_not,bf_not,bt_and,bf_and,bt_or,bf_or,Bool.false_eq_true,Bool.true_eq_false,Bool.not_eq_true,Bool.not_eq_false,reduceCtorEq,false_iff,true_iff,iff_false,iff_true,and_true,true_and,and_false,false_and,or_true,true_or,or_false,false_or,not_true_eq_false,not_false_eq_true,ne_eq] at he
  have he:c.kind=(doM m c.op c.arg c.data).2.1∧c.val=(doM m c.op c.arg c.data).2.2:=by constructor <;> omega
  have hd:allowM m c=((doM m c.op c.arg c.data).1,true):=by unfold allowM;rw [if_neg hk,if_neg h4,if_pos he]
  rw [hd]
  exact retB5 _ _ _ _ _ (rdN_nw 8 List.mem_cons_self rfl) (rdN_nw 9 List.mem_cons_self rfl) (rdN_nw 10 List.mem_cons_self rfl) (rdN_nw 11 List.mem_cons_self rfl) (rdN_nw 12 List.mem_cons_self rfl) (ralT_ok _ _ _ _ _ _ _ fun E=>by rw [den_v])
end Go.Proofs.Ytkjeedlkkpgopaa.Z
namespace Go.Proofs.Ytkjeedlkkpgopaa.Z
open Go Go.RowKit Go.ChangeShapes Go.WideShapes Go.ChangeAt
def _root_.Go.Proofs.Ytkjeedlkkpgopaa.MC.upto (m:MC) (n:Nat):Prop:=m.cell.length≤n∧m.stack.length≤n∧m.queue.length≤n∧m.set.length≤n∧m.table.length≤n
theorem _root_.Go.Proofs.Ytkjeedlkkpgopaa.MC.upto.okR {m:MC} {n:Nat} (h:m.upto n) (hn:n≤4000000000000):MC.okR m:=by
 obtain ⟨h0,h1,h2,h3,h4⟩:=h
 simp only [MC.okR,MC.ok]
 omega
section
variable {H:Type} {enc:TypeId×Value→H} {w:World}
end
end Go.Proofs.Ytkjeedlkkpgopaa.Z
namespace Go.Proofs.Ytkjeedlkkpgopaa
open Go.RowKit
theorem ins_len {α:Type} (l:List α) (i:Nat) (x:α):(insAt l i x).length=l.length+1:=by
 unfold insAt
 simp only [List.length_append,List.length_take,List.length_cons,List.length_drop]
 omega
theorem del_len {α:Type} (l:List α) (i:Nat):(delAt l i).length≤l.length:=by
 unfold delAt
 simp only [List.length_append,List.length_take,List.length_drop]
 omega
theorem doCell_len (l:List Int) (op arg:Int):(doCell l op arg).1.length≤max 1 l.length:=by
 unfold doCell
 split
 ·simp only [List.length_cons,List.length_nil];omega
 ·split
  ·simp only [List.length_nil];omega
  ·simp only [List.length_cons];omega
theorem doStack_len (l:List Int) (op arg:Int):(doStack l op arg).1.length≤l.length+1:=by
 unfold doStack
 split
 ·simp
 ·split <;> simp <;> omega
theorem doQueue_len (l:List Int) (op arg:Int):(doQueue l op arg).1.length≤l.length+1:=by
 unfold doQueue
 split
 ·simp
 ·split <;> simp <;> omega
theorem doSet_len (l:List Int) (op arg:Int):(doSet l op arg).1.length≤l.length+1:=by
 unfold doSet
 have h:=del_len l (pos l arg)
 (repeat' split) <;> simp [ins_len] <;> omega
theorem doTable_len (l:List (Int×Int)) (op arg data:Int):(doTable l op arg data).1.length≤l.length+1:=by
 unfold doTable
 have h:=del_len l (pos (keys l) arg)
 (repeat' split) <;> simp [ins_len] <;> omega
theorem doSet_inc {l:List Int} {op arg:Int} (h:incB l=true):incB (doSet l op arg).1=true:=by
 unfold doSet
 split
 ·split
  ·exact h
  ·next hk=>exact inc_ins h (fun hm=>hk ((has_mem h).2 hm))
 ·split
  ·split
   ·exact inc_del h
   ·exact h
  ·split <;> exact h
theorem doTable_inc {l:List (Int×Int)} {op arg data:Int} (h:incB (keys l)=true):incB (keys (doTable l op arg data).1)=true:=by
 unfold doTable
 split
 ·split
  ·exact h
  ·next hk =>
   show incB (keys (insAt l (pos (keys l) arg) (arg,data)))=true
   rw [show keys (insAt l (pos (keys l) arg) (arg,data))=insAt (keys l) (pos (keys l) arg) arg from map_insAt _ _ _ _]
   exact inc_ins h (fun hm=>hk ((has_mem h).2 hm))
 ·split
  ·split
   ·split
    ·show incB (keys (delAt l (pos (keys l) arg)))=true
     rw [show keys (delAt l (pos (keys l) arg))=delAt (keys l) (pos (keys l) arg) from map_delAt _ _ _]
     exact inc_del h
    ·exact h
   ·exact h
  ·exact h
theorem doM_may {m:MC} {op arg data:Int} (h:mayB m=true):mayB (doM m op arg data).1=true:=by
 unfold mayB at h ⊢
 simp only [Bool.and_eq_true,decide_eq_true_eq] at h ⊢
 obtain ⟨⟨h1,h2⟩,h3⟩:=h
 have g1:=doCell_len m.cell op arg
 unfold doM
 (repeat' split) <;> simp only
 ·exact ⟨⟨by omega,h2⟩,h3⟩
 ·exact ⟨⟨h1,h2⟩,h3⟩
 ·exact ⟨⟨h1,h2⟩,h3⟩
 ·exact ⟨⟨h1,doSet_inc h2⟩,h3⟩
 ·exact ⟨⟨h1,h2⟩,doTable_inc h3⟩
end Go.Proofs.Ytkjeedlkkpgopaa
namespace Go.Proofs.Ytkjeedlkkpgopaa.Z
open Go Go.RowKit
theorem doM_upto {m:MC} {n:Nat} {op arg data:Int} (h:m.upto n):(doM m op arg data).1.upto (n+1):=by
 have h1:=doCell_len m.cell op arg
 have h2:=doStack_len m.stack op arg
 have h3:=doQueue_len m.queue op arg
 have h4:=doSet_len m.set op arg
 have h5:=doTable_len m.table op arg data
 unfold MC.upto at h ⊢
 unfold doM
 (repeat' split) <;> simp only <;> omega
theorem mc0_may:mayB mc0=true:=by decide
theorem allowM_upto {m:MC} {n:Nat} {c:Cl} (h:m.upto n):(allowM m c).1.upto (n+1):=by
 have h0:m.upto (n+1):=by obtain ⟨a,b,c,d,e⟩:=h;exact ⟨by omega,by omega,by omega,by omega,by omega⟩
 have hz:mc0.upto (n+1):=by simp [MC.upto,mc0]
 unfold allowM
 (repeat' split) <;> first | exact doM_upto h | exact h0 | exact hz
theorem allowM_may {m:MC} {c:Cl} (h:mayB m=true):mayB (allowM m c).1=true:=by
 unfold allowM
 (repeat' split) <;> first | exact doM_may h | exact h | exact mc0_may
end Go.Proofs.Ytkjeedlkkpgopaa.Z
set_option autoImplicit false
namespace Go.Proofs.Ytkjeedlkkpgopaa.Z
structure Hist (σ:Type) where
 ended:Nat→Bool
 ah:Nat→Nat→Bool
 al:σ→Nat→σ×Bool
section
variable {σ:Type} (h:Hist σ) (cand:List Nat)
def Hist.play:σ→List Nat→Option σ
 | s,[]=>some s
 | s,i :: r=>if (h.al s i).2=true then play (h.al s i).1 r else none
def Hist.whole (o:List Nat):Bool:=cand.all fun i=>!h.ended i || o.contains i
def Hist.mayW (o:List Nat) (i:Nat):Bool:=!o.contains i && cand.all fun j=>!(j != i && h.ah j i) || o.contains j
def Hist.nextR (o:List Nat) (i:Nat):Bool:=!o.contains i && o.all fun x=>!h.ah i x
def Hist.srch (nx:List Nat→Nat→Bool):Nat→List Nat→σ→List (List Nat)
 | 0,_,_=>[]
 | f+1,o,s=>(if h.whole cand o=true then [o] else [])++cand.flatMap fun i=>if (nx o i && (h.al s i).2)=true then Hist.srch nx f (o++[i]) (h.al s i).1 else []
def Hist.inTime (o:List Nat):Prop:=o.Pairwise fun a b=>h.ah b a=false
structure Hist.Expl (s0:σ) (x:List Nat):Prop where
 nodup:x.Nodup
 sub:∀ i∈x,i∈cand
 whole:h.whole cand x=true
 inTime:h.inTime x
 plays:(h.play s0 x).isSome=true
structure Hist.Pre (s0:σ) (o:List Nat) (s:σ):Prop where
 nodup:o.Nodup
 sub:∀ i∈o,i∈cand
 inTime:h.inTime o
 plays:h.play s0 o=some s
variable {h} {cand}
theorem play_append (s:σ):∀ (o t:List Nat) (s:σ),h.play s (o++t)=(h.play s o).bind fun s'=>h.play s' t
 | [],t,s=>rfl
 | i :: o,t,s=>by
  simp only [List.cons_append,Hist.play]
  split
  ·exact play_append s o t _
  ·rfl
theorem Hist.Pre.nil (s:σ):h.Pre cand s [] s:=⟨List.nodup_nil,fun i hi=>(by cases hi),List.Pairwise.nil,rfl⟩
theorem len_sub {o c:List Nat} (hn:o.Nodup) (hs:∀ i∈o,i∈c):o.length≤c.length:=by
 induction o generalizing c with
 | nil=>simp
 | cons a o ih =>
  have ha:a∈c:=hs a (by simp)
  have hn':=List.nodup_cons.1 hn
  have:=ih (c:=c.erase a) hn'.2 fun i hi=>by
   have hne:i≠a:=fun e=>hn'.1 (e ▸ hi)
   exact (List.mem_erase_of_ne hne).2 (hs i (by simp [hi]))
  rw [List.length_erase_of_mem ha] at this
  have:0<c.length:=List.length_pos_of_mem ha
  simp only [List.length_cons]
  omega
theorem pre_len {s0 s:σ} {o:List Nat} (p:h.Pre cand s0 o s):o.length≤cand.length:=len_sub p.nodup p.sub
theorem nextR_iff {o:List Nat} {i:Nat}:h.nextR o i=true↔i ∉ o∧∀ x∈o,h.ah i x=false:=by
 simp [Hist.nextR,List.all_eq_true]
theorem mayW_iff {o:List Nat} {i:Nat}:h.mayW cand o i=true↔i ∉ o∧∀ j∈cand,j≠i→h.ah j i=true→j∈o:=by
 simp only [Hist.mayW,Bool.and_eq_true,Bool.not_eq_true',List.contains_eq_mem,decide_eq_false_iff_not,List.all_eq_true,Bool.or_eq_true,Bool.and_eq_false_iff,bne_eq_false_iff_eq,decide_eq_true_eq]
 constructor
 ·rintro ⟨h1,h2⟩
  refine ⟨h1,fun j hj hne ha=>?_⟩
  rcases h2 j hj with h3 | h3
  ·rcases h3 with h3 | h3
   ·exact absurd h3 hne
   ·rw [ha] at h3;cases h3
  ·exact h3
 ·rintro ⟨h1,h2⟩
  refine ⟨h1,fun j hj=>?_⟩
  by_cases hne:j=i
  ·exact Or.inl (Or.inl hne)
  ·cases ha:h.ah j i with
   | false=>exact Or.inl (Or.inr rfl)
   | true=>exact Or.inr (h2 j hj hne ha)
theorem whole_iff {o:List Nat}:h.whole cand o=true↔∀ i∈cand,h.ended i=true→i∈o:=by
 simp only [Hist.whole,List.all_eq_true,Bool.or_eq_true,Bool.not_eq_true',List.contains_eq_mem,decide_eq_true_eq]
 constructor
 ·intro h1 i hi he
  rcases h1 i hi with h2 | h2
  ·rw [he] at h2;cases h2
  ·exact h2
 ·intro h1 i hi
  cases he:h.ended i with
  | false=>exact Or.inl rfl
  | true=>exact Or.inr (h1 i hi he)
theorem Hist.Pre.step {s0 s:σ} {o:List Nat} {i:Nat} (p:h.Pre cand s0 o s) (hi:i∈cand) (hn:h.nextR o i=true) (ha:(h.al s i).2=true):h.Pre cand s0 (o++[i]) (h.al s i).1:=by
 obtain ⟨h1,h2⟩:=nextR_iff.1 hn
 refine ⟨?_,?_,?_,?_⟩
 ·rw [List.nodup_append]
  refine ⟨p.nodup,by simp,fun a ha b hb=>?_⟩
  rw [List.mem_singleton] at hb
  exact fun e=>h1 (by rw [← hb,← e];exact ha)
 ·intro a ha
  rcases List.mem_append.1 ha with ha | ha
  ·exact p.sub a ha
  ·rw [List.mem_singleton] at ha;exact ha ▸ hi
 ·unfold Hist.inTime
  rw [List.pairwise_append]
  refine ⟨p.inTime,by simp,fun a ha b hb=>?_⟩
  rw [List.mem_singleton] at hb
  rw [hb];exact h2 a ha
 ·rw [play_append s,p.plays]
  simp [Hist.play,ha]
theorem expl_next {s0 s:σ} {o t:List Nat} {i:Nat} (p:h.Pre cand s0 o s) (hx:h.Expl cand s0 (o++i :: t)):i∈cand∧h.nextR o i=true∧(h.al s i).2=true:=by
 refine ⟨hx.sub i (by simp),nextR_iff.2 ⟨fun hm=>?_,fun x hm=>?_⟩,?_⟩
 ·have:=hx.nodup
  rw [List.nodup_append] at this
  exact this.2.2 i hm i (by simp) rfl
 ·have:=hx.inTime
  unfold Hist.inTime at this
  rw [List.pairwise_append] at this
  exact this.2.2 x hm i (by simp)
 ·have:=hx.plays
  rw [play_append s,p.plays] at this
  simp only [Option.bind_some,Hist.play] at this
  split at this
  ·assumption
  ·cases this
theorem mem_srchR {s0:σ}:∀ (f:Nat) (o:List Nat) (s:σ),h.Pre cand s0 o s→cand.length+1≤f+o.length→∀ x,x∈h.srch cand h.nextR f o s↔h.Expl cand s0 x∧o <+: x
 | 0,o,s,p,hf,x=>by have:=pre_len p;omega
 | f + 1,o,s,p,hf,x=>by
  simp only [Hist.srch,List.mem_append,List.mem_flatMap]
  constructor
  ·rintro (hx | ⟨i,hi,hx⟩)
   ·split at hx
    ·next hw =>
     rw [List.mem_singleton] at hx
     subst hx
     exact ⟨⟨p.nodup,p.sub,hw,p.inTime,by rw [p.plays];rfl⟩,List.prefix_refl _⟩
    ·cases hx
   ·split at hx
    ·next hc =>
     simp only [Bool.and_eq_true] at hc
     obtain ⟨h1,h2⟩:=(mem_srchR f _ _ (p.step hi hc.1 hc.2) (by simp only [List.length_append,List.length_singleton];omega) x).1 hx
     exact ⟨h1,(List.prefix_append _ _).trans h2⟩
    ·cases hx
  ·rintro ⟨hx,t,rfl⟩
   cases t with
   | nil =>
    left
    rw [List.append_nil] at hx ⊢
    rw [if_pos hx.whole]
    simp
   | cons i t =>
    right
    obtain ⟨h1,h2,h3⟩:=expl_next p hx
    refine ⟨i,h1,?_⟩
    rw [if_pos (by rw [h2,h3];rfl)]
    exact (mem_srchR f _ _ (p.step h1 h2 h3) (by simp only [List.length_append,List.length_singleton];omega) _).2 ⟨hx,t,by simp⟩
def Hist.Closed (h:Hist σ) (cand o:List Nat):Prop:=∀ i∈o,∀ j∈cand,j≠i→h.ah j i=true→j∈o
theorem srch_eq {s0:σ} (he:∀ i j,h.ah i j=true→h.ended i=true):∀ (f:Nat) (o:List Nat) (s:σ),h.Pre cand s0 o s→h.Closed cand o→cand.length+1≤f+o.length→h.srch cand (h.mayW cand) f o s=h.srch cand h.nextR f o s
 | 0,o,s,p,hc,hf=>rfl
 | f + 1,o,s,p,hc,hf=>by
  simp only [Hist.srch]
  congr 1
  refine congrArg List.flatten (List.map_congr_left fun i hi=>?_)
  by_cases hal:(h.al s i).2=true
  ·by_cases hw:h.mayW cand o i=true
   ·obtain ⟨h1,h2⟩:=mayW_iff.1 hw
    have hn:h.nextR o i=true:=nextR_iff.2 ⟨h1,fun x hx=>by
     cases ha:h.ah i x with
     | false=>rfl
     | true=>exact absurd (hc x hx i hi (fun e=>h1 (e ▸ hx)) ha) h1⟩
    rw [if_pos (by rw [hw,hal];rfl),if_pos (by rw [hn,hal];rfl)]
    refine srch_eq he f _ _ (p.step hi hn hal) ?_ (by simp only [List.length_append,List.length_singleton];omega)
    intro a ha j hj hne haj
    rcases List.mem_append.1 ha with ha | ha
    ·exact List.mem_append_left _ (hc a ha j hj hne haj)
    ·rw [List.mem_singleton] at ha
     subst ha
     exact List.mem_append_left _ (h2 j hj hne haj)
   ·rw [if_neg (by simp [hw])]
    by_cases hn:h.nextR o i=true
    ·rw [if_pos (by rw [hn,hal];rfl)]
     symm
     rw [List.eq_nil_iff_forall_not_mem]
     intro x hx
     obtain ⟨hx1,t,rfl⟩:=(mem_srchR f _ _ (p.step hi hn hal) (by simp only [List.length_append,List.length_singleton];omega) x).1 hx
     refine hw (mayW_iff.2 ⟨(nextR_iff.1 hn).1,fun j hj hne ha=>?_⟩)
     have hm:=whole_iff.1 hx1.whole j hj (he j i ha)
     have ht:=hx1.inTime
     unfold Hist.inTime at ht
     rw [List.append_assoc,List.pairwise_append,List.singleton_append,List.pairwise_cons] at ht
     rw [List.append_assoc,List.singleton_append] at hm
     rcases List.mem_append.1 hm with hm | hm
     ·exact hm
     ·rcases List.mem_cons.1 hm with hm | hm
      ·exact absurd hm hne
      ·have:=ht.2.1.1 j hm
       rw [ha] at this;cases this
    ·rw [if_neg (by simp [hn])]
  ·rw [if_neg (by simp [hal]),if_neg (by simp [hal])]
def Hist.via (h:Hist σ) (nm:Nat→Nat):Hist σ:=⟨fun i=>h.ended (nm i),fun i j=>h.ah (nm i) (nm j),fun s i=>h.al s (nm i)⟩
theorem contains_map {nm:Nat→Nat} {o:List Nat} {i:Nat} (hinj:∀ a∈o,nm a=nm i→a=i):(o.map nm).contains (nm i)=o.contains i:=by
 rw [Bool.eq_iff_iff]
 simp only [List.contains_eq_mem,decide_eq_true_eq,List.mem_map]
 constructor
 ·rintro ⟨a,h1,h2⟩
  rw [← hinj a h1 h2];exact h1
 ·intro h;exact ⟨i,h,rfl⟩
theorem all_map {α β:Type} (f:α→β) (p:β→Bool) (l:List α):(l.map f).all p=l.all fun x=>p (f x):=by
 induction l with
 | nil=>rfl
 | cons a l ih=>simp only [List.map_cons,List.all_cons,ih]
theorem all_congr {α:Type} {p q:α→Bool} {l:List α} (h:∀ x∈l,p x=q x):l.all p=l.all q:=by
 induction l with
 | nil=>rfl
 | cons a l ih=>simp only [List.all_cons];rw [h a (by simp),ih fun x hx=>h x (by simp [hx])]
theorem srch_via (h:Hist σ) (nm:Nat→Nat) (c:List Nat) (hinj:∀ a∈c,∀ b∈c,nm a=nm b→a=b):∀ (f:Nat) (o:List Nat) (s:σ),(∀ i∈o,i∈c) →
  h.srch (c.map nm) (h.mayW (c.map nm)) f (o.map nm) s=((h.via nm).srch c ((h.via nm).mayW c) f o s).map (List.map nm)
 | 0,o,s,ho=>rfl
 | f + 1,o,s,ho=>by
  have hc:∀ j∈c,(o.map nm).contains (nm j)=o.contains j:=fun j hj=>contains_map fun a ha e=>hinj a (ho a ha) j hj e
  have hw:h.whole (c.map nm) (o.map nm)=(h.via nm).whole c o:=by
   unfold Hist.whole
   rw [all_map]
   exact all_congr fun j hj=>by rw [hc j hj];rfl
  have hm:∀ i∈c,h.mayW (c.map nm) (o.map nm) (nm i)=(h.via nm).mayW c o i:=by
   intro i hi
   unfold Hist.mayW
   rw [hc i hi,all_map]
   congr 1
   refine all_congr fun j hj=>?_
   rw [hc j hj]
   have:(nm j != nm i)=(j != i):=by
    rw [Bool.eq_iff_iff]
    simp only [bne_iff_ne,ne_eq]
    exact ⟨fun h e=>h (by rw [e]),fun h e=>h (hinj j hj i hi e)⟩
   rw [this];rfl
  simp only [Hist.srch]
  rw [List.map_append,hw,List.flatMap_map,List.map_flatMap]
  congr 1
  ·split <;> rfl
  ·refine congrArg List.flatten (List.map_congr_left fun i hi=>?_)
   rw [hm i hi]
   show (if (_ && (h.al s (nm i)).2)=true then _ else _)=List.map (List.map nm) (if (_ && (h.al s (nm i)).2)=true then _ else _)
   split
   ·have:=srch_via h nm c hinj f (o++[i]) (h.al s (nm i)).1 (fun j hj=>by
     rcases List.mem_append.1 hj with hj | hj
     ·exact ho j hj
     ·rw [List.mem_singleton] at hj;exact hj ▸ hi)
    rw [List.map_append] at this
    exact this
   ·rfl
end
section
variable {σ:Type} {h:Hist σ} {cand:List Nat}
theorem len_sub' {α:Type} [BEq α] [LawfulBEq α] {o c:List α} (hn:o.Nodup) (hs:∀ i∈o,i∈c):o.length≤c.length:=by
 induction o generalizing c with
 | nil=>simp
 | cons a o ih =>
  have ha:a∈c:=hs a (by simp)
  have hn':=List.nodup_cons.1 hn
  have:=ih (c:=c.erase a) hn'.2 fun i hi=>by
   have hne:i≠a:=fun e=>hn'.1 (e ▸ hi)
   exact (List.mem_erase_of_ne hne).2 (hs i (by simp [hi]))
  rw [List.length_erase_of_mem ha] at this
  have:0<c.length:=List.length_pos_of_mem ha
  simp only [List.length_cons]
  omega
structure Apart (h:Hist σ) {τ:Type} (ob:Nat→Nat) (pr:Nat→σ→τ):Prop where
 own:∀ s t i,pr (ob i) s=pr (ob i) t→(h.al s i).2=(h.al t i).2∧pr (ob i) (h.al s i).1=pr (ob i) (h.al t i).1
 other:∀ s i k,(h.al s i).2=true→k≠ob i→pr k (h.al s i).1=pr k s
end
abbrev Mem:=List Int→Option Int
def pic (o:List Nat):List Int:=(List.range 8).map fun k=>if k<o.length then ((o.getD k 0:Nat):Int)+1 else 0
theorem pic_at (o:List Nat) {k:Nat} (hk:k<8):(pic o).getD k 0=if k<o.length then ((o.getD k 0:Nat):Int)+1 else 0:=by
 unfold pic
 rw [List.getD_eq_getElem?_getD,List.getElem?_map,List.getElem?_range hk]
 rfl
theorem pic_inj {o o' : List Nat} (h1:o.length≤8) (h2:o'.length≤8) (h:pic o=pic o'):o=o':=by
 have key:∀ k,k<8→(if k<o.length then ((o.getD k 0:Nat):Int)+1 else 0)=if k<o'.length then ((o'.getD k 0:Nat):Int)+1 else 0:=fun k hk=>by
  rw [← pic_at o hk,← pic_at o' hk,h]
 have hl:o.length=o'.length:=by
  rcases Nat.lt_trichotomy o.length o'.length with g | g | g
  ·have:=key o.length (by omega)
   rw [if_neg (by omega),if_pos g] at this
   omega
  ·exact g
  ·have:=key o'.length (by omega)
   rw [if_pos g,if_neg (by omega)] at this
   omega
 refine List.ext_getElem hl fun k hk hk'=>?_
 have:=key k (by omega)
 rw [if_pos hk,if_pos hk',List.getD_eq_getElem?_getD,List.getD_eq_getElem?_getD,List.getElem?_eq_getElem hk,List.getElem?_eq_getElem hk'] at this
 simp only [Option.getD_some] at this
 omega
section
variable {σ:Type} (h:Hist σ) (cand:List Nat)
def bump (wr:Int→Int) (f:Mem) (p:List Int):Mem:=fun q=>if q=p then some (wr ((f p).getD 0+1)) else f q
def Hist.lstG (rec:List Nat→σ→Mem→Option (List Nat)×Mem) (o:List Nat) (s:σ):List Nat→Mem→Option (List Nat)×Mem
 | [],f=>(none,f)
 | i :: is,f=>if (h.mayW cand o i && (h.al s i).2)=true then
   (if (rec (o++[i]) (h.al s i).1 f).1.isSome=true then rec (o++[i]) (h.al s i).1 f else lstG rec o s is (rec (o++[i]) (h.al s i).1 f).2)
  else lstG rec o s is f
def Hist.lstF (wr:Int→Int):Nat→List Nat→σ→Mem→Option (List Nat)×Mem
 | 0,_,_,f=>(none,f)
 | k+1,o,s,f=>if h.whole cand o=true then (some o,f) else if 0<(f (pic o)).getD 0 then (none,f) else
   (if (h.lstG cand (Hist.lstF wr k) o s cand f).1.isSome=true then h.lstG cand (Hist.lstF wr k) o s cand f else (none,bump wr (h.lstG cand (Hist.lstF wr k) o s cand f).2 (pic o)))
def Hist.Inv (s0:σ) (f:Mem):Prop:=∀ o s,h.Pre cand s0 o s→h.Closed cand o→0<(f (pic o)).getD 0→∀ x,h.Expl cand s0 x→¬ o <+: x
variable {h} {cand}
theorem head_nil {α:Type} {l:List α} (h:l.head? = none):l=[]:=by cases l with
 | nil=>rfl
 | cons a l=>cases h
theorem srchW_nil {s0 s:σ} (he:∀ i j,h.ah i j=true→h.ended i=true) {k:Nat} {o:List Nat} (p:h.Pre cand s0 o s) (hc:h.Closed cand o) (hf:cand.length+1≤k+o.length):h.srch cand (h.mayW cand) k o s=[]↔∀ x,h.Expl cand s0 x→¬ o <+: x:=by
 rw [srch_eq he k o s p hc hf,List.eq_nil_iff_forall_not_mem]
 constructor
 ·intro h1 x hx ho
  exact h1 x ((mem_srchR k o s p hf x).2 ⟨hx,ho⟩)
 ·intro h1 x hx
  obtain ⟨h2,h3⟩:=(mem_srchR k o s p hf x).1 hx
  exact h1 x h2 h3
theorem mayW_step {s0 s:σ} {o:List Nat} {i:Nat} (p:h.Pre cand s0 o s) (hc:h.Closed cand o) (hi:i∈cand) (hw:h.mayW cand o i=true) (hal:(h.al s i).2=true):h.Pre cand s0 (o++[i]) (h.al s i).1∧h.Closed cand (o++[i]):=by
 obtain ⟨h1,h2⟩:=mayW_iff.1 hw
 have hn:h.nextR o i=true:=nextR_iff.2 ⟨h1,fun x hx=>by
  cases ha:h.ah i x with
  | false=>rfl
  | true=>exact absurd (hc x hx i hi (fun e=>h1 (e ▸ hx)) ha) h1⟩
 refine ⟨p.step hi hn hal,?_⟩
 intro a ha j hj hne haj
 rcases List.mem_append.1 ha with ha | ha
 ·exact List.mem_append_left _ (hc a ha j hj hne haj)
 ·rw [List.mem_singleton] at ha
  subst ha
  exact List.mem_append_left _ (h2 j hj hne haj)
theorem lstF_ok {s0:σ} (wr:Int→Int) (h8:cand.length≤8) (he:∀ i j,h.ah i j=true→h.ended i=true):∀ (k:Nat) (o:List Nat) (s:σ) (f:Mem),h.Pre cand s0 o s→h.Closed cand o→cand.length+1≤k+o.length→h.Inv cand s0 f →
  (h.lstF cand wr k o s f).1=(h.srch cand (h.mayW cand) k o s).head?∧h.Inv cand s0 (h.lstF cand wr k o s f).2
 | 0,o,s,f,p,hc,hf,hI=>by have:=pre_len p;omega
 | k + 1,o,s,f,p,hc,hf,hI=>by
  have hG:∀ (is:List Nat),(∀ i∈is,i∈cand)→∀ f,h.Inv cand s0 f →
    (h.lstG cand (h.lstF cand wr k) o s is f).1=(is.flatMap fun i=>if (h.mayW cand o i && (h.al s i).2)=true then h.srch cand (h.mayW cand) k (o++[i]) (h.al s i).1 else []).head?∧h.Inv cand s0 (h.lstG cand (h.lstF cand wr k) o s is f).2:=by
   intro is
   induction is with
   | nil=>intro _ f hI;exact ⟨rfl,hI⟩
   | cons i is ih =>
    intro hs f hI
    simp only [Hist.lstG,List.flatMap_cons]
    by_cases hcnd:(h.mayW cand o i && (h.al s i).2)=true
    ·rw [if_pos hcnd,if_pos hcnd]
     have hcnd':=hcnd
     simp only [Bool.and_eq_true] at hcnd'
     obtain ⟨g1,g2⟩:=mayW_step p hc (hs i (by simp)) hcnd'.1 hcnd'.2
     obtain ⟨r1,r2⟩:=lstF_ok wr h8 he k (o++[i]) (h.al s i).1 f g1 g2 (by simp only [List.length_append,List.length_singleton];omega) hI
     by_cases hsm:(h.lstF cand wr k (o++[i]) (h.al s i).1 f).1.isSome=true
     ·rw [if_pos hsm]
      refine ⟨?_,r2⟩
      rw [r1]
      rw [r1] at hsm
      cases hl:h.srch cand (h.mayW cand) k (o++[i]) (h.al s i).1 with
      | nil=>rw [hl] at hsm;cases hsm
      | cons a l=>rfl
     ·rw [if_neg hsm]
      have hn:h.srch cand (h.mayW cand) k (o++[i]) (h.al s i).1=[]:=by
       rw [r1] at hsm
       cases hl:h.srch cand (h.mayW cand) k (o++[i]) (h.al s i).1 with
       | nil=>rfl
       | cons a l=>rw [hl] at hsm;simp at hsm
      rw [hn,List.nil_append]
      exact ih (fun j hj=>hs j (by simp [hj])) _ r2
    ·rw [if_neg hcnd,if_neg hcnd,List.nil_append]
     exact ih (fun j hj=>hs j (by simp [hj])) _ hI
  have hnil:=srchW_nil he p hc hf
  simp only [Hist.lstF]
  by_cases hw:h.whole cand o=true
  ·rw [if_pos hw]
   refine ⟨?_,hI⟩
   simp only [Hist.srch,if_pos hw]
   rfl
  ·rw [if_neg hw]
   have hsr:h.srch cand (h.mayW cand) (k+1) o s=cand.flatMap fun i=>if (h.mayW cand o i && (h.al s i).2)=true then h.srch cand (h.mayW cand) k (o++[i]) (h.al s i).1 else []:=by
    simp only [Hist.srch,if_neg hw]
    rfl
   by_cases hv:0<(f (pic o)).getD 0
   ·rw [if_pos hv]
    refine ⟨?_,hI⟩
    rw [hnil.2 (hI o s p hc hv)]
    rfl
   ·rw [if_neg hv]
    obtain ⟨r1,r2⟩:=hG cand (fun i hi=>hi) f hI
    rw [hsr]
    by_cases hsm:(h.lstG cand (h.lstF cand wr k) o s cand f).1.isSome=true
    ·rw [if_pos hsm]
     exact ⟨r1,r2⟩
    ·rw [if_neg hsm]
     have hn:(h.lstG cand (h.lstF cand wr k) o s cand f).1=none:=by simpa using hsm
     rw [hn] at r1
     refine ⟨r1,?_⟩
     have hno:=hnil.1 (by rw [hsr];exact head_nil r1.symm)
     intro o' s' p' hc' hv' x hx
     by_cases e:pic o' = pic o
     ·have e2:o' = o:=pic_inj (Nat.le_trans (pre_len p') h8) (Nat.le_trans (pre_len p) h8) e
      rw [e2]
      exact hno x hx
     ·simp only [bump,if_neg e] at hv'
      exact r2 o' s' p' hc' hv' x hx
theorem inv_nil {s0:σ}:h.Inv cand s0 fun _=>none:=fun o s _ _ hv=>by simp at hv
end
end Go.Proofs.Ytkjeedlkkpgopaa.Z
namespace Go.Proofs.Ytkjeedlkkpgopaa.Z
open Go Go.RowKit
def cAt (xs:List Cl) (i:Int):Cl:=xs.getD i.toNat cl0
def cntB (c:Cl):Bool:=objOf c.op != 0
structure IsO (xs:List Cl) (o:List Int):Prop where
 ok:∀ n∈o,0≤n∧n<xs.length∧cntB (cAt xs n)=true
 nodup:o.Nodup
 all:∀ i:Nat,i<xs.length→cntB (xs.getD i cl0)=true→(xs.getD i cl0).fin≠-1→(i:Int)∈o
noncomputable def pB (p:Prop):Bool:=@decide p (Classical.propDecidable _)
theorem pB_t {p:Prop}:pB p=true↔p:=by unfold pB;simp
theorem pB_f {p:Prop}:pB p=false↔¬ p:=by unfold pB;simp
theorem nodup_len {n:Nat}:∀ {o:List Int},o.Nodup→(∀ x∈o,0≤x∧x<n)→o.length≤n:=by
 intro o hn hs
 have h1:=len_sub' (o:=o) (c:=(List.range n).map fun (i:Nat)=>(i:Int)) hn fun i hi=>by
  obtain ⟨h1,h2⟩:=hs i hi
  exact List.mem_map.2 ⟨i.toNat,List.mem_range.2 (by omega),by omega⟩
 simpa using h1
theorem IsO.len {xs:List Cl} {o:List Int} (h:IsO xs o):o.length≤xs.length:=nodup_len h.nodup fun x hx=>⟨(h.ok x hx).1,(h.ok x hx).2.1⟩
theorem getD_mem {α:Type} {l:List α} {i:Nat} {d:α} (h:i<l.length):l.getD i d∈l:=by rw [List.getD_eq_getElem?_getD,List.getElem?_eq_getElem h];exact List.getElem_mem h
def ir72:IR:=(.seq (.ops [⟨(some 4),(.mv (.k (.c (.v (.bool false))))),none⟩]) (.kill [2,3,4,5,6,7,8,9,10,11] (.seq (.seq (.ops [⟨(some 5),(.mv (.k (.c (.v (.int .i64 0))))),none⟩]) (.blk 0 (.loop (.seq (.seq (.ops [⟨(some 6),(.mv (.t 5)),none⟩,⟨(some 7),(.mv (.t 0)),none⟩,⟨(some 8),(.len (.t 7)),none⟩,⟨(some 9),(.bin .lss (.t 6) (.t 8)),none⟩]) (.kill [4,6,7,8,10,11,12,13,14,15,16,17] (.cond (.t 9) .skip (.exit 0)))) (.kill [9] (.seq (.blk 1 (.seq (.ops [⟨(some 12),(.mv (.t 0)),none⟩,⟨(some 13),(.mv (.t 5)),none⟩,⟨(some 14),(.ia 1 (.t 12) (.t 13)),none⟩,⟨(some 15),(.ld false 1 (.t 14)),none⟩,⟨(some 16),(.mv (.t 1)),none⟩,⟨(some 17),(.bin .eql (.t 15) (.t 16)),none⟩]) (.kill [12,13,14,15,16] (.cond (.t 17) (.seq (.ops [⟨(some 4),(.mv (.k (.c (.v (.bool true))))),none⟩]) (.kill [0,1,5,17] .ret)) .skip)))) (.kill [4,12,13,14,15,16,17] (.ops [⟨(some 10),(.mv (.t 5)),none⟩,⟨(some 11),(.bin .add (.t 10) (.k (.c (.v (.int .i64 1))))),none⟩,⟨(some 5),(.mv (.t 11)),none⟩])))))))) (.kill [0,1,4,5,6,7,8,9,10,11,12,13,14,15,16,17] (.seq (.ops [⟨(some 4),(.mv (.k (.c (.v (.bool false))))),none⟩]) .ret)))))
def rs72:List RS:=[(.t 4)]
def nt72:Nat:=18
def ir55:IR:=(.seq (.ops [⟨(some 4),(.mv (.k (.c (.v (.bool false))))),none⟩]) (.kill [2,3,4,5,6,7,8,9,10,11] (.seq (.seq (.ops [⟨(some 5),(.mv (.k (.c (.v (.int .i64 0))))),none⟩]) (.blk 0 (.loop (.seq (.seq (.ops [⟨(some 8),(.mv (.t 5)),none⟩,⟨(some 9),(.mv (.t 1)),none⟩,⟨(some 10),(.len (.t 9)),none⟩,⟨(some 11),(.bin .lss (.t 8) (.t 10)),none⟩]) (.kill [4,6,8,9,10,12,13,14,15,16,17,18,19,20,21,22,23,24,25,26,27,28,29,30,31,32,33,34,35,36,37,38,39,40] (.cond (.t 11) .skip (.exit 0)))) (.kill [11] (.seq (.blk 1 (.seq (.ops [⟨(some 14),(.mv (.t 1)),none⟩,⟨(some 15),(.mv (.t 5)),none⟩,⟨(some 16),(.ia 1 (.t 14) (.t 15)),none⟩,⟨(some 17),(.ld false 1 (.t 16)),none⟩,⟨(some 6),(.mv (.t 17)),none⟩]) (.kill [14,15,16,17] (.seq (.ops [⟨(some 18),(.mv (.t 6)),none⟩,⟨(some 19),(.bin .lss (.t 18) (.k (.c (.v (.int .i64 0))))),none⟩,⟨(some 20),(.mv (.t 19)),none⟩,⟨(some 21),(.mv (.t 6)),(some (20,false))⟩,⟨(some 22),(.mv (.t 0)),(some (20,false))⟩,⟨(some 23),(.len (.t 22)),(some (20,false))⟩,⟨(some 24),(.bin .geq (.t 21) (.t 23)),(some (20,false))⟩,⟨(some 25),(.pick (.t 20) (.k (.c (.v (.bool true)))) (.t 24)),none⟩,⟨(some 26),(.mv (.t 25)),none⟩,⟨(some 27),(.mv (.t 0)),(some (26,false))⟩,⟨(some 28),(.mv (.t 6)),(some (26,false))⟩,⟨(some 29),(.ia 9 (.t 27) (.t 28)),(some (26,false))⟩,⟨(some 30),(.ld true 9 (.t 29)),(some (26,false))⟩,⟨(some 31),(.call 45 [(.t 30)]),(some (26,false))⟩,⟨(some 32),(.un .not (.t 31)),(some (26,false))⟩,⟨(some 33),(.pick (.t 26) (.k (.c (.v (.bool true)))) (.t 32)),none⟩,⟨(some 34),(.mv (.t 33)),none⟩,⟨(some 35),(.mv (.t 1)),(some (34,false))⟩,⟨(some 36),(.mv (.t 5)),(some (34,false))⟩,⟨(some 37),(.slc 1 (.t 35) none (some (.t 36)) none),(some (34,false))⟩,⟨(some 38),(.mv (.t 6)),(some (34,false))⟩,⟨(some 39),(.call 72 [(.t 37),(.t 38)]),(some (34,false))⟩,⟨(some 40),(.pick (.t 34) (.k (.c (.v (.bool true)))) (.t 39)),none⟩]) (.kill [6,18,19,20,21,22,23,24,25,26,27,28,29,30,31,32,33,34,35,36,37,38,39] (.cond (.t 40) (.seq (.ops [⟨(some 4),(.mv (.k (.c (.v (.bool false))))),none⟩]) (.kill [0,1,5,40] .ret)) .skip)))))) (.kill [4,6,14,15,16,17,18,19,20,21,22,23,24,25,26,27,28,29,30,31,32,33,34,35,36,37,38,39,40] (.ops [⟨(some 12),(.mv (.t 5)),none⟩,⟨(some 13),(.bin .add (.t 12) (.k (.c (.v (.int .i64 1))))),none⟩,⟨(some 5),(.mv (.t 13)),none⟩])))))))) (.kill [4,5,6,8,9,10,11,12,13,14,15,16,17,18,19,20,21,22,23,24,25,26,27,28,29,30,31,32,33,34,35,36,37,38,39,40] (.seq (.seq (.ops [⟨(some 7),(.mv (.k (.c (.v (.int .i64 0))))),none⟩]) (.blk 2 (.loop (.seq (.seq (.ops [⟨(some 41),(.mv (.t 7)),none⟩,⟨(some 42),(.mv (.t 0)),none⟩,⟨(some 43),(.len (.t 42)),none⟩,⟨(some 44),(.bin .lss (.t 41) (.t 43)),none⟩]) (.kill [4,41,42,43,45,46,47,48,49,50,51,52,53,54,55,56,57,58,59,60,61,62,63,64,65] (.cond (.t 44) .skip (.exit 2)))) (.kill [44] (.seq (.blk 3 (.seq (.ops [⟨(some 47),(.mv (.t 0)),none⟩,⟨(some 48),(.mv (.t 7)),none⟩,⟨(some 49),(.ia 9 (.t 47) (.t 48)),none⟩,⟨(some 50),(.ld true 9 (.t 49)),none⟩,⟨(some 51),(.call 45 [(.t 50)]),none⟩,⟨(some 52),(.mv (.t 51)),none⟩,⟨(some 53),(.mv (.t 0)),(some (52,true))⟩,⟨(some 54),(.mv (.t 7)),(some (52,true))⟩,⟨(some 55),(.ia 9 (.t 53) (.t 54)),(some (52,true))⟩,⟨(some 56),(.fa 5 (.t 55)),(some (52,true))⟩,⟨(some 57),(.ld false 1 (.t 56)),(some (52,true))⟩,⟨(some 58),(.bin .neq (.t 57) (.k (.c (.v (.int .i64 (-1)))))),(some (52,true))⟩,⟨(some 59),(.pick (.t 52) (.t 58) (.k (.c (.v (.bool false))))),none⟩,⟨(some 60),(.mv (.t 59)),none⟩,⟨(some 61),(.mv (.t 1)),(some (60,true))⟩,⟨(some 62),(.mv (.t 7)),(some (60,true))⟩,⟨(some 63),(.call 72 [(.t 61),(.t 62)]),(some (60,true))⟩,⟨(some 64),(.un .not (.t 63)),(some (60,true))⟩,⟨(some 65),(.pick (.t 60) (.t 64) (.k (.c (.v (.bool false))))),none⟩]) (.kill [47,48,49,50,51,52,53,54,55,56,57,58,59,60,61,62,63,64] (.cond (.t 65) (.seq (.ops [⟨(some 4),(.mv (.k (.c (.v (.bool false))))),none⟩]) (.kill [0,1,7,65] .ret)) .skip)))) (.kill [4,47,48,49,50,51,52,53,54,55,56,57,58,59,60,61,62,63,64,65] (.ops [⟨(some 45),(.mv (.t 7)),none⟩,⟨(some 46),(.bin .add (.t 45) (.k (.c (.v (.int .i64 1))))),none⟩,⟨(some 7),(.mv (.t 46)),none⟩])))))))) (.kill [0,1,4,7,41,42,43,44,45,46,47,48,49,50,51,52,53,54,55,56,57,58,59,60,61,62,63,64,65] (.seq (.ops [⟨(some 4),(.mv (.k (.c (.v (.bool true))))),none⟩]) .ret)))))))
def rs55:List RS:=[(.t 4)]
def nt55:Nat:=66
set_option maxRecDepth 100000 in
set_option maxHeartbeats 400000 in
theorem has_calls (w:World) (v:Value) (l:List Int) (n:Int) (h:Arr w eI 1 v l):Calls Try.prog 72 #[v,.int .i64 n] w (RetV w (.bool (decide (n∈l)))):=by
 have hlen:=Z.Arr.lenM h
 simp only [maxLen] at hlen
 refine enter1 (A:=[]) (c:=ir72) (rs:=rs72) (nt:=nt72) 0 eI_ok h [.c (.xv (0,0,0)),iA n] _ Try.func72 rfl (by kernel_rfl) (by kernel_rfl) rfl (fun E' h0=>by simp [SV.den,SC.den,iA,h0]) (of_decide_eq_true rfl) ?_
 simp (maxSteps:=2000000) only [ir72,nt72,rs72,go_sem,↓reduceIte,Nat.reduceLT,Nat.reduceLeDiff,Nat.reduceAdd,Nat.reduceSub,Nat.reduceMul,Nat.reduceEqDiff,reduceCtorEq,Int.reduceToNat,Int.reduceEq,Int.reduceBEq,Int.reduceBNe,Int.reduceLT,Int.reduceLE,Int.reduceNeg,Int.reduceAdd,Int.reduceSub,Int.reduceMul,Int.reduceGE,Int.reduceGT,Cl.enc,iv,endO,iA]
 refine loopI (ι:={ i:Nat // i≤l.length∧∀ k,k<i→l.getD k 0≠n }) (fun i=>⟨18,[(0,.c (.xv (0,0,0))),(1,.c (.v (.int .i64 n))),(5,.c (.v (.int .i64 (i.1:Nat))))],[],[(0,.one (arrOf eI 1 l 0))],[],1⟩)
  (fun i=>l.length - i.1) ⟨0,by omega,fun k hk=>by omega⟩ (le_tmps (by simp [TmpsSub,look])) ?_
 rintro ⟨i,hi,hg⟩
 simp (maxSteps:=2000000) only [go_sem,↓reduceIte,Nat.reduceLT,Nat.reduceLeDiff,Nat.reduceAdd,Nat.reduceSub,Nat.reduceMul,Nat.reduceEqDiff,reduceCtorEq,Int.reduceToNat,Int.reduceEq,Int.reduceBEq,Int.reduceBNe,Int.reduceLT,Int.reduceLE,Int.reduceNeg,Int.reduceAdd,Int.reduceSub,Int.reduceMul,Int.reduceGE,Int.reduceGT,Cl.enc,iv,endO,eI]
 refine both (fun hlt=>?_) (fun hge=>?_)
 ·rw [decide_eq_true_eq] at hlt
  have hlt:i<l.length:=by omega
  repeat (with_reducible refine And.intro (by first | (simp only [maxLen];omega) | omega | decide | (simp;done) | (simp [maxLen];omega)) ?_)
  refine both (fun he=>?_) (fun hne=>?_)
  ·refine retV fun E=>?_
   rw [den_c,den_v,Value.bool.injEq,eq_comm,decide_eq_true_eq]
   have:l.getD i 0=n:=by simpa using he
   exact this ▸ getD_mem hlt
  ·rw [wr_succ (by omega)]
   refine backI ⟨i+1,by omega,fun k hk=>?_⟩ (by simp only;omega) (le_tmps (by simp [TmpsSub,look]))
   by_cases e:k=i
   ·subst e;simpa using hne
   ·exact hg k (by omega)
 ·rw [decide_eq_false_iff_not] at hge
  refine retV fun E=>?_
  rw [den_c,den_v,Value.bool.injEq,eq_comm,decide_eq_false_iff_not]
  intro hm
  obtain ⟨k,hk,rfl⟩:=List.getElem_of_mem hm
  refine hg k (by omega) ?_
  rw [List.getD_eq_getElem?_getD,List.getElem?_eq_getElem hk];rfl
def IsO1 (xs:List Cl) (o:List Int) (i:Nat):Prop:=(∀ n∈o.take i,0≤n∧n<xs.length∧cntB (cAt xs n)=true)∧(o.take i).Nodup
def IsO2 (xs:List Cl) (o:List Int) (i:Nat):Prop:=∀ k:Nat,k<i→cntB (xs.getD k cl0)=true→(xs.getD k cl0).fin≠-1→(k:Int)∈o
theorem take_succ' {o:List Int} {i:Nat} (h:i<o.length):o.take (i+1)=o.take i++[o.getD i 0]:=by
 rw [List.take_succ_eq_append_getElem h,List.getD_eq_getElem?_getD,List.getElem?_eq_getElem h];rfl
theorem IsO1.step {xs:List Cl} {o:List Int} {i:Nat} (h:IsO1 xs o i) (hi:i<o.length) (h1:0≤o.getD i 0∧o.getD i 0<xs.length∧cntB (cAt xs (o.getD i 0))=true) (h2:o.getD i 0 ∉ o.take i):IsO1 xs o (i+1):=by
 unfold IsO1
 rw [take_succ' hi]
 refine ⟨fun n hn=>?_,?_⟩
 ·rcases List.mem_append.1 hn with hn | hn
  ·exact h.1 n hn
  ·rw [List.mem_singleton] at hn;rw [hn];exact h1
 ·rw [List.nodup_append]
  refine ⟨h.2,by simp,fun a ha b hb=>?_⟩
  rw [List.mem_singleton] at hb
  exact fun e=>h2 (by rw [← hb,← e];exact ha)
theorem IsO.fst {xs:List Cl} {o:List Int} (h:IsO xs o) {i:Nat} (hi:i<o.length):(0≤o.getD i 0∧o.getD i 0<xs.length∧cntB (cAt xs (o.getD i 0))=true)∧o.getD i 0 ∉ o.take i:=by
 refine ⟨h.ok _ (getD_mem hi),fun hm=>?_⟩
 have:=h.nodup
 rw [← List.take_append_drop (i+1) o,take_succ' hi,List.nodup_append,List.nodup_append] at this
 exact this.1.2.2 _ hm _ (by simp) rfl
set_option maxRecDepth 100000 in
set_option maxHeartbeats 400000 in
theorem isorder_calls (w:World) (v v' : Value) (xs:List Cl) (o:List Int) (h:Arr w Cl.enc 9 v xs) (h' : Arr w eI 1 v' o):Calls Try.prog 55 #[v,v'] w (RetV w (.bool (pB (IsO xs o)))):=by
 have hlen:=Z.Arr.lenM h
 have hlen':=Z.Arr.lenM h'
 simp only [maxLen] at hlen hlen'
 refine enter2 (A:=[]) (c:=ir55) (rs:=rs55) (nt:=nt55) cl0 cl_ok h 0 eI_ok h' [.c (.xv (0,0,0)),.c (.xv (1,0,0))] _ Try.func55 rfl (by kernel_rfl) (by kernel_rfl) rfl (fun E' h0 h1=>by simp [SV.den,SC.den,h0,h1]) (of_decide_eq_true rfl) ?_
 simp (maxSteps:=2000000) only [ir55,nt55,rs55,go_sem,↓reduceIte,Nat.reduceLT,Nat.reduceLeDiff,Nat.reduceAdd,Nat.reduceSub,Nat.reduceMul,Nat.reduceEqDiff,reduceCtorEq,Int.reduceToNat,Int.reduceEq,Int.reduceBEq,Int.reduceBNe,Int.reduceLT,Int.reduceLE,Int.reduceNeg,Int.reduceAdd,Int.reduceSub,Int.reduceMul,Int.reduceGE,Int.reduceGT,Cl.enc,iv,endO]
 refine loopI (ι:={ i:Nat // i≤o.length∧IsO1 xs o i }) (fun i=>⟨66,[(0,.c (.xv (0,0,0))),(1,.c (.xv (1,0,0))),(5,.c (.v (.int .i64 (i.1:Nat))))],[],[(0,.one (arrOf Cl.enc 9 xs cl0)),(1,.one (arrOf eI 1 o 0))],[],2⟩)
  (fun i=>o.length - i.1) ⟨0,by omega,by simp [IsO1]⟩ (le_tmps (by simp [TmpsSub,look])) ?_
 rintro ⟨i,hi,hg⟩
 simp (maxSteps:=2000000) only [go_sem,↓reduceIte,Nat.reduceLT,Nat.reduceLeDiff,Nat.reduceAdd,Nat.reduceSub,Nat.reduceMul,Nat.reduceEqDiff,reduceCtorEq,Int.reduceToNat,Int.reduceEq,Int.reduceBEq,Int.reduceBNe,Int.reduceLT,Int.reduceLE,Int.reduceNeg,Int.reduceAdd,Int.reduceSub,Int.reduceMul,Int.reduceGE,Int.reduceGT,Cl.enc,iv,endO,eI]
 refine both (fun hlt=>?_) (fun hge=>?_)
 ·rw [decide_eq_true_eq] at hlt
  have hlt:i<o.length:=by omega
  have hfst:=fun h:IsO xs o=>h.fst hlt
  have hstep:=IsO1.step hg hlt
  generalize hn:o.getD i 0=n at hfst hstep ⊢
  refine ⟨hlt,hlt,fun h=>?_,fun h=>?_,?_⟩
  ·simp only [b_decR,b_decL,bt_ite,bf_ite,bt_dec,bf_dec,bt_int,bf_int,bt_nint,bf_nint,bt_bool,bf_bool,bt_nbool,bf_nbool,bt_not,bf_not,bt_and,bf_and,bt_or,bf_or,Bool.false_eq_true,Bool.true_eq_false,Bool.not_eq_true,Bool.not_eq_false,reduceCtorEq,false_iff,true_iff,iff_false,iff_true,and_true,true_and,and_false,false_and,or_true,true_or,or_false,false_or,not_true_eq_false,not_false_eq_true,ne_eq] at h;omega
  ·simp only [b_decR,b_decL,bt_ite,bf_ite,bt_dec,bf_dec,bt_int,bf_int,bt_nint,bf_nint,bt_bool,bf_bool,bt_nbool,bf_nbool,bt_not,bf_not,bt_and,bf_and,bt_or,bf_or,Bool.false_eq_true,Bool.true_eq_false,Bool.not_eq_true,Bool.not_eq_false,reduceCtorEq,false_iff,true_iff,iff_false,iff_true,and_true,true_and,and_false,false_and,or_true,true_or,or_false,false_or,not_true_eq_false,not_false_eq_true,ne_eq] at h;omega
  refine guardW (.c (.bo (cntB (cAt xs n)))) _ (fun E=>rfl) (fun E a w' _=>rcounts_calls w' (cAt xs n)) ?_
  simp (maxSteps:=2000000) only [forkS,go_sem,↓reduceIte,Nat.reduceLT,Nat.reduceLeDiff,Nat.reduceAdd,Nat.reduceSub,Nat.reduceMul,Nat.reduceEqDiff,reduceCtorEq,Int.reduceToNat,Int.reduceEq,Int.reduceBEq,Int.reduceBNe,Int.reduceLT,Int.reduceLE,Int.reduceNeg,Int.reduceAdd,Int.reduceSub,Int.reduceMul,Int.reduceGE,Int.reduceGT,Cl.enc,iv,endO]
  refine And.intro (fun hb=>?_) (fun hb=>?_)
  ·have h0:0≤n∧n<xs.length∧cntB (cAt xs n)=true:=by
    cases hc:cntB (cAt xs n) with
    | true=>simp only [b_decR,b_decL,bt_ite,bf_ite,bt_dec,bf_dec,bt_int,bf_int,bt_nint,bf_nint,bt_bool,bf_bool,bt_nbool,bf_nbool,bt_not,bf_not,bt_and,bf_and,bt_or,bf_or,Bool.false_eq_true,Bool.true_eq_false,Bool.not_eq_true,Bool.not_eq_false,reduceCtorEq,false_iff,true_iff,iff_false,iff_true,and_true,true_and,and_false,false_and,or_true,true_or,or_false,false_or,not_true_eq_false,not_false_eq_true,ne_eq,hc] at hb;exact ⟨by omega,by omega,rfl⟩
    | false=>simp only [b_decR,b_decL,bt_ite,bf_ite,bt_dec,bf_dec,bt_int,bf_int,bt_nint,bf_nint,bt_bool,bf_bool,bt_nbool,bf_nbool,bt_not,bf_not,bt_and,bf_and,bt_or,bf_or,Bool.false_eq_true,Bool.true_eq_false,Bool.not_eq_true,Bool.not_eq_false,reduceCtorEq,false_iff,true_iff,iff_false,iff_true,and_true,true_and,and_false,false_and,or_true,true_or,or_false,false_or,not_true_eq_false,not_false_eq_true,ne_eq,hc] at hb
   repeat (with_reducible refine And.intro (by first | (simp only [maxLen];omega) | omega | decide | (simp;done) | (simp [maxLen];omega)) ?_)
   refine callV (.c (.bo (decide (n∈o.take i)))) _ (fun E=>rfl) (fun E a w' hs=>has_calls w' _ (o.take i) n (arr_xs (o:=0) (n:=i) (xs:=o) (d:=0) (l:=0) ((holds_of hs).1 (1,0,0) _ rfl) (show 0+i≤o.length by omega))) ?_
   simp (maxSteps:=2000000) only [go_sem,↓reduceIte,Nat.reduceLT,Nat.reduceLeDiff,Nat.reduceAdd,Nat.reduceSub,Nat.reduceMul,Nat.reduceEqDiff,reduceCtorEq,Int.reduceToNat,Int.reduceEq,Int.reduceBEq,Int.reduceBNe,Int.reduceLT,Int.reduceLE,Int.reduceNeg,Int.reduceAdd,Int.reduceSub,Int.reduceMul,Int.reduceGE,Int.reduceGT,Cl.enc,iv,endO]
   rw [wr_succ (by omega)]
   refine both (fun hb=>?_) (fun hb=>?_)
   ·refine retV fun E=>?_
    rw [den_c,den_v,Value.bool.injEq,eq_comm,pB_f]
    intro ho
    exact (hfst ho).2 (by simpa using hb)
   ·exact backI ⟨i+1,by omega,hstep h0 (by simpa using hb)⟩ (by simp only;omega) (le_tmps (by simp [TmpsSub,look]))
  ·refine retV fun E=>?_
   rw [den_c,den_v,Value.bool.injEq,eq_comm,pB_f]
   intro ho
   obtain ⟨⟨h1,h2,h3⟩,h4⟩:=hfst ho
   simp only [b_decR,b_decL,bt_ite,bf_ite,bt_dec,bf_dec,bt_int,bf_int,bt_nint,bf_nint,bt_bool,bf_bool,bt_nbool,bf_nbool,bt_not,bf_not,bt_and,bf_and,bt_or,bf_or,Bool.false_eq_true,Bool.true_eq_false,Bool.not_eq_true,Bool.not_eq_false,reduceCtorEq,false_iff,true_iff,iff_false,iff_true,and_true,true_and,and_false,false_and,or_true,true_or,or_false,false_or,not_true_eq_false,not_false_eq_true,ne_eq,h3] at hb
   omega
 ·rw [decide_eq_false_iff_not] at hge
  have hin:i=o.length:=by omega
  subst hin
  refine loopI (ι:={ i:Nat // i≤xs.length∧IsO2 xs o i }) (fun i=>⟨66,[(0,.c (.xv (0,0,0))),(1,.c (.xv (1,0,0))),(7,.c (.v (.int .i64 (i.1:Nat))))],[],[(0,.one (arrOf Cl.enc 9 xs cl0)),(1,.one (arrOf eI 1 o 0))],[],2⟩)
   (fun i=>xs.length - i.1) ⟨0,by omega,fun k hk=>by omega⟩ (le_tmps (by simp [TmpsSub,look])) ?_
  rintro ⟨k,hk,hg2⟩
  simp (maxSteps:=2000000) only [go_sem,↓reduceIte,Nat.reduceLT,Nat.reduceLeDiff,Nat.reduceAdd,Nat.reduceSub,Nat.reduceMul,Nat.reduceEqDiff,reduceCtorEq,Int.reduceToNat,Int.reduceEq,Int.reduceBEq,Int.reduceBNe,Int.reduceLT,Int.reduceLE,Int.reduceNeg,Int.reduceAdd,Int.reduceSub,Int.reduceMul,Int.reduceGE,Int.reduceGT,Cl.enc,iv,endO,eI]
  refine both (fun hlt=>?_) (fun hge=>?_)
  ·rw [decide_eq_true_eq] at hlt
   have hlt:k<xs.length:=by omega
   generalize hck:xs.getD k cl0=ck
   repeat (with_reducible refine And.intro (by first | (simp only [maxLen];omega) | omega | decide | (simp;done) | (simp [maxLen];omega)) ?_)
   refine callV (.c (.bo (cntB ck))) _ (fun E=>rfl) (fun E a w' _=>rcounts_calls w' ck) ?_
   simp (maxSteps:=2000000) only [go_sem,↓reduceIte,Nat.reduceLT,Nat.reduceLeDiff,Nat.reduceAdd,Nat.reduceSub,Nat.reduceMul,Nat.reduceEqDiff,reduceCtorEq,Int.reduceToNat,Int.reduceEq,Int.reduceBEq,Int.reduceBNe,Int.reduceLT,Int.reduceLE,Int.reduceNeg,Int.reduceAdd,Int.reduceSub,Int.reduceMul,Int.reduceGE,Int.reduceGT,Cl.enc,iv,endO]
   rw [hck]
   refine ⟨fun _=>hlt,fun _=>hlt,fun _=>hlt,?_⟩
   refine guardW (.c (.bo (decide ((k:Int)∈o)))) _ (fun E=>rfl) (fun E a w' hs=>has_calls w' _ o k (arr_at (d:=0) hs 1 rfl)) ?_
   simp (maxSteps:=2000000) only [go_sem,↓reduceIte,Nat.reduceLT,Nat.reduceLeDiff,Nat.reduceAdd,Nat.reduceSub,Nat.reduceMul,Nat.reduceEqDiff,reduceCtorEq,Int.reduceToNat,Int.reduceEq,Int.reduceBEq,Int.reduceBNe,Int.reduceLT,Int.reduceLE,Int.reduceNeg,Int.reduceAdd,Int.reduceSub,Int.reduceMul,Int.reduceGE,Int.reduceGT,Cl.enc,iv,endO]
   rw [wr_succ (by omega)]
   refine both (fun hb=>?_) (fun hb=>?_)
   ·refine retV fun E=>?_
    rw [den_c,den_v,Value.bool.injEq,eq_comm,pB_f]
    intro ho
    have hb:(cntB ck=true∧ck.fin≠-1)∧(k:Int) ∉ o:=by simpa using hb
    exact hb.2 (ho.all k hlt (by rw [hck];exact hb.1.1) (by rw [hck];exact hb.1.2))
   ·refine backI ⟨k+1,by omega,fun j hj h1 h2=>?_⟩ (by simp only;omega) (le_tmps (by simp [TmpsSub,look]))
    by_cases e:j=k
    ·subst e
     rw [hck] at h1 h2
     simpa [h1,h2] using hb
    ·exact hg2 j (by omega) h1 h2
  ·rw [decide_eq_false_iff_not] at hge
   have hkn:k=xs.length:=by omega
   subst hkn
   refine retV fun E=>?_
   rw [den_c,den_v,Value.bool.injEq,eq_comm,pB_t]
   have hg1:=hg
   unfold IsO1 at hg1
   rw [List.take_length] at hg1
   exact ⟨hg1.1,hg1.2,hg2⟩
end Go.Proofs.Ytkjeedlkkpgopaa.Z
namespace Go.Proofs.Ytkjeedlkkpgopaa.Z
open Go Go.RowKit
def ir99:IR:=(.seq (.ops [⟨(some 4),(.mv (.k (.c (.v (.int .i64 0))))),none⟩]) (.kill [2,3,4,5,6,7,8,9,10,11] (.seq (.seq (.ops [⟨(some 6),(.mv (.t 0)),none⟩,⟨(some 7),(.len (.t 6)),none⟩,⟨(some 8),(.mv (.k (.c (.v (.int .i64 0))))),none⟩]) (.kill [6] (.blk 0 (.loop (.seq (.ops [⟨(some 9),(.bin .lss (.t 8) (.t 7)),none⟩]) (.kill [4,5,10,11,12,13,14,15,16,17,18] (.seq (.cond (.t 9) .skip (.exit 0)) (.kill [9] (.seq (.blk 1 (.seq (.ops [⟨(some 10),(.mv (.t 8)),none⟩,⟨(some 5),(.mv (.t 10)),none⟩]) (.kill [10] (.seq (.ops [⟨(some 11),(.mv (.t 1)),none⟩,⟨(some 12),(.mv (.t 0)),none⟩,⟨(some 13),(.mv (.t 5)),none⟩,⟨(some 14),(.ia 1 (.t 12) (.t 13)),none⟩,⟨(some 15),(.ld false 1 (.t 14)),none⟩,⟨(some 16),(.bin .eql (.t 11) (.t 15)),none⟩]) (.kill [11,12,13,14,15] (.cond (.t 16) (.seq (.ops [⟨(some 17),(.mv (.t 5)),none⟩,⟨(some 4),(.mv (.t 17)),none⟩]) (.kill [0,1,5,7,8,16,17] .ret)) .skip)))))) (.kill [4,5,10,11,12,13,14,15,16,17] (.ops [⟨(some 18),(.bin .add (.t 8) (.k (.c (.v (.int .i64 1))))),none⟩,⟨(some 8),(.mv (.t 18)),none⟩]))))))))))) (.kill [0,1,4,5,7,8,9,10,11,12,13,14,15,16,17,18] (.seq (.ops [⟨(some 4),(.mv (.k (.c (.v (.int .i64 (-1)))))),none⟩]) .ret)))))
def rs99:List RS:=[(.t 4)]
def nt99:Nat:=19
def ir85:IR:=(.seq (.ops [⟨(some 4),(.mv (.k (.c (.v (.bool false))))),none⟩]) (.kill [2,3,4,5,6,7,8,9,10,11] (.seq (.ops [⟨(some 5),(.mv (.t 0)),none⟩,⟨(some 6),(.mv (.t 1)),none⟩,⟨(some 7),(.call 99 [(.t 5),(.t 6)]),none⟩,⟨(some 8),(.bin .geq (.t 7) (.k (.c (.v (.int .i64 0))))),none⟩,⟨(some 4),(.mv (.t 8)),none⟩]) (.kill [0,1,5,6,7,8] .ret))))
def rs85:List RS:=[(.t 4)]
def nt85:Nat:=9
def ir69:IR:=(.seq (.ops [⟨(some 2),(.mv (.k (.c (.v (.slice none 0 0))))),none⟩]) (.kill [1,2,3,4,5,6,7,8,9,10,11] (.seq (.ops [⟨(some 3),(.mv (.t 0)),none⟩,⟨(some 4),(.mv (.t 0)),none⟩,⟨(some 5),(.len (.t 4)),none⟩,⟨(some 6),(.mv (.t 0)),none⟩,⟨(some 7),(.len (.t 6)),none⟩,⟨(some 8),(.slc 1 (.t 3) none (some (.t 5)) (some (.t 7))),none⟩,⟨(some 2),(.mv (.t 8)),none⟩]) (.kill [0,3,4,5,6,7,8] .ret))))
def rs69:List RS:=[(.t 2)]
def nt69:Nat:=9
def ir65:IR:=(.seq (.ops [⟨(some 4),(.mv (.k (.c (.v (.bool false))))),none⟩]) (.kill [2,3,4,5,6,7,8,9,10,11] (.seq (.seq (.ops [⟨(some 7),(.mv (.t 0)),none⟩,⟨(some 8),(.nilck (.t 7)),none⟩,⟨(some 9),(.fa 0 (.t 8)),none⟩,⟨(some 10),(.ld false 1 (.t 9)),none⟩,⟨(some 11),(.len (.t 10)),none⟩,⟨(some 12),(.mv (.k (.c (.v (.int .i64 0))))),none⟩]) (.kill [0,7,8,9] (.blk 0 (.loop (.seq (.ops [⟨(some 13),(.bin .lss (.t 12) (.t 11)),none⟩]) (.kill [4,5,6,14,15,16,17,18,19,20,21,22,23,24,25,26] (.seq (.cond (.t 13) .skip (.exit 0)) (.kill [13] (.seq (.blk 1 (.seq (.ops [⟨(some 14),(.mv (.t 12)),none⟩,⟨(some 15),(.ia 9 (.t 10) (.t 12)),none⟩,⟨(some 16),(.ld true 9 (.t 15)),none⟩,⟨(some 6),(.new 53 [(.v (.int .i64 0)),(.v (.int .i64 0)),(.v (.int .i64 0)),(.v (.int .i64 0)),(.v (.int .i64 0)),(.v (.int .i64 0)),(.v (.int .i64 0)),(.v (.int .i64 0)),(.v (.int .i64 0))]),none⟩,⟨(some 5),(.mv (.t 14)),none⟩,⟨none,(.st 9 (.t 6) (.t 16)),none⟩]) (.kill [14,15,16] (.seq (.ops [⟨(some 17),(.fa 5 (.t 6)),none⟩,⟨(some 18),(.ld false 1 (.t 17)),none⟩,⟨(some 19),(.bin .neq (.t 18) (.k (.c (.v (.int .i64 (-1)))))),none⟩,⟨(some 20),(.mv (.t 19)),none⟩,⟨(some 21),(.mv (.t 1)),(some (20,true))⟩,⟨(some 22),(.mv (.t 5)),(some (20,true))⟩,⟨(some 23),(.call 85 [(.t 21),(.t 22)]),(some (20,true))⟩,⟨(some 24),(.un .not (.t 23)),(some (20,true))⟩,⟨(some 25),(.pick (.t 20) (.t 24) (.k (.c (.v (.bool false))))),none⟩]) (.kill [5,6,17,18,19,20,21,22,23,24] (.cond (.t 25) (.seq (.ops [⟨(some 4),(.mv (.k (.c (.v (.bool false))))),none⟩]) (.kill [1,10,11,12,25] .ret)) .skip)))))) (.kill [4,5,6,14,15,16,17,18,19,20,21,22,23,24,25] (.ops [⟨(some 26),(.bin .add (.t 12) (.k (.c (.v (.int .i64 1))))),none⟩,⟨(some 12),(.mv (.t 26)),none⟩]))))))))))) (.kill [1,4,5,6,10,11,12,13,14,15,16,17,18,19,20,21,22,23,24,25,26] (.seq (.ops [⟨(some 4),(.mv (.k (.c (.v (.bool true))))),none⟩]) .ret)))))
def rs65:List RS:=[(.t 4)]
def nt65:Nat:=27
def ir67:IR:=(.seq (.ops [⟨(some 6),(.mv (.k (.c (.v (.bool false))))),none⟩]) (.kill [3,4,5,6,7,8,9,10,11] (.seq (.seq (.ops [⟨(some 9),(.mv (.t 1)),none⟩,⟨(some 10),(.mv (.t 2)),none⟩,⟨(some 11),(.call 85 [(.t 9),(.t 10)]),none⟩]) (.kill [9,10] (.cond (.t 11) (.seq (.ops [⟨(some 6),(.mv (.k (.c (.v (.bool false))))),none⟩]) (.kill [0,1,2,11] .ret)) .skip))) (.kill [6,11] (.seq (.seq (.ops [⟨(some 12),(.mv (.t 0)),none⟩,⟨(some 13),(.nilck (.t 12)),none⟩,⟨(some 14),(.fa 0 (.t 13)),none⟩,⟨(some 15),(.ld false 1 (.t 14)),none⟩,⟨(some 16),(.len (.t 15)),none⟩,⟨(some 17),(.mv (.k (.c (.v (.int .i64 0))))),none⟩]) (.kill [12,13,14] (.blk 0 (.loop (.seq (.ops [⟨(some 18),(.bin .lss (.t 17) (.t 16)),none⟩]) (.kill [6,7,8,19,20,21,22,23,24,25,26,27,28,29,30,31,32,33,34,35,36,37,38,39,40,41,42] (.seq (.cond (.t 18) .skip (.exit 0)) (.kill [18] (.seq (.blk 1 (.seq (.ops [⟨(some 19),(.mv (.t 17)),none⟩,⟨(some 20),(.ia 9 (.t 15) (.t 17)),none⟩,⟨(some 21),(.ld true 9 (.t 20)),none⟩,⟨(some 8),(.new 53 [(.v (.int .i64 0)),(.v (.int .i64 0)),(.v (.int .i64 0)),(.v (.int .i64 0)),(.v (.int .i64 0)),(.v (.int .i64 0)),(.v (.int .i64 0)),(.v (.int .i64 0)),(.v (.int .i64 0))]),none⟩,⟨(some 7),(.mv (.t 19)),none⟩,⟨none,(.st 9 (.t 8) (.t 21)),none⟩]) (.kill [19,20,21] (.seq (.draw [(⟨(some 22),(.mv (.t 7)),none⟩,([],[23])),(⟨(some 23),(.mv (.t 2)),none⟩,([0],[22])),(⟨(some 24),(.bin .neq (.t 22) (.t 23)),none⟩,([],[])),(⟨(some 25),(.mv (.t 24)),none⟩,([],[])),(⟨(some 26),(.ld true 9 (.t 8)),(some (25,true))⟩,([],[27,28,29,30,31,32,33])),(⟨(some 27),(.mv (.t 0)),(some (25,true))⟩,([4],[26,31])),(⟨(some 28),(.nilck (.t 27)),(some (25,true))⟩,([4],[26,31])),(⟨(some 29),(.fa 0 (.t 28)),(some (25,true))⟩,([4],[26,31])),(⟨(some 30),(.ld false 1 (.t 29)),(some (25,true))⟩,([4],[26,31])),(⟨(some 31),(.mv (.t 2)),(some (25,true))⟩,([4,5,6,7,8],[26,27,28,29,30])),(⟨(some 32),(.ia 9 (.t 30) (.t 31)),(some (25,true))⟩,([4],[26])),(⟨(some 33),(.ld true 9 (.t 32)),(some (25,true))⟩,([4],[26])),(⟨(some 34),(.call 58 [(.t 26),(.t 33)]),(some (25,true))⟩,([],[])),(⟨(some 35),(.pick (.t 25) (.t 34) (.k (.c (.v (.bool false))))),none⟩,([],[])),(⟨(some 36),(.mv (.t 35)),none⟩,([],[])),(⟨(some 37),(.mv (.t 1)),(some (36,true))⟩,([],[38])),(⟨(some 38),(.mv (.t 7)),(some (36,true))⟩,([15],[37])),(⟨(some 39),(.call 85 [(.t 37),(.t 38)]),(some (36,true))⟩,([],[])),(⟨(some 40),(.un .not (.t 39)),(some (36,true))⟩,([],[])),(⟨(some 41),(.pick (.t 36) (.t 40) (.k (.c (.v (.bool false))))),none⟩,([],[]))]) (.kill [7,8,22,23,24,25,26,27,28,29,30,31,32,33,34,35,36,37,38,39,40] (.cond (.t 41) (.seq (.ops [⟨(some 6),(.mv (.k (.c (.v (.bool false))))),none⟩]) (.kill [0,1,2,15,16,17,41] .ret)) .skip)))))) (.kill [6,7,8,19,20,21,22,23,24,25,26,27,28,29,30,31,32,33,34,35,36,37,38,39,40,41] (.ops [⟨(some 42),(.bin .add (.t 17) (.k (.c (.v (.int .i64 1))))),none⟩,⟨(some 17),(.mv (.t 42)),none⟩]))))))))))) (.kill [0,1,2,6,7,8,15,16,17,18,19,20,21,22,23,24,25,26,27,28,29,30,31,32,33,34,35,36,37,38,39,40,41,42] (.seq (.ops [⟨(some 6),(.mv (.k (.c (.v (.bool true))))),none⟩]) .ret)))))))
def rs67:List RS:=[(.t 6)]
def nt67:Nat:=43
def idxG:List Int→Int→Nat→Int
 | [],_,_=>-1
 | a :: r,x,i=>if a=x then (i:Int) else idxG r x (i+1)
theorem idxG_hit {x:Int}:∀ (l:List Int) (i j:Nat),j<l.length→l.getD j 0=x→(∀ k,k<j→l.getD k 0≠x)→idxG l x i=((i+j:Nat):Int)
 | [],i,j,h,_,_=>by simp at h
 | a :: r,i,0,h,he,_=>by
  simp only [List.getD_cons_zero] at he
  simp [idxG,he]
 | a :: r,i,j+1,h,he,hk=>by
  have h0:=hk 0 (by omega)
  simp only [List.getD_cons_zero] at h0
  simp only [idxG,if_neg h0]
  rw [idxG_hit r (i+1) j (by simpa using h) (by simpa using he) (fun k hk'=>by simpa using hk (k+1) (by omega))]
  congr 1;omega
theorem idxG_miss {x:Int}:∀ (l:List Int) (i:Nat),x ∉ l→idxG l x i = -1
 | [],i,_=>rfl
 | a :: r,i,h=>by
  simp only [List.mem_cons,not_or] at h
  simp only [idxG,if_neg (fun e=>h.1 (Eq.symm e))]
  exact idxG_miss r _ h.2
theorem idxG_pos {x:Int}:∀ (l:List Int) (i:Nat),x∈l→0≤idxG l x i
 | [],i,h=>by cases h
 | a :: r,i,h=>by
  simp only [idxG]
  by_cases e:a=x
  ·rw [if_pos e];omega
  ·rw [if_neg e]
   rcases List.mem_cons.1 h with h | h
   ·exact absurd h.symm e
   ·exact idxG_pos r _ h
def idxZ (l:List Int) (x:Int):Int:=idxG l x 0
set_option maxRecDepth 100000 in
set_option maxHeartbeats 400000 in
theorem index_calls (w:World) (v:Value) (l:List Int) (n:Int) (h:Arr w eI 1 v l):Calls Try.prog 99 #[v,.int .i64 n] w (RetV w (.int .i64 (idxZ l n))):=by
 have hlen:=Z.Arr.lenM h
 simp only [maxLen] at hlen
 refine enter1 (A:=[]) (c:=ir99) (rs:=rs99) (nt:=nt99) 0 eI_ok h [.c (.xv (0,0,0)),iA n] _ Try.func99 rfl (by kernel_rfl) (by kernel_rfl) rfl (fun E' h0=>by simp [SV.den,SC.den,iA,h0]) (of_decide_eq_true rfl) ?_
 simp (maxSteps:=2000000) only [ir99,nt99,rs99,go_sem,↓reduceIte,Nat.reduceLT,Nat.reduceLeDiff,Nat.reduceAdd,Nat.reduceSub,Nat.reduceMul,Nat.reduceEqDiff,reduceCtorEq,Int.reduceToNat,Int.reduceEq,Int.reduceBEq,Int.reduceBNe,Int.reduceLT,Int.reduceLE,Int.reduceNeg,Int.reduceAdd,Int.reduceSub,Int.reduceMul,Int.reduceGE,Int.reduceGT,Cl.enc,iv,endO,iA]
 refine loopI (ι:={ i:Nat // i≤l.length∧∀ k,k<i→l.getD k 0≠n }) (fun i=>⟨19,[(0,.c (.xv (0,0,0))),(1,.c (.v (.int .i64 n))),(7,.c (.v (.int .i64 l.length))),(8,.c (.v (.int .i64 (i.1:Nat))))],[],[(0,.one (arrOf eI 1 l 0))],[],1⟩)
  (fun i=>l.length - i.1) ⟨0,by omega,fun k hk=>by omega⟩ (le_tmps (by simp [TmpsSub,look])) ?_
 rintro ⟨i,hi,hg⟩
 simp (maxSteps:=2000000) only [go_sem,↓reduceIte,Nat.reduceLT,Nat.reduceLeDiff,Nat.reduceAdd,Nat.reduceSub,Nat.reduceMul,Nat.reduceEqDiff,reduceCtorEq,Int.reduceToNat,Int.reduceEq,Int.reduceBEq,Int.reduceBNe,Int.reduceLT,Int.reduceLE,Int.reduceNeg,Int.reduceAdd,Int.reduceSub,Int.reduceMul,Int.reduceGE,Int.reduceGT,Cl.enc,iv,endO,eI]
 refine both (fun hlt=>?_) (fun hge=>?_)
 ·rw [decide_eq_true_eq] at hlt
  have hlt:i<l.length:=by omega
  repeat (with_reducible refine And.intro (by first | (simp only [maxLen];omega) | omega | decide | (simp;done) | (simp [maxLen];omega)) ?_)
  refine both (fun he=>?_) (fun hne=>?_)
  ·refine retV fun E=>?_
   rw [beq_iff_eq] at he
   rw [den_c,den_v,idxZ,idxG_hit l 0 i hlt he.symm hg,Nat.zero_add]
  ·rw [wr_succ (by omega)]
   refine backI ⟨i+1,by omega,fun k hk=>?_⟩ (by simp only;omega) (le_tmps (by simp [TmpsSub,look]))
   by_cases e:k=i
   ·subst e
    rw [beq_eq_false_iff_ne] at hne
    exact fun e=>hne e.symm
   ·exact hg k (by omega)
 ·rw [decide_eq_false_iff_not] at hge
  refine retV fun E=>?_
  have hm:n ∉ l:=by
   intro hm
   obtain ⟨k,hk,rfl⟩:=List.getElem_of_mem hm
   refine hg k (by omega) ?_
   rw [List.getD_eq_getElem?_getD,List.getElem?_eq_getElem hk];rfl
  rw [den_c,den_v,idxZ,idxG_miss l 0 hm]
set_option maxRecDepth 100000 in
set_option maxHeartbeats 400000 in
theorem contains_calls (w:World) (v:Value) (l:List Int) (n:Int) (h:Arr w eI 1 v l):Calls Try.prog 85 #[v,.int .i64 n] w (RetV w (.bool (decide (n∈l)))):=by
 refine enter1 (A:=[]) (c:=ir85) (rs:=rs85) (nt:=nt85) 0 eI_ok h [.c (.xv (0,0,0)),iA n] _ Try.func85 rfl (by kernel_rfl) (by kernel_rfl) rfl (fun E' h0=>by simp [SV.den,SC.den,iA,h0]) (of_decide_eq_true rfl) ?_
 simp (maxSteps:=2000000) only [ir85,nt85,rs85,go_sem,↓reduceIte,Nat.reduceLT,Nat.reduceLeDiff,Nat.reduceAdd,Nat.reduceSub,Nat.reduceMul,Nat.reduceEqDiff,reduceCtorEq,Int.reduceToNat,Int.reduceEq,Int.reduceBEq,Int.reduceBNe,Int.reduceLT,Int.reduceLE,Int.reduceNeg,Int.reduceAdd,Int.reduceSub,Int.reduceMul,Int.reduceGE,Int.reduceGT,Cl.enc,iv,endO,iA]
 refine callV (.c (.v (.int .i64 (idxZ l n)))) _ (fun E=>rfl) (fun E a w' hs=>index_calls w' _ l n (arr_at (d:=0) hs 0 rfl)) ?_
 simp (maxSteps:=2000000) only [go_sem,↓reduceIte,Nat.reduceLT,Nat.reduceLeDiff,Nat.reduceAdd,Nat.reduceSub,Nat.reduceMul,Nat.reduceEqDiff,reduceCtorEq,Int.reduceToNat,Int.reduceEq,Int.reduceBEq,Int.reduceBNe,Int.reduceLT,Int.reduceLE,Int.reduceNeg,Int.reduceAdd,Int.reduceSub,Int.reduceMul,Int.reduceGE,Int.reduceGT,Cl.enc,iv,endO]
 refine retV fun E=>?_
 rw [den_c,den_b,Value.bool.injEq]
 by_cases e:n∈l
 ·have:=idxG_pos l 0 e
  simp only [idxZ,e,decide_true,decide_eq_true_eq,ge_iff_le]
  exact this
 ·simp only [idxZ,e,decide_false,idxG_miss l 0 e]
  decide
def clipV:Value→Value
 | .slice ba n _=>.slice ba n n
 | v=>v
theorem enter1F {P:Program} {A:List Nat} {f nt:Nat} {fn:Func} {x:Code} {c:IR} {w:World} {rs:List RS} {R:Ending→World→Prop} {α:Type} {enc:α→List Value} {s:Nat} {xs:List α} (d:α) {v:Value} (T:EncT enc s) (h:Arr w enc s v xs) (sc:List SV) (args:Array Value)
  (hf:P.funcs[f]? = some fn) (hb:fn.body=some x) (hc:compC (mkTab P A) x=some c.strip) (hr:compR (mkTab P A).T fn.results.toList=some rs) (hn:fn.ntmps=nt)
  (hargs:∀ E',E'.χ (0,0,0)=v→(sc.map (SV.den E')).toArray=args) (hnt:sc.length≤nt)
  (hex:exec (mkC P A w rs R) 1000 [.code c] ⟨nt,enumT 0 sc,[],[(0,.one (arrOf enc s xs d))],[fun E _=>E.χ (0,0,0)=v],1⟩):Calls P f args w R:=by
 refine calls_sym (c:=c) (C:=mkC P A w rs R) 1000 sc (E1 v) [] [(0,.one (arrOf enc s xs d))] [fun E _=>E.χ (0,0,0)=v] 1 nt args (mkTab_ok _ _) hf hb hc hr hn rfl rfl (E1_one (arr_one h)) (fun E' hE'=>hargs E' ?_) hnt (fun E' hE'=>inOk_arrsF (fun w' hw' x A hA=>?_) fun w' φ hφ=>?_) hex
 ·exact (hE' (0,0,0) Nat.zero_lt_one).2.2.2
 ·rcases atN_one hA with ⟨rfl,rfl⟩ | hA
  ·exact arr1 T (hE' (0,0,0) Nat.zero_lt_one).2.2.2 h hw'
  exact (atN_nil hA).elim
 ·rw [List.mem_singleton] at hφ
  subst hφ
  exact (hE' (0,0,0) Nat.zero_lt_one).2.2.2
set_option maxRecDepth 100000 in
set_option maxHeartbeats 400000 in
theorem clip_calls (w:World) (v:Value) (l:List Int) (h:Arr w eI 1 v l):Calls Try.prog 69 #[v] w (RetV w (clipV v)):=by
 refine enter1F (A:=[]) (c:=ir69) (rs:=rs69) (nt:=nt69) 0 eI_ok h [.c (.xv (0,0,0))] _ Try.func69 rfl (by kernel_rfl) (by kernel_rfl) rfl (fun E' h0=>by simp [SV.den,SC.den,h0]) (of_decide_eq_true rfl) ?_
 simp (maxSteps:=2000000) only [ir69,nt69,rs69,go_sem,↓reduceIte,Nat.reduceLT,Nat.reduceLeDiff,Nat.reduceAdd,Nat.reduceSub,Nat.reduceMul,Nat.reduceEqDiff,reduceCtorEq,Int.reduceToNat,Int.reduceEq,Int.reduceBEq,Int.reduceBNe,Int.reduceLT,Int.reduceLE,Int.reduceNeg,Int.reduceAdd,Int.reduceSub,Int.reduceMul,Int.reduceGE,Int.reduceGT,Cl.enc,iv,endO]
 repeat (with_reducible refine And.intro (by first | (simp only [maxLen];omega) | omega | decide | (simp;done) | (simp [maxLen];omega)) ?_)
 intro E a w' hs
 have hs:=hs.sat
 have hh:=holds_of (C:=mkC Try.prog [] w rs69 (RetV w (clipV v))) hs
 have hx:E.χ (0,0,0)=v:=hh.2 _ List.mem_cons_self
 obtain ⟨ba,cap,h1,_⟩:=h
 refine ⟨?_,below_of hs⟩
 subst h1
 cases ba <;> simp [den_c,SC.den,hx,clipV,Addr.add]
structure Sr (w:World) (v:Value) (ys:List Cl) (nms:List Int) (bm:Nat):Prop where
 ex:∃ b off vc vn,v = .pointer (some ⟨b,off,none⟩)∧w.cell? ⟨b,off,none⟩=some vc∧w.cell? ⟨b,off+1,none⟩=some vn∧w.cell? ⟨b,off+2,none⟩=some (.map (some bm))∧Arr w Cl.enc 9 vc ys∧Arr w eI 1 vn nms
def srA (i:Nat) (ys:List Cl) (nms:List Int) (m:SC):List (Nat×Fm ArrF):=[(i,.one ⟨1,3,fun _=>[.xv (i+1,0,0),.xv (i+2,0,0),m],0⟩),(i+1,.one (arrOf Cl.enc 9 ys cl0)),(i+2,.one (arrOf eI 1 nms 0))]
def ES (b off:Nat) (vc vn vo:Value):Env:=⟨fun _=>0,fun _=>0,fun _=>false,fun x=>if x.1=0 then .slice (some ⟨b,off,none⟩) 1 1 else if x.1=1 then vc else if x.1=2 then vn else vo⟩
theorem cell_keep {w w' : World} {a:Addr} {u:Value} (h:w.cell? a=some u) (hk:∀ n,n<w.heap.size→w'.heap[n]? = w.heap[n]?):w'.cell? a=some u:=by
 have hb:a.block<w.heap.size:=by
  unfold World.cell? at h
  cases he:w.heap[a.block]? with
  | none=>rw [he] at h;simp at h
  | some o=>exact (Array.getElem?_eq_some_iff.1 he).1
 unfold World.cell? at h ⊢
 rw [hk _ hb]
 exact h
theorem enterS {P:Program} {A:List Nat} {f nt:Nat} {fn:Func} {x:Code} {c:IR} {w:World} {rs:List RS} {R:Ending→World→Prop} {v vo:Value} {ys:List Cl} {nms o:List Int} {bm:Nat} (hS:Sr w v ys nms bm) (h:Arr w eI 1 vo o) (sc:List SV) (args:Array Value)
  (hf:P.funcs[f]? = some fn) (hb:fn.body=some x) (hc:compC (mkTab P A) x=some c.strip) (hr:compR (mkTab P A).T fn.results.toList=some rs) (hn:fn.ntmps=nt)
  (hargs:∀ E',(SV.c (.ep (0,0,0) 3 0 0)).den E' = v→E'.χ (3,0,0)=vo→(sc.map (SV.den E')).toArray=args) (hnt:sc.length≤nt)
  (hex:exec (mkC P A w rs R) 1000 [.code c] ⟨nt,enumT 0 sc,[],(3,.one (arrOf eI 1 o 0)) :: srA 0 ys nms (.v (.map (some bm))),[],4⟩):Calls P f args w R:=by
 obtain ⟨b,off,vc,vn,rfl,c0,c1,c2,a1,a2⟩:=hS.ex
 have hone:OneC (ES b off vc vn vo):=fun x=>by
  simp only [ES]
  split
  ·rfl
  split
  ·exact arr_one a1
  split
  ·exact arr_one a2
  ·exact arr_one h
 have g:∀ E' : Env,AgreeD (· < 4) (ES b off vc vn vo) E'→E'.χ (0,0,0) = .slice (some ⟨b,off,none⟩) 1 1∧E'.χ (1,0,0)=vc∧E'.χ (2,0,0)=vn∧E'.χ (3,0,0)=vo:=fun E' hE'=>by
  have h0:=(hE' (0,0,0) (by decide)).2.2.2
  have h1:=(hE' (1,0,0) (by decide)).2.2.2
  have h2:=(hE' (2,0,0) (by decide)).2.2.2
  have h3:=(hE' (3,0,0) (by decide)).2.2.2
  simp [ES] at h0 h1 h2 h3
  exact ⟨h0,h1,h2,h3⟩
 refine calls_sym (c:=c) (C:=mkC P A w rs R) 1000 sc (ES b off vc vn vo) [] _ [] 4 nt args (mkTab_ok _ _) hf hb hc hr hn rfl rfl hone (fun E' hE'=>hargs E' ?_ (g E' hE').2.2.2) hnt (fun E' hE'=>inOk_arrs fun w' hw' x A hA=>?_) hex
 ·simp [den_c,SC.den,(g E' hE').1]
 obtain ⟨g0,g1,g2,g3⟩:=g E' hE'
 rcases atN_one hA with ⟨rfl,rfl⟩ | hA
 ·exact arr1 eI_ok g3 h hw'
 simp only [srA] at hA
 rcases atN_one hA with ⟨rfl,rfl⟩ | hA
 ·refine ⟨some ⟨b,off,none⟩,1,g0,Nat.le_refl _,by simp [maxLen],Or.inr ⟨b,off,rfl,Nat.zero_le _,fun k hk=>⟨rfl,fun j u hu=>?_⟩⟩⟩
  have hk:k=0:=by simp only at hk;omega
  subst hk
  match j,hu with
  | 0,hu =>
   simp at hu;subst hu
   exact ⟨by simp only [SC.den,g1];exact cell_keep c0 hw',by simp only [SC.den,g1];exact arr_one a1⟩
  | 1,hu =>
   simp at hu;subst hu
   exact ⟨by simp only [SC.den,g2];exact cell_keep c1 hw',by simp only [SC.den,g2];exact arr_one a2⟩
  | 2,hu =>
   simp at hu;subst hu
   exact ⟨by simp only [SC.den];exact cell_keep c2 hw',rfl⟩
  | j+3,hu=>simp at hu
 rcases atN_one hA with ⟨rfl,rfl⟩ | hA
 ·exact arr1 cl_ok g1 a1 hw'
 rcases atN_one hA with ⟨rfl,rfl⟩ | hA
 ·exact arr1 eI_ok g2 a2 hw'
 exact (atN_nil hA).elim
theorem Sr.len {w:World} {v:Value} {ys:List Cl} {nms:List Int} {bm:Nat} (h:Sr w v ys nms bm):ys.length≤9223372036854775807∧nms.length≤9223372036854775807:=by
 obtain ⟨b,off,vc,vn,rfl,c0,c1,c2,a1,a2⟩:=h.ex
 have h1:=Z.Arr.lenM a1
 have h2:=Z.Arr.lenM a2
 simp only [maxLen] at h1 h2
 exact ⟨h1,h2⟩
theorem arrLe_sr4 {x:Value}:ArrLe (fun x=>x<4) (idσ id) ⟨1,3,fun _=>[.xv (1,0,0),.xv (2,0,0),.v x],0⟩ ⟨1,3,fun _=>[.xv (1,0,0),.xv (2,0,0),.v x],0⟩ :=
 ⟨rfl,rfl,fun e _=>⟨by simp [SC.renL,SC.ren,idσ],by simp [SC.okL,SC.okN]⟩,Nat.le_refl _⟩
def wholeB (ys:List Cl) (o:List Int):Bool:=(List.range ys.length).all fun i=>!((ys.getD i cl0).fin != -1) || decide ((i:Int)∈o)
set_option maxRecDepth 100000 in
set_option maxHeartbeats 400000 in
theorem whole_calls (w:World) (v vo:Value) (ys:List Cl) (nms o:List Int) (bm:Nat) (hS:Sr w v ys nms bm) (h:Arr w eI 1 vo o):Calls Try.prog 65 #[v,vo] w (RetV w (.bool (wholeB ys o))):=by
 have hlen:=hS.len.1
 refine enterS (A:=[]) (c:=ir65) (rs:=rs65) (nt:=nt65) hS h [.c (.ep (0,0,0) 3 0 0),.c (.xv (3,0,0))] _ Try.func65 rfl (by kernel_rfl) (by kernel_rfl) rfl (fun E' h0 h1=>by rw [List.map_cons,h0];simp [SV.den,SC.den,h1]) (of_decide_eq_true rfl) ?_
 simp (maxSteps:=2000000) only [ir65,nt65,rs65,go_sem,↓reduceIte,Nat.reduceLT,Nat.reduceLeDiff,Nat.reduceAdd,Nat.reduceSub,Nat.reduceMul,Nat.reduceEqDiff,reduceCtorEq,Int.reduceToNat,Int.reduceEq,Int.reduceBEq,Int.reduceBNe,Int.reduceLT,Int.reduceLE,Int.reduceNeg,Int.reduceAdd,Int.reduceSub,Int.reduceMul,Int.reduceGE,Int.reduceGT,Cl.enc,iv,endO,srA]
 refine loopI (ι:={ i:Nat // i≤ys.length∧∀ k,k<i→(!((ys.getD k cl0).fin != -1) || decide ((k:Int)∈o))=true }) (fun i=>⟨27,[(1,.c (.xv (3,0,0))),(10,.c (.xv (1,0,0))),(11,.c (.v (.int .i64 ys.length))),(12,.c (.v (.int .i64 (i.1:Nat))))],[],(3,.one (arrOf eI 1 o 0)) :: srA 0 ys nms (.v (.map (some bm))),[],4⟩)
  (fun i=>ys.length - i.1) ⟨0,by omega,fun k hk=>by omega⟩ (by simp only [srA];exact le_tmps (by simp [TmpsSub,look])) ?_
 rintro ⟨i,hi,hg⟩
 simp (maxSteps:=2000000) only [go_sem,↓reduceIte,Nat.reduceLT,Nat.reduceLeDiff,Nat.reduceAdd,Nat.reduceSub,Nat.reduceMul,Nat.reduceEqDiff,reduceCtorEq,Int.reduceToNat,Int.reduceEq,Int.reduceBEq,Int.reduceBNe,Int.reduceLT,Int.reduceLE,Int.reduceNeg,Int.reduceAdd,Int.reduceSub,Int.reduceMul,Int.reduceGE,Int.reduceGT,Cl.enc,iv,endO,srA]
 refine both (fun hlt=>?_) (fun hge=>?_)
 ·rw [decide_eq_true_eq] at hlt
  have hlt:i<ys.length:=by omega
  generalize hci:ys.getD i cl0=ci
  repeat (with_reducible refine And.intro (by first | (simp only [maxLen];omega) | omega | decide | (simp;done) | (simp [maxLen];omega)) ?_)
  refine guardW (.c (.bo (decide ((i:Int)∈o)))) _ (fun E=>rfl) (fun E a w' hs=>contains_calls w' _ o i (arr_at (d:=0) hs 3 rfl)) ?_
  simp (maxSteps:=2000000) only [go_sem,↓reduceIte,Nat.reduceLT,Nat.reduceLeDiff,Nat.reduceAdd,Nat.reduceSub,Nat.reduceMul,Nat.reduceEqDiff,reduceCtorEq,Int.reduceToNat,Int.reduceEq,Int.reduceBEq,Int.reduceBNe,Int.reduceLT,Int.reduceLE,Int.reduceNeg,Int.reduceAdd,Int.reduceSub,Int.reduceMul,Int.reduceGE,Int.reduceGT,Cl.enc,iv,endO]
  rw [wr_succ (by omega)]
  refine both (fun hb=>?_) (fun hb=>?_)
  ·refine retV fun E=>?_
   rw [den_c,den_v,Value.bool.injEq,eq_comm]
   have hb:ci.fin≠-1∧(i:Int) ∉ o:=by simpa using hb
   rw [← Bool.not_eq_true,wholeB,List.all_eq_true]
   intro h
   have:=h i (List.mem_range.2 hlt)
   rw [hci] at this
   simp [hb.1,hb.2] at this
  ·refine backI ⟨i+1,by omega,fun k hk=>?_⟩ (by simp only;omega) (by simp only [srA];exact le_ren id rfl rfl (by simp [TmpsLe,look,SV.ren,SC.ren,SC.renL,ren1L,ren1,idσ,SV.okN,SC.okN,SC.okL,ok1L]) (by simp [OwnLe,BlkLeO,BlkLe,atN,look,Fm.get,idσ,SC.renL,SC.ren,SC.okL,SC.okN,renL_v,okL_v]) (by simp [ArrsLe,ArrLeO,atN,look,Fm.get,idσ,arrLe_of,arrLe_0,arrLe_sr4]) rfl)
   by_cases e:k=i
   ·subst e
    rw [hci]
    by_cases h1:ci.fin = -1
    ·simp [h1]
    ·by_cases h2:(k:Int)∈o
     ·simp [h2]
     ·simp [h1,h2] at hb
   ·exact hg k (by omega)
 ·rw [decide_eq_false_iff_not] at hge
  have hin:i=ys.length:=by omega
  subst hin
  refine retV fun E=>?_
  rw [den_c,den_v,Value.bool.injEq,eq_comm,wholeB,List.all_eq_true]
  exact fun k hk=>hg k (List.mem_range.1 hk)
def mayNB (ys:List Cl) (o:List Int) (i:Nat):Bool:=!decide ((i:Int)∈o) && (List.range ys.length).all fun j=>!(j != i && aheadB (ys.getD j cl0) (ys.getD i cl0)) || decide ((j:Int)∈o)
set_option maxRecDepth 100000 in
set_option maxHeartbeats 400000 in
theorem may_next (w:World) (v vo:Value) (ys:List Cl) (nms o:List Int) (bm i:Nat) (hi:i<ys.length) (hS:Sr w v ys nms bm) (h:Arr w eI 1 vo o):Calls Try.prog 67 #[v,vo,.int .i64 i] w (RetV w (.bool (mayNB ys o i))):=by
 have hlen:=hS.len.1
 refine enterS (A:=[]) (c:=ir67) (rs:=rs67) (nt:=nt67) hS h [.c (.ep (0,0,0) 3 0 0),.c (.xv (3,0,0)),iA i] _ Try.func67 rfl (by kernel_rfl) (by kernel_rfl) rfl (fun E' h0 h1=>by rw [List.map_cons,h0];simp [SV.den,SC.den,h1,iA]) (of_decide_eq_true rfl) ?_
 simp (maxSteps:=2000000) only [ir67,nt67,rs67,go_sem,↓reduceIte,Nat.reduceLT,Nat.reduceLeDiff,Nat.reduceAdd,Nat.reduceSub,Nat.reduceMul,Nat.reduceEqDiff,reduceCtorEq,Int.reduceToNat,Int.reduceEq,Int.reduceBEq,Int.reduceBNe,Int.reduceLT,Int.reduceLE,Int.reduceNeg,Int.reduceAdd,Int.reduceSub,Int.reduceMul,Int.reduceGE,Int.reduceGT,Cl.enc,iv,endO,srA,iA]
 refine callV (.c (.bo (decide ((i:Int)∈o)))) _ (fun E=>rfl) (fun E a w' hs=>contains_calls w' _ o i (arr_at (d:=0) hs 3 rfl)) ?_
 simp (maxSteps:=2000000) only [go_sem,↓reduceIte,Nat.reduceLT,Nat.reduceLeDiff,Nat.reduceAdd,Nat.reduceSub,Nat.reduceMul,Nat.reduceEqDiff,reduceCtorEq,Int.reduceToNat,Int.reduceEq,Int.reduceBEq,Int.reduceBNe,Int.reduceLT,Int.reduceLE,Int.reduceNeg,Int.reduceAdd,Int.reduceSub,Int.reduceMul,Int.reduceGE,Int.reduceGT,Cl.enc,iv,endO]
 refine both (fun hb=>?_) (fun hb=>?_)
 ·refine retV fun E=>?_
  rw [den_c,den_v,Value.bool.injEq,mayNB,hb]
  rfl
 repeat (with_reducible refine And.intro (by first | (simp only [maxLen];omega) | omega | decide | (simp;done) | (simp [maxLen];omega)) ?_)
 refine loopI (ι:={ k:Nat // k≤ys.length∧∀ j,j<k→(!(j != i && aheadB (ys.getD j cl0) (ys.getD i cl0)) || decide ((j:Int)∈o))=true }) (fun k=>⟨43,[(0,.c (.ep (0,0,0) 3 0 0)),(1,.c (.xv (3,0,0))),(2,.c (.v (.int .i64 i))),(15,.c (.xv (1,0,0))),(16,.c (.v (.int .i64 ys.length))),(17,.c (.v (.int .i64 (k.1:Nat))))],[],(3,.one (arrOf eI 1 o 0)) :: srA 0 ys nms (.v (.map (some bm))),[],4⟩)
  (fun k=>ys.length - k.1) ⟨0,by omega,fun k hk=>by omega⟩ (by simp only [srA];exact le_tmps (by simp [TmpsSub,look])) ?_
 rintro ⟨k,hk,hg⟩
 simp (maxSteps:=2000000) only [go_sem,↓reduceIte,Nat.reduceLT,Nat.reduceLeDiff,Nat.reduceAdd,Nat.reduceSub,Nat.reduceMul,Nat.reduceEqDiff,reduceCtorEq,Int.reduceToNat,Int.reduceEq,Int.reduceBEq,Int.reduceBNe,Int.reduceLT,Int.reduceLE,Int.reduceNeg,Int.reduceAdd,Int.reduceSub,Int.reduceMul,Int.reduceGE,Int.reduceGT,Cl.enc,iv,endO,srA]
 refine both (fun hlt=>?_) (fun hge=>?_)
 ·rw [decide_eq_true_eq] at hlt
  have hlt:k<ys.length:=by omega
  generalize hck:ys.getD k cl0=ck
  repeat (with_reducible refine And.intro (by first | (simp only [maxLen];omega) | omega | decide | (simp;done) | (simp [maxLen];omega)) ?_)
  refine draw_vc (by kernel_rfl) (mkTab_ok _ _) (of_decide_eq_true rfl) (of_decide_eq_true rfl) ?_
  repeat (first | simp (maxSteps:=2000000) only [go_sem,↓reduceIte,Nat.reduceLT,Nat.reduceLeDiff,Nat.reduceAdd,Nat.reduceSub,Nat.reduceMul,Nat.reduceEqDiff,reduceCtorEq,Int.reduceToNat,Int.reduceEq,Int.reduceBEq,Int.reduceBNe,Int.reduceLT,Int.reduceLE,Int.reduceNeg,Int.reduceAdd,Int.reduceSub,Int.reduceMul,Int.reduceGE,Int.reduceGT,Cl.enc,iv,endO,srA] | rw [dr_cons])
  refine ⟨fun _=>hi,fun _=>hi,Or.inl ⟨.c (.bo (aheadB ck (ys.getD i cl0))),fun _=>crv_retV _ _ (fun E=>rfl) (fun E a w' _=>ahead_calls w' ck (ys.getD i cl0)),?_⟩⟩
  repeat (first | simp (maxSteps:=2000000) only [go_sem,↓reduceIte,Nat.reduceLT,Nat.reduceLeDiff,Nat.reduceAdd,Nat.reduceSub,Nat.reduceMul,Nat.reduceEqDiff,reduceCtorEq,Int.reduceToNat,Int.reduceEq,Int.reduceBEq,Int.reduceBNe,Int.reduceLT,Int.reduceLE,Int.reduceNeg,Int.reduceAdd,Int.reduceSub,Int.reduceMul,Int.reduceGE,Int.reduceGT,Cl.enc,iv,endO] | rw [dr_cons])
  refine Or.inl ⟨.c (.bo (decide ((k:Int)∈o))),fun _=>crv_retV _ _ (fun E=>rfl) (fun E a w' hs=>contains_calls w' _ o k (arr_at (d:=0) hs 3 rfl)),?_⟩
  repeat (first | simp (maxSteps:=2000000) only [go_sem,↓reduceIte,Nat.reduceLT,Nat.reduceLeDiff,Nat.reduceAdd,Nat.reduceSub,Nat.reduceMul,Nat.reduceEqDiff,reduceCtorEq,Int.reduceToNat,Int.reduceEq,Int.reduceBEq,Int.reduceBNe,Int.reduceLT,Int.reduceLE,Int.reduceNeg,Int.reduceAdd,Int.reduceSub,Int.reduceMul,Int.reduceGE,Int.reduceGT,Cl.enc,iv,endO] | rw [dr_cons])
  rw [wr_succ (by omega)]
  have hki:((k:Int) != (i:Int))=(k != i):=by
   rw [Bool.eq_iff_iff];simp only [bne_iff_ne,ne_eq];omega
  rw [hki]
  refine both (fun hb=>?_) (fun hb=>?_)
  ·refine retV fun E=>?_
   rw [den_c,den_v,Value.bool.injEq,eq_comm,← Bool.not_eq_true]
   intro h
   simp only [mayNB,Bool.and_eq_true,List.all_eq_true] at h
   have:=h.2 k (List.mem_range.2 hlt)
   rw [hck] at this
   clear h hki
   generalize (k != i)=b1 at hb this
   generalize aheadB ck (ys.getD i cl0)=b2 at hb this
   generalize decide ((k:Int)∈o)=b3 at hb this
   revert hb this
   cases b1 <;> cases b2 <;> cases b3 <;> simp
  ·refine backI ⟨k+1,by omega,fun j hj=>?_⟩ (by simp only;omega) (by simp only [srA];exact le_ren id rfl rfl (by simp [TmpsLe,look,SV.ren,SC.ren,SC.renL,ren1L,ren1,idσ,SV.okN,SC.okN,SC.okL,ok1L]) (by simp [OwnLe,BlkLeO,BlkLe,atN,look,Fm.get,idσ,SC.renL,SC.ren,SC.okL,SC.okN,renL_v,okL_v]) (by simp [ArrsLe,ArrLeO,atN,look,Fm.get,idσ,arrLe_of,arrLe_0,arrLe_sr4]) rfl)
   by_cases e:j=k
   ·subst e
    rw [hck]
    clear hki hg
    generalize (j != i)=b1 at hb ⊢
    generalize aheadB ck (ys.getD i cl0)=b2 at hb ⊢
    generalize decide ((j:Int)∈o)=b3 at hb ⊢
    revert hb
    cases b1 <;> cases b2 <;> cases b3 <;> simp
   ·exact hg j (by omega)
 ·rw [decide_eq_false_iff_not] at hge
  have hin:k=ys.length:=by omega
  subst hin
  refine retV fun E=>?_
  rw [den_c,den_v,Value.bool.injEq,eq_comm,mayNB,hb,Bool.not_false,Bool.true_and,List.all_eq_true]
  exact fun k hk=>hg k (List.mem_range.1 hk)
def ir66:IR:=(.seq (.ops [⟨(some 2),(.new 102 [(.v (.int .i8 0)),(.v (.int .i8 0)),(.v (.int .i8 0)),(.v (.int .i8 0)),(.v (.int .i8 0)),(.v (.int .i8 0)),(.v (.int .i8 0)),(.v (.int .i8 0))]),none⟩]) (.kill [1,3,4,5,6,7,8,9,10,11] (.seq (.ops [⟨(some 3),(.new 102 [(.v (.int .i8 0)),(.v (.int .i8 0)),(.v (.int .i8 0)),(.v (.int .i8 0)),(.v (.int .i8 0)),(.v (.int .i8 0)),(.v (.int .i8 0)),(.v (.int .i8 0))]),none⟩]) (.seq (.seq (.ops [⟨(some 6),(.mv (.t 0)),none⟩,⟨(some 7),(.len (.t 6)),none⟩,⟨(some 8),(.mv (.k (.c (.v (.int .i64 0))))),none⟩]) (.kill [0] (.blk 0 (.loop (.seq (.ops [⟨(some 9),(.bin .lss (.t 8) (.t 7)),none⟩]) (.kill [4,5,10,11,12,13,14,15,16,17,18] (.seq (.cond (.t 9) .skip (.exit 0)) (.kill [9] (.seq (.blk 1 (.seq (.ops [⟨(some 10),(.mv (.t 8)),none⟩,⟨(some 11),(.ia 1 (.t 6) (.t 8)),none⟩,⟨(some 12),(.ld false 1 (.t 11)),none⟩,⟨(some 4),(.mv (.t 10)),none⟩,⟨(some 5),(.mv (.t 12)),none⟩]) (.kill [10,11,12] (.ops [⟨(some 13),(.mv (.t 4)),none⟩,⟨(some 14),(.mv (.t 5)),none⟩,⟨(some 15),(.bin .add (.t 14) (.k (.c (.v (.int .i64 1))))),none⟩,⟨(some 16),(.conv .i8 (.t 15)),none⟩,⟨(some 17),(.iar 8 1 (.t 3) (.t 13)),none⟩,⟨none,(.st 1 (.t 17) (.t 16)),none⟩])))) (.kill [4,5,10,11,12,13,14,15,16,17] (.ops [⟨(some 18),(.bin .add (.t 8) (.k (.c (.v (.int .i64 1))))),none⟩,⟨(some 8),(.mv (.t 18)),none⟩]))))))))))) (.kill [4,5,6,7,8,9,10,11,12,13,14,15,16,17,18] (.seq (.ops [⟨(some 19),(.ld true 8 (.t 3)),none⟩,⟨none,(.st 8 (.t 2) (.t 19)),none⟩]) (.kill [3,19] .ret)))))))
def rs66:List RS:=[(.cell 2 true 8)]
def nt66:Nat:=20
def picI (o:List Int):List Int:=(List.range 8).map fun k=>if k<o.length then o.getD k 0+1 else 0
def picV (o:List Int):Value:=.agg ((picI o).map fun n=>Value.int .i8 n).toArray
theorem wr8 {n:Int} (h : -128≤n∧n≤127):IntKind.i8.wrap n=n:=by
 have:IntKind.i8.wrap n=if 128≤n % 256 then n % 256 - 256 else n % 256:=by simp [IntKind.wrap,IntKind.bits,IntKind.signed]
 rw [this]
 split <;> omega
theorem w8 (x:Int) (h:0≤x) (h' : x<8):IntKind.i8.wrap (IntKind.i64.wrap (x+1))=x+1:=by rw [wr64 (by omega) (by omega),wr8 ⟨by omega,by omega⟩]
set_option maxRecDepth 100000 in
set_option maxHeartbeats 400000 in
theorem picture_calls (w:World) (v:Value) (o:List Int) (ho:o.length≤8) (hr:∀ x∈o,0≤x∧x<8) (h:Arr w eI 1 v o):Calls Try.prog 66 #[v] w (RetV w (picV o)):=by
 refine enter1 (A:=[]) (c:=ir66) (rs:=rs66) (nt:=nt66) 0 eI_ok h [.c (.xv (0,0,0))] _ Try.func66 rfl (by kernel_rfl) (by kernel_rfl) rfl (fun E' h0=>by simp [SV.den,SC.den,h0]) (of_decide_eq_true rfl) ?_
 simp (maxSteps:=2000000) only [ir66,nt66,rs66,go_sem,↓reduceIte,Nat.reduceLT,Nat.reduceLeDiff,Nat.reduceAdd,Nat.reduceSub,Nat.reduceMul,Nat.reduceEqDiff,reduceCtorEq,Int.reduceToNat,Int.reduceEq,Int.reduceBEq,Int.reduceBNe,Int.reduceLT,Int.reduceLE,Int.reduceNeg,Int.reduceAdd,Int.reduceSub,Int.reduceMul,Int.reduceGE,Int.reduceGT,Cl.enc,iv,endO]
 refine loop_unr 9 ?_
 rcases o with _ | ⟨a0,_ | ⟨a1,_ | ⟨a2,_ | ⟨a3,_ | ⟨a4,_ | ⟨a5,_ | ⟨a6,_ | ⟨a7,_ | ⟨a8,o⟩⟩⟩⟩⟩⟩⟩⟩⟩
 rotate_right
 ·exfalso
  simp at ho
 all_goals simp only [List.forall_mem_cons,List.not_mem_nil,false_implies,implies_true,and_true] at hr
 iterate 9
  all_goals try
   intro ι I μ i hb
   simp (maxSteps:=2000000) only [go_sem,↓reduceIte,Nat.reduceLT,Nat.reduceLeDiff,Nat.reduceAdd,Nat.reduceSub,Nat.reduceMul,Nat.reduceEqDiff,reduceCtorEq,Int.reduceToNat,Int.reduceEq,Int.reduceBEq,Int.reduceBNe,Int.reduceLT,Int.reduceLE,Int.reduceNeg,Int.reduceAdd,Int.reduceSub,Int.reduceMul,Int.reduceGE,Int.reduceGT,Cl.enc,iv,endO,eI,List.getD_cons_zero,List.getD_cons_succ]
   try refine hb _ ?_
 all_goals clear ho h
 all_goals refine retV fun E=>?_
 all_goals simp (disch:=omega) [SV.den,SC.den,picV,picI,List.range,List.range.loop,w8]
 all_goals repeat' (first | rfl | apply And.intro)
end Go.Proofs.Ytkjeedlkkpgopaa.Z
