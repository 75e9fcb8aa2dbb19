/- WitnessBegunSaid: what its proof is made of. No condition. -/
import Derived.Test.YtkjeedlkkpgopaaPkWitnessBegunAO
set_option linter.unusedSimpArgs false
set_option linter.unusedVariables false
namespace Go.Proofs.Ytkjeedlkkpgopaa.Z
open Go Go.RowKit
def MapF (w : World) (bm : Nat) (f : Mem) : Prop := ∃ es clock, w.heap[bm]? = some (.map es clock) ∧ MapOk (.arr 8 .i8) .i64 f es clock
structure But (bm : Nat) (w w' : World) : Prop where
 os : w'.os = w.os
 tape : w'.tape = w.tape
 output : w'.output = w.output
 size : w.heap.size ≤ w'.heap.size
 block : ∀ n, n < w.heap.size → n ≠ bm → w'.heap[n]? = w.heap[n]?
def LsP (w : World) (bm : Nat) (vo : Value) (wh : Bool) (r : Option (List Nat)) (f' : Mem) (e : Ending) (w' : World) : Prop :=
 ∃ v, e = .returned (.tuple #[v, .bool r.isSome]) ∧ But bm w w' ∧ MapF w' bm f' ∧ (wh = true → v = vo) ∧
  (wh = false → v.oneCell' = true ∧ ∀ w'' : World, (∀ n, w.heap.size ≤ n → n < w'.heap.size → w''.heap[n]? = w'.heap[n]?) → Arr w'' eI 1 v (oI (r.getD [])))
def mkW (P : Program) (w : World) (bm : Nat) (rs : List RS) (R : Ending → World → Prop) : Ctx := ⟨P, mkTab P [], w.heap.size, fun n => n = bm, w, rs, R⟩
theorem mkW_rs (P : Program) (w : World) (bm : Nat) (rs : List RS) (R : Ending → World → Prop) : (mkW P w bm rs R).rs = rs := rfl
theorem mkW_B (P : Program) (w : World) (bm : Nat) (rs : List RS) (R : Ending → World → Prop) : (mkW P w bm rs R).B = w.heap.size := rfl
def FB (bm : Nat) : Env → World → Prop := fun E _ => E.ρ (9, 0, 0) = bm
def FO (vo : Value) : Env → World → Prop := fun E _ => E.χ (3, 0, 0) = vo
theorem map_cell {w w' : World} {bm : Nat} {a : Addr} {u : Value} {es : Array MapEntry} {clock : Nat} (hm : w.heap[bm]? = some (.map es clock)) (hk : ∀ n, n < w.heap.size → n ≠ bm → w'.heap[n]? = w.heap[n]?) (h : w.cell? a = some u) : w'.cell? a = some u := by
 have hb : a.block ≠ bm := fun e => by
  unfold World.cell? at h
  rw [e, hm] at h
  simp at h
 have hlt : a.block < w.heap.size := by
  unfold World.cell? at h
  cases he : w.heap[a.block]? with
  | none => rw [he] at h; simp at h
  | some o => exact (Array.getElem?_eq_some_iff.1 he).1
 unfold World.cell? at h ⊢
 rw [hk _ hlt hb]
 exact h
theorem arr_but {α : Type} {w w' : World} {enc : α → List Value} {s : Nat} {v : Value} {xs : List α} {bm : Nat} {es : Array MapEntry} {clock : Nat} (hm : w.heap[bm]? = some (.map es clock)) (hk : ∀ n, n < w.heap.size → n ≠ bm → w'.heap[n]? = w.heap[n]?) (h : Arr w enc s v xs) : Arr w' enc s v xs := h.keep fun a u hu => map_cell hm hk hu
theorem enterLS {P : Program} {f nt : Nat} {fn : Func} {x : Code} {c : IR} {w : World} {rs : List RS} {R : Ending → World → Prop} {v vo vm : Value} {ys : List Cl} {nms o : List Int} {m : MC} {bm : Nat} {g : Mem} (hS : Sr w v ys nms bm) (h : Arr w eI 1 vo o) (hc5 : Cont w vm m) (hg : MapF w bm g)
  (hf : P.funcs[f]? = some fn) (hb : fn.body = some x) (hc : compC (mkTab P []) x = some c.strip) (hr : compR (mkTab P []).T fn.results.toList = some rs) (hn : fn.ntmps = nt) (hnt : 3 ≤ nt)
  (hex : exec (mkW P w bm rs R) 1000 [.code c] ⟨nt, enumT 0 [.c (.ep (0, 0, 0) 3 0 0), .c (.xv (3, 0, 0)), .agg (mcS 4)], [(9, .one (.mp (.arr 8 .i8) .i64 g))], (3, .one (arrOf eI 1 o 0)) :: (srA 0 ys nms (.mp (9, 0, 0)) ++ mcA 4 m), [FB bm, FO vo], 10⟩) : Calls P f #[v, vo, vm] w R := by
 obtain ⟨b, off, vc, vn, rfl, c0, c1, c2, a1, a2⟩ := hS.ex
 obtain ⟨v0, v1, v2, v3, v4, rfl, m0, m1, m2, m3, m4⟩ := hc5
 obtain ⟨es, clock, hm, hok⟩ := hg
 let E0 : Env := ⟨fun _ => bm, fun _ => 0, fun _ => false, (ESC b off vc vn vo v0 v1 v2 v3 v4).χ⟩
 have hone : OneC E0 := fun x => by
  simp only [E0, ESC]
  split
  ·rfl
  split
  ·exact arr_one a1
  split
  ·exact arr_one a2
  split
  ·exact arr_one h
  ·simp only [fiv]
   split <;> first | exact arr_one m0 | exact arr_one m1 | exact arr_one m2 | exact arr_one m3 | exact arr_one m4
 have gg : ∀ E' : Env, AgreeD (· < 10) E0 E' → E'.ρ (9, 0, 0) = bm ∧ E'.χ (0, 0, 0) = .slice (some ⟨b, off, none⟩) 1 1 ∧ E'.χ (1, 0, 0) = vc ∧ E'.χ (2, 0, 0) = vn ∧ E'.χ (3, 0, 0) = vo ∧ E'.χ (4, 0, 0) = v0 ∧ E'.χ (5, 0, 0) = v1 ∧ E'.χ (6, 0, 0) = v2 ∧ E'.χ (7, 0, 0) = v3 ∧ E'.χ (8, 0, 0) = v4 := fun E' hE' => by
  have q : ∀ i, i < 10 → E'.χ (i, 0, 0) = E0.χ (i, 0, 0) := fun i hi => (hE' (i, 0, 0) hi).2.2.2
  exact ⟨(hE' (9, 0, 0) (show 9 < 10 by decide)).1, q 0 (by decide), q 1 (by decide), q 2 (by decide), q 3 (by decide), q 4 (by decide), q 5 (by decide), q 6 (by decide), q 7 (by decide), q 8 (by decide)⟩
 refine calls_sym (c := c) (C := mkW P w bm rs R) 1000 [.c (.ep (0, 0, 0) 3 0 0), .c (.xv (3, 0, 0)), .agg (mcS 4)] E0 [(9, .one (.mp (.arr 8 .i8) .i64 g))] _ [FB bm, FO vo] 10 nt _ (mkTab_ok _ _) hf hb hc hr hn rfl rfl hone (fun E' hE' => ?_) hnt (fun E' hE' => ?_) hex
 ·obtain ⟨_, g0, g1, g2, g3, g4, g5, g6, g7, g8⟩ := gg E' hE'
  simp [SV.den, SC.den, mcS, g0, g3, g4, g5, g6, g7, g8]
 obtain ⟨g9, g0, g1, g2, g3, g4, g5, g6, g7, g8⟩ := gg E' hE'
 have hat : ∀ x b, atN ([(9, .one (.mp (.arr 8 .i8) .i64 g))] : Own) x = some b → x = (9, 0, 0) ∧ b = .mp (.arr 8 .i8) .i64 g := fun x b hx => by
  rcases atN_one hx with hx | hx
  ·exact hx
  ·exact (atN_nil hx).elim
 refine ⟨fun _ => sing bm (.map es clock), fun x b hx => ?_, fun x y b c hx hy hne => ?_, fun x b hx n o hn => ?_, fun w' hw' => ?_⟩
 ·obtain ⟨rfl, rfl⟩ := hat x b hx
  exact ⟨es, clock, by rw [g9], hok⟩
 ·obtain ⟨rfl, _⟩ := hat x b hx
  obtain ⟨rfl, _⟩ := hat y c hy
  exact absurd rfl hne
 ·obtain ⟨rfl, rfl⟩ := sing_some hn
  exact ⟨hm, rfl⟩
 have hk : ∀ n, n < w.heap.size → n ≠ bm → w'.heap[n]? = w.heap[n]? := fun n hn hne => hw' n hn fun x b hx => by simp [sing, hne]
 refine ⟨fun x A hA => ?_, fun φ hφ => ?_⟩
 ·have key : ∀ {α : Type} {enc : α → List Value} {s : Nat} {xs : List α} {d : α} (T : EncT enc s) {i : Nat} {u : Value}, E'.χ (i, 0, 0) = u → Arr w enc s u xs → ArrAt E' w' (i, 0, 0) (arrOf enc s xs d) := fun {α enc s xs d} T {i u} hv hA => arrAt_of T (by rw [hv]; exact arr_but hm hk hA)
  rcases atN_one hA with ⟨rfl, rfl⟩ | hA
  ·exact key eI_ok g3 h
  simp only [srA, mcA, List.cons_append, List.nil_append] at hA
  rcases atN_one hA with ⟨rfl, rfl⟩ | hA
  ·refine ⟨some ⟨b, off, none⟩, 1, g0, Nat.le_refl _, by simp [maxLen], Or.inr ⟨b, off, rfl, Nat.zero_le _, fun k hk1 => ⟨rfl, fun j u hu => ?_⟩⟩⟩
   have hk1 : k = 0 := by simp only at hk1; omega
   subst hk1
   match j, hu with
   | 0, hu =>
    simp at hu; subst hu
    exact ⟨by simp only [SC.den, g1]; exact map_cell hm hk c0, by simp only [SC.den, g1]; exact arr_one a1⟩
   | 1, hu =>
    simp at hu; subst hu
    exact ⟨by simp only [SC.den, g2]; exact map_cell hm hk c1, by simp only [SC.den, g2]; exact arr_one a2⟩
   | 2, hu =>
    simp at hu; subst hu
    exact ⟨by simp only [SC.den, g9]; exact map_cell hm hk c2, rfl⟩
   | j + 3, hu => simp at hu
  rcases atN_one hA with ⟨rfl, rfl⟩ | hA
  ·exact key cl_ok g1 a1
  rcases atN_one hA with ⟨rfl, rfl⟩ | hA
  ·exact key eI_ok g2 a2
  rcases atN_one hA with ⟨rfl, rfl⟩ | hA
  ·exact key eI_ok g4 m0
  rcases atN_one hA with ⟨rfl, rfl⟩ | hA
  ·exact key eI_ok g5 m1
  rcases atN_one hA with ⟨rfl, rfl⟩ | hA
  ·exact key eI_ok g6 m2
  rcases atN_one hA with ⟨rfl, rfl⟩ | hA
  ·exact key eI_ok g7 m3
  rcases atN_one hA with ⟨rfl, rfl⟩ | hA
  ·exact key eP_ok g8 m4
  exact (atN_nil hA).elim
 ·rcases List.mem_cons.1 hφ with rfl | hφ
  ·exact g9
  rw [List.mem_singleton] at hφ
  subst hφ
  exact g3
theorem mapOk_congr {kk : KK} {kd : IntKind} {f g : Mem} {es : Array MapEntry} {clock : Nat} (h : MapOk kk kd f es clock) (hg : ∀ a, a.length = kk.len → f a = g a) : MapOk kk kd g es clock := by
 obtain ⟨L, g2, g3, g4, g5⟩ := h
 exact ⟨L, g2, g3, g4, fun a ha => by rw [← hg a ha]; exact g5.1 a ha, g5.2⟩
theorem map_at {C : Ctx} {S : St} {E : Env} {a : Act} {w : World} {g : Mem} (hs : Sat C.B C.W C.w0 E S a w) (h9 : look S.own 9 = some (.one (.mp (.arr 8 .i8) .i64 g))) : MapF w (E.ρ (9, 0, 0)) g ∧ E.ρ (9, 0, 0) < w.heap.size := by
 obtain ⟨H, hH, _⟩ := hs.mem
 have hat : atN S.own (9, 0, 0) = some (.mp (.arr 8 .i8) .i64 g) := by simp [atN, h9, Fm.get]
 obtain ⟨es, clock, h1, h2⟩ := hH.den _ _ hat
 have hn : H (9, 0, 0) (E.ρ (9, 0, 0)) = some (.map es clock) := by rw [h1]; simp [sing]
 exact ⟨⟨es, clock, (hH.sub _ _ hat _ _ hn).1, h2⟩, hH.lt hat hn⟩
theorem ret_ls {P : Program} {w : World} {rs : List RS} {bm : Nat} {vo : Value} {wh : Bool} {r : Option (List Nat)} {f' g : Mem} {S : St} {c : SC} {b : Bool} (hfb : FB bm ∈ S.facts) (h9 : look S.own 9 = some (.one (.mp (.arr 8 .i8) .i64 g))) (hg : ∀ a, a.length = 8 → g a = f' a) (hb : b = r.isSome)
  (h1 : wh = true → c = .xv (3, 0, 0) ∧ FO vo ∈ S.facts) (h2 : wh = false → RdN (mkW P w bm rs (LsP w bm vo wh r f')) S c (arrOf eI 1 (oI (r.getD [])) 0)) :
  RetVC (mkW P w bm rs (LsP w bm vo wh r f')) (.tup [(false, [c]), (false, [.v (.bool b)])]) S := by
 intro E a w' hsA
 have hs := hsA.sat
 have hh := holds_of (C := mkW P w bm rs (LsP w bm vo wh r f')) hs
 have hbm : E.ρ (9, 0, 0) = bm := hh.2 _ hfb
 obtain ⟨⟨es, clock, m1, m2⟩, _⟩ := map_at (C := mkW P w bm rs (LsP w bm vo wh r f')) hs h9
 rw [hbm] at m1
 refine ⟨c.den E, by simp [SV.den, den1, SC.den, hb], ⟨hs.frame.os, hs.frame.tape, hs.frame.output, hs.frame.size, fun n hn hne => hs.frame.keep n hn hne⟩, ⟨es, clock, m1, mapOk_congr m2 hg⟩, fun hw => ?_, fun hw => ?_⟩
 ·obtain ⟨rfl, hfo⟩ := h1 hw
  rw [den_xv]
  exact hh.2 _ hfo
 ·obtain ⟨k1, k2⟩ := h2 hw E a w' hsA
  refine ⟨k1, fun w'' hw'' => ?_⟩
  have := k2 w'' hw'' ⟨fun _ => 0, fun _ => 0, fun _ => false, fun _ => c.den E⟩ (0, 0, 0) rfl
  exact arr_of this
theorem fits_map {B : Nat} {W : Nat → Prop} {E : Env} {S : St} {w w1 : World} {g g' : Mem} {arrs' : List (Nat × Fm ArrF)} (h9 : look S.own 9 = some (.one (.mp (.arr 8 .i8) .i64 g))) (hb : But (E.ρ (9, 0, 0)) w w1) (hm : MapF w1 (E.ρ (9, 0, 0)) g')
  (ha : ∀ w'' : World, (∀ n, w.heap.size ≤ n → n < w1.heap.size → w''.heap[n]? = w1.heap[n]?) → ∀ x A, atN arrs' x = some A → ArrAt E w'' x A) : FitsG B W E S w w1 [(9, .one (.mp (.arr 8 .i8) .i64 g'))] arrs' := by
 obtain ⟨es', clock', m1, m2⟩ := hm
 have hat : atN S.own (9, 0, 0) = some (.mp (.arr 8 .i8) .i64 g) := by simp [atN, h9, Fm.get]
 have hone : ∀ x c, atN [(9, Fm.one (Blk.mp (.arr 8 .i8) .i64 g'))] x = some c → x = (9, 0, 0) ∧ c = .mp (.arr 8 .i8) .i64 g' := fun x c hx => by
  rcases atN_one hx with hx | hx
  ·exact hx
  ·exact (atN_nil hx).elim
 refine ⟨fun n => w.heap.size ≤ n ∧ n < w1.heap.size, fun n h => h, fun H hH => ?_, fun w'' _ hG x A hA => ha w'' (fun n h1 h2 => hG n ⟨h1, h2⟩) x A hA⟩
 obtain ⟨es, clock, d1, d2⟩ := hH.den _ _ hat
 have hn0 : H (9, 0, 0) (E.ρ (9, 0, 0)) = some (.map es clock) := by rw [d1]; simp [sing]
 have hlt := hH.lt hat hn0
 refine ⟨hb.os, hb.tape, hb.output, hb.size, fun n hn hk => hb.block n hn fun e => ?_, fun _ => sing (E.ρ (9, 0, 0)) (.map es' clock'), ?_, ?_, ?_⟩
 ·have := hk (9, 0, 0) _ (by simp [look]) hat
  rw [e, hn0] at this
  cases this
 ·intro x c hx
  obtain ⟨rfl, rfl⟩ := hone x c hx
  exact ⟨es', clock', rfl, m2⟩
 ·intro x y c d hx hy hne
  obtain ⟨rfl, _⟩ := hone x c hx
  obtain ⟨rfl, _⟩ := hone y d hy
  exact absurd rfl hne
 ·intro x c hx n o hn
  obtain ⟨rfl, rfl⟩ := hone x c hx
  obtain ⟨rfl, rfl⟩ := sing_some hn
  exact ⟨m1, Or.inr ⟨(9, 0, 0), _, by simp [look], hat, by rw [hn0]; simp⟩⟩
theorem cr_lsT {C : Ctx} {S : St} {f : Nat} {vs : List SV} {c : SC} {r : Option (List Nat)} {g g' : Mem} (t : Nat) (ht : look S.tmps t = some (.c c)) (h9 : look S.own 9 = some (.one (.mp (.arr 8 .i8) .i64 g))) (hr : r.isSome = true)
  (hc : ∀ E a w, Sat C.B C.W C.w0 E S a w → Calls C.P f (vs.map (SV.den E)).toArray w (LsP w (E.ρ (9, 0, 0)) (c.den E) true r g')) : CR C f vs S [9] (.tup [(false, [c]), (false, [.v (.bool true)])]) 0 [(9, .one (.mp (.arr 8 .i8) .i64 g'))] [] := by
 intro E a w hs
 refine (hc E a w hs).mono ?_
 rintro e w' ⟨v, rfl, hb, hm, hv, _⟩
 refine ⟨_, rfl, E, hs.one, fun E2 hs2 hk _ => ⟨?_, ?_⟩⟩
 ·have e1 : c.den E = c.den E2 := ((hs.tmps t _ ht).2.symm.trans (hs2.tmps t _ ht).2)
  rw [hv rfl, hr, e1]
  simp only [SV.den, den1, List.map_cons, List.map_nil, SC.den]
 ·have e9 := (hk (9, 0, 0) (by simp)).1
  exact fits_map h9 (by rw [e9]; exact hb) (by rw [e9]; exact hm) fun w'' _ x A hA => (atN_nil hA).elim
theorem cr_lsF {C : Ctx} {S : St} {f : Nat} {vs : List SV} {vo : Env → Value} {r : Option (List Nat)} {g g' : Mem} (h9 : look S.own 9 = some (.one (.mp (.arr 8 .i8) .i64 g)))
  (hc : ∀ E a w, Sat C.B C.W C.w0 E S a w → Calls C.P f (vs.map (SV.den E)).toArray w (LsP w (E.ρ (9, 0, 0)) (vo E) false r g')) : CR C f vs S [9] (.tup [(false, [.xv (S.nid, 0, 0)]), (false, [.v (.bool r.isSome)])]) 1 [(9, .one (.mp (.arr 8 .i8) .i64 g'))] [(S.nid, .one (arrOf eI 1 (oI (r.getD [])) 0 C.B))] := by
 intro E a w hs
 refine (hc E a w hs).mono ?_
 rintro e w' ⟨v, rfl, hb, hm, _, hv⟩
 obtain ⟨hv1, hv2⟩ := hv rfl
 refine ⟨_, rfl, E1 v, E1_one hv1, fun E2 hs2 hk hn => ?_⟩
 have hχ : E2.χ (S.nid, 0, 0) = v := (hn (S.nid, 0, 0) ⟨Nat.le_refl _, Nat.lt_succ_self _⟩).2.2.2
 have e9 := (hk (9, 0, 0) (by simp)).1
 refine ⟨by simp [SV.den, den1, SC.den, hχ], fits_map h9 (by rw [e9]; exact hb) (by rw [e9]; exact hm) fun w'' hw'' x A hA => ?_⟩
 rcases atN_one hA with ⟨rfl, rfl⟩ | hA
 ·exact arrAt_low (w := w) (B := w.heap.size) (w' := w') (A := arrOf eI 1 (oI (r.getD [])) 0) hs.frame.size (by simp [arrOf]) (fun w3 hw3 => arrAt_of eI_ok (by rw [hχ]; exact hv2 w3 hw3)) w'' hw''
 ·exact (atN_nil hA).elim
theorem rdN_slW {P : Program} {w : World} {rs : List RS} {bm : Nat} {R : Ending → World → Prop} {S : St} {ty k n : Nat} {xs : List Int} {at_ : Nat → List SC} {g : Mem} (hfb : FB bm ∈ S.facts) (h9 : look S.own 9 = some (.one (.mp (.arr 8 .i8) .i64 g))) (i : Nat) (hi : look S.own i = some (.one (.ar k 1 at_ ty))) (hn : n = xs.length) (hk : n ≤ k)
  (ha : ∀ e, e < xs.length → at_ e = ats eI xs 0 e) : RdN (mkW P w bm rs R) S (.sl (i, 0, 0) 1 0 n none) (arrOf eI 1 xs 0) := by
 subst hn
 intro E a w' hsA
 have hs := hsA.sat
 have hh := holds_of (C := mkW P w bm rs R) hs
 have hbm : E.ρ (9, 0, 0) = bm := hh.2 _ hfb
 obtain ⟨⟨es, clock, m1, m2⟩, _⟩ := map_at (C := mkW P w bm rs R) hs h9
 rw [hbm] at m1
 refine ⟨by simp [SC.den, Value.oneCell'], fun w'' hw'' E2 x hx => ?_⟩
 obtain ⟨H, hH, _⟩ := hs.mem
 have hat : atN S.own (i, 0, 0) = some (.ar k 1 at_ ty) := by simp [atN, hi, Fm.get]
 rcases ar_heap hH hat with ⟨h1, h2, h3, _⟩ | ⟨h1, h2, h3, cells, h4, h5, h6, h7⟩
 ·have h0 : xs.length = 0 := by omega
  exact ⟨none, 0, by rw [hx]; simp [SC.den, h1, h2, arrOf], by show xs.length ≤ 0; omega, by simp [maxLen], Or.inl h0⟩
 ·refine ⟨some ⟨E.ρ (i, 0, 0), 0, none⟩, E.κ (i, 0, 0), by rw [hx]; simp [SC.den, h1, arrOf], by show xs.length ≤ _; omega, h3, Or.inr ⟨_, _, rfl, Nat.zero_le _, fun e he => ?_⟩⟩
  have he' : e < xs.length := he
  obtain ⟨f1, f2⟩ := hH.sub _ _ hat (E.ρ (i, 0, 0)) (.cells cells ty (0, 0)) (by rw [h4]; simp [sing])
  have hge : w.heap.size ≤ E.ρ (i, 0, 0) := f2.resolve_right fun h => by
   have h : E.ρ (i, 0, 0) = bm := h
   rw [h, m1] at f1
   cases f1
  have hlt : E.ρ (i, 0, 0) < w'.heap.size := (Array.getElem?_eq_some_iff.1 h5).1
  refine ⟨by simp [arrOf, eI], fun j u hu => ?_⟩
  rw [cell_of_row w'' _ _ _ ty (0, 0) (by rw [hw'' _ hge hlt]; exact h5)]
  have hu2 : (at_ e)[j]? = some u := by rw [ha e he']; exact hu
  have h8 := (h7 e (by omega)).2 j u hu2
  simp only [arrOf, List.getElem?_map, Option.map_eq_some_iff] at hu
  obtain ⟨u', hu', rfl⟩ := hu
  rw [den_v] at h8 ⊢
  rw [Nat.zero_add]
  exact h8
end Go.Proofs.Ytkjeedlkkpgopaa.Z
namespace Go.Proofs.Ytkjeedlkkpgopaa.Z
open Go Go.RowKit
def pk (o : List Nat) (k : Nat) : Int := if k < o.length then ((o.getD k 0 : Nat) : Int) + 1 else 0
theorem pk_pic (o : List Nat) : [pk o 0, pk o 1, pk o 2, pk o 3, pk o 4, pk o 5, pk o 6, pk o 7] = pic o := rfl
def picS (o : List Nat) : List SC := [.v (.int .i8 (pk o 0)), .v (.int .i8 (pk o 1)), .v (.int .i8 (pk o 2)), .v (.int .i8 (pk o 3)), .v (.int .i8 (pk o 4)), .v (.int .i8 (pk o 5)), .v (.int .i8 (pk o 6)), .v (.int .i8 (pk o 7))]
theorem pic_len (o : List Nat) : (pic o).length = 8 := by simp [pic]
theorem picI_eq (o : List Nat) : picI (oI o) = pic o := by
 unfold picI pic
 refine List.map_congr_left fun k _ => ?_
 rw [oI_len]
 split
 ·next h => simp [oI, List.getD_eq_getElem?_getD, List.getElem?_eq_getElem h]
 ·rfl
theorem picV_eq (o : List Nat) (E : Env) : (SV.agg (picS o)).den E = picV (oI o) := by
 rw [picV, picI_eq, ← pk_pic]
 simp [picS, SV.den, SC.den]
theorem lstG_app {σ : Type} {h : Hist σ} {cand : List Nat} {rec : List Nat → σ → Mem → Option (List Nat) × Mem} {o : List Nat} {s : σ} : ∀ (l r : List Nat) (f : Mem), h.lstG cand rec o s (l ++ r) f = if (h.lstG cand rec o s l f).1.isSome = true then h.lstG cand rec o s l f else h.lstG cand rec o s r (h.lstG cand rec o s l f).2
 | [], r, f => by simp [Hist.lstG]
 | i :: l, r, f => by
  simp only [List.cons_append, Hist.lstG]
  split
  ·split
   ·next h1 => simp
   ·exact lstG_app l r _
  ·exact lstG_app l r _
def wrM : Int → Int := IntKind.i64.wrap
def gY (ys : List Cl) (k : Nat) (o : List Nat) (m : MC) (f : Mem) (i : Nat) : Option (List Nat) × Mem := (hY ys).lstG (cY ys) ((hY ys).lstF (cY ys) wrM k) o m (List.range i) f
theorem gY_succ (ys : List Cl) (k : Nat) (o : List Nat) (m : MC) (f : Mem) (i : Nat) (hn : (gY ys k o m f i).1 = none) : gY ys k o m f (i + 1) = if ((hY ys).mayW (cY ys) o i && ((hY ys).al m i).2) = true then (hY ys).lstF (cY ys) wrM k (o ++ [i]) ((hY ys).al m i).1 (gY ys k o m f i).2 else (none, (gY ys k o m f i).2) := by
 have h1 : gY ys k o m f (i + 1) = if (gY ys k o m f i).1.isSome = true then gY ys k o m f i else (hY ys).lstG (cY ys) ((hY ys).lstF (cY ys) wrM k) o m [i] (gY ys k o m f i).2 := by
  unfold gY
  rw [List.range_succ, lstG_app]
 rw [h1, hn, if_neg (by simp)]
 simp only [Hist.lstG]
 split
 ·split
  ·rfl
  ·next h2 =>
   have h2 : ((hY ys).lstF (cY ys) wrM k (o ++ [i]) ((hY ys).al m i).1 (gY ys k o m f i).2).1 = none := by simpa using h2
   exact Prod.ext h2.symm rfl
 ·rfl
theorem gY_some {ys : List Cl} {k : Nat} {o : List Nat} {m : MC} {f : Mem} {i : Nat} (hs : (gY ys k o m f i).1.isSome = true) : ∀ {j : Nat}, i ≤ j → gY ys k o m f j = gY ys k o m f i
  | 0, h => by have : i = 0 := by omega
               subst this; rfl
  | j + 1, h => by
    by_cases e : i = j + 1
    · subst e; rfl
    · have ih := gY_some (j := j) hs (by omega)
      have : gY ys k o m f (j + 1) = if (gY ys k o m f j).1.isSome = true then gY ys k o m f j else (hY ys).lstG (cY ys) ((hY ys).lstF (cY ys) wrM k) o m [j] (gY ys k o m f j).2 := by
        unfold gY
        rw [List.range_succ, lstG_app]
      rw [this, ih, if_pos hs]
theorem lstY_succ (ys : List Cl) (k : Nat) (o : List Nat) (m : MC) (f : Mem) : (hY ys).lstF (cY ys) wrM (k + 1) o m f = if (hY ys).whole (cY ys) o = true then (some o, f) else if 0 < (f (pic o)).getD 0 then (none, f) else
      (if (gY ys k o m f ys.length).1.isSome = true then gY ys k o m f ys.length else (none, bump wrM (gY ys k o m f ys.length).2 (pic o))) := rfl
theorem arrLe_srm (n : Nat) (hn : 10 ≤ n) : ArrLe (fun x => x < n) (idσ id) ⟨1, 3, fun _ => [.xv (1, 0, 0), .xv (2, 0, 0), .mp (9, 0, 0)], 0⟩ ⟨1, 3, fun _ => [.xv (1, 0, 0), .xv (2, 0, 0), .mp (9, 0, 0)], 0⟩ :=
 ⟨rfl, rfl, fun e _ => ⟨by simp [SC.renL, SC.ren, idσ], by simp [SC.okL, SC.okN]; omega⟩, Nat.le_refl _⟩
theorem fact_ls {n bm : Nat} {vo : Value} (hn : 10 ≤ n) : FactsLe (idσ id) n [FB bm, FO vo] [FB bm, FO vo] := by
 refine ⟨⟨FB bm, by simp, fun E E2 w h h0 => ?_⟩, ⟨FO vo, by simp, fun E E2 w h h0 => ?_⟩, trivial⟩
 ·exact (h (9, 0, 0) (show 9 < n by omega)).1.trans h0
 ·exact (h (3, 0, 0) (show 3 < n by omega)).2.2.2.trans h0
def ir50 : IR := (.seq (.ops [⟨(some 5), (.box 70 (.t 2)), none⟩, ⟨(some 6), (.mv (.k (.c (.v (.slice none 0 0))))), none⟩, ⟨(some 7), (.mv (.k (.c (.v (.bool false))))), none⟩]) (.kill [2, 3, 4, 6, 7, 8, 9, 10, 11] (.seq (.seq (.ops [⟨(some 15), (.mv (.t 0)), none⟩, ⟨(some 16), (.mv (.t 1)), none⟩, ⟨(some 17), (.call 65 [(.t 15), (.t 16)]), none⟩]) (.kill [15, 16] (.cond (.t 17) (.seq (.ops [⟨(some 18), (.mv (.t 1)), none⟩, ⟨(some 6), (.mv (.t 18)), none⟩, ⟨(some 7), (.mv (.k (.c (.v (.bool true))))), none⟩]) (.kill [0, 1, 5, 17, 18] .ret)) .skip))) (.kill [6, 7, 17] (.seq (.seq (.draw [(⟨(some 19), (.mv (.t 0)), none⟩, ([], [23, 24])), (⟨(some 20), (.nilck (.t 19)), none⟩, ([], [23, 24])), (⟨(some 21), (.fa 2 (.t 20)), none⟩, ([], [23, 24])), (⟨(some 22), (.ld false 1 (.t 21)), none⟩, ([], [23, 24])), (⟨(some 23), (.mv (.t 1)), none⟩, ([0, 1, 2, 3], [19, 20, 21, 22])), (⟨(some 24), (.call 66 [(.t 23)]), none⟩, ([0, 1, 2, 3], [19, 20, 21, 22])), (⟨(some 25), (.lkp (.arr 8 .i8) .i64 false (.t 22) (.t 24)), none⟩, ([], [])), (⟨(some 26), (.bin .gtr (.t 25) (.k (.c (.v (.int .i64 0))))), none⟩, ([], []))]) (.kill [19, 20, 21, 22, 23, 24, 25] (.cond (.t 26) (.seq (.ops [⟨(some 6), (.mv (.k (.c (.v (.slice none 0 0))))), none⟩, ⟨(some 7), (.mv (.k (.c (.v (.bool false))))), none⟩]) (.kill [0, 1, 5, 26] .ret)) .skip))) (.kill [6, 7, 26] (.seq (.seq (.ops [⟨(some 27), (.mv (.t 0)), none⟩, ⟨(some 28), (.nilck (.t 27)), none⟩, ⟨(some 29), (.fa 0 (.t 28)), none⟩, ⟨(some 30), (.ld false 1 (.t 29)), none⟩, ⟨(some 31), (.len (.t 30)), none⟩, ⟨(some 32), (.mv (.k (.c (.v (.int .i64 0))))), none⟩]) (.kill [27, 28, 29] (.blk 0 (.loop (.seq (.ops [⟨(some 33), (.bin .lss (.t 32) (.t 31)), none⟩]) (.kill [6, 7, 8, 9, 10, 11, 12, 13, 14, 34, 35, 36, 37, 38, 39, 40, 41, 42, 43, 44, 45, 46, 47, 48, 49, 50, 51, 52, 53, 54, 55, 56, 57, 58, 59, 60, 61, 62, 63, 64] (.seq (.cond (.t 33) .skip (.exit 0)) (.kill [33] (.seq (.blk 1 (.seq (.ops [⟨(some 34), (.mv (.t 32)), none⟩, ⟨(some 35), (.ia 9 (.t 30) (.t 32)), none⟩, ⟨(some 36), (.ld true 9 (.t 35)), none⟩, ⟨(some 9), (.new 53 [(.v (.int .i64 0)), (.v (.int .i64 0)), (.v (.int .i64 0)), (.v (.int .i64 0)), (.v (.int .i64 0)), (.v (.int .i64 0)), (.v (.int .i64 0)), (.v (.int .i64 0)), (.v (.int .i64 0))]), none⟩, ⟨(some 8), (.mv (.t 34)), none⟩, ⟨none, (.st 9 (.t 9) (.t 36)), none⟩]) (.kill [34, 35, 36] (.seq (.seq (.ops [⟨(some 37), (.mv (.t 0)), none⟩, ⟨(some 38), (.mv (.t 1)), none⟩, ⟨(some 39), (.mv (.t 8)), none⟩, ⟨(some 40), (.call 67 [(.t 37), (.t 38), (.t 39)]), none⟩, ⟨(some 41), (.un .not (.t 40)), none⟩]) (.kill [37, 38, 39, 40] (.cond (.t 41) (.exit 1) .skip))) (.kill [41] (.seq (.ops [⟨(some 43), (.ld true 5 (.t 5)), none⟩, ⟨(some 44), (.ld true 9 (.t 9)), none⟩, ⟨(some 45), (.call 68 [(.t 43), (.t 44)]), none⟩, ⟨(some 42), (.mv (.t 45)), none⟩, ⟨(some 46), (.ext 0 (.t 42)), none⟩, ⟨(some 47), (.ext 1 (.t 42)), none⟩, ⟨(some 48), (.ext 2 (.t 42)), none⟩, ⟨(some 10), (.new 70 [(.v (.slice none 0 0)), (.v (.slice none 0 0)), (.v (.slice none 0 0)), (.v (.slice none 0 0)), (.v (.slice none 0 0))]), none⟩, ⟨none, (.st 5 (.t 10) (.t 46)), none⟩, ⟨(some 11), (.mv (.t 47)), none⟩, ⟨(some 12), (.mv (.t 48)), none⟩]) (.kill [9, 12, 42, 43, 44, 45, 46, 47, 48] (.seq (.seq (.ops [⟨(some 49), (.mv (.t 11)), none⟩, ⟨(some 50), (.un .not (.t 49)), none⟩]) (.kill [11, 49] (.cond (.t 50) (.exit 1) .skip))) (.kill [50] (.seq (.draw [(⟨(some 52), (.mv (.t 0)), none⟩, ([], [53, 54, 55, 56, 57, 58])), (⟨(some 53), (.mv (.t 1)), none⟩, ([0], [52, 55, 56, 58])), (⟨(some 54), (.call 69 [(.t 53)]), none⟩, ([0], [52, 55, 56, 58])), (⟨(some 55), (.mv (.t 8)), none⟩, ([0, 1, 2], [52, 53, 54, 58])), (⟨(some 56), (.mkSl 3 1 1 [(.v (.int .i64 0))] [(0, (1, (.t 55)))]), none⟩, ([0, 1, 2], [52, 53, 54, 58])), (⟨(some 57), (.app 3 1 8 [(.v (.int .i64 0))] (.t 54) (.t 56)), none⟩, ([0], [52, 58])), (⟨(some 58), (.ld true 5 (.t 10)), none⟩, ([0, 1, 2, 3, 4, 5], [52, 53, 54, 55, 56, 57])), (⟨(some 59), (.call 50 [(.t 52), (.t 57), (.t 58)]), none⟩, ([], [])), (⟨(some 51), (.mv (.t 59)), none⟩, ([], [])), (⟨(some 60), (.ext 0 (.t 51)), none⟩, ([], [61])), (⟨(some 61), (.ext 1 (.t 51)), none⟩, ([9], [60, 13])), (⟨(some 13), (.mv (.t 60)), none⟩, ([10], [61])), (⟨(some 14), (.mv (.t 61)), none⟩, ([], []))]) (.kill [8, 10, 51, 52, 53, 54, 55, 56, 57, 58, 59, 60, 61] (.seq (.ops [⟨(some 62), (.mv (.t 14)), none⟩]) (.kill [14] (.cond (.t 62) (.seq (.ops [⟨(some 63), (.mv (.t 13)), none⟩, ⟨(some 6), (.mv (.t 63)), none⟩, ⟨(some 7), (.mv (.k (.c (.v (.bool true))))), none⟩]) (.kill [0, 1, 5, 13, 30, 31, 32, 62, 63] .ret)) .skip)))))))))))))) (.kill [6, 7, 8, 9, 10, 11, 12, 13, 14, 34, 35, 36, 37, 38, 39, 40, 41, 42, 43, 44, 45, 46, 47, 48, 49, 50, 51, 52, 53, 54, 55, 56, 57, 58, 59, 60, 61, 62, 63] (.ops [⟨(some 64), (.bin .add (.t 32) (.k (.c (.v (.int .i64 1))))), none⟩, ⟨(some 32), (.mv (.t 64)), none⟩]))))))))))) (.kill [5, 6, 7, 8, 9, 10, 11, 12, 13, 14, 30, 31, 32, 33, 34, 35, 36, 37, 38, 39, 40, 41, 42, 43, 44, 45, 46, 47, 48, 49, 50, 51, 52, 53, 54, 55, 56, 57, 58, 59, 60, 61, 62, 63, 64] (.seq (.draw [(⟨(some 65), (.mv (.t 0)), none⟩, ([], [69, 70])), (⟨(some 66), (.nilck (.t 65)), none⟩, ([], [69, 70])), (⟨(some 67), (.fa 2 (.t 66)), none⟩, ([], [69, 70])), (⟨(some 68), (.ld false 1 (.t 67)), none⟩, ([], [69, 70])), (⟨(some 69), (.mv (.t 1)), none⟩, ([0, 1, 2, 3], [65, 66, 67, 68])), (⟨(some 70), (.call 66 [(.t 69)]), none⟩, ([0, 1, 2, 3], [65, 66, 67, 68])), (⟨(some 71), (.lkp (.arr 8 .i8) .i64 false (.t 68) (.t 70)), none⟩, ([], [73, 74])), (⟨(some 72), (.bin .add (.t 71) (.k (.c (.v (.int .i64 1))))), none⟩, ([], [73, 74])), (⟨(some 73), (.ent (.arr 8 .i8) .i64 (.t 68) (.t 70)), none⟩, ([6, 7], [71, 72])), (⟨(some 74), (.ext 1 (.t 73)), none⟩, ([6, 7], [71, 72])), (⟨none, (.ests (.arr 8 .i8) .i64 (.t 68) (.t 74) (.t 72)), none⟩, ([], []))]) (.kill [0, 1, 65, 66, 67, 68, 69, 70, 71, 72, 73, 74] (.seq (.ops [⟨(some 6), (.mv (.k (.c (.v (.slice none 0 0))))), none⟩, ⟨(some 7), (.mv (.k (.c (.v (.bool false))))), none⟩]) .ret)))))))))))
def rs50 : List RS := [(.t 6), (.t 7)]
def nt50 : Nat := 75
set_option maxRecDepth 100000 in
set_option maxHeartbeats 400000 in
theorem least_calls : ∀ (k : Nat) (w : World) (v vo vm : Value) (ys : List Cl) (nms : List Int) (bm : Nat) (o : List Nat) (m : MC) (f : Mem) (hk : k ≤ 9) (h8 : ys.length ≤ 8) (hob : ∀ i, i < ys.length → objOf (ys.getD i cl0).op ≠ 0) (hS : Sr w v ys nms bm) (hf0 : MapF w bm f) (h : Arr w eI 1 vo (oI o)) (hc : Cont w vm m)
  (hm : mayB m = true) (hu : m.upto o.length) (hf : ys.length + 1 ≤ k + o.length) (hn : o.Nodup) (hs : ∀ i ∈ o, i < ys.length), Calls Try.prog 50 #[v, vo, vm] w (LsP w bm vo ((hY ys).whole (cY ys) o) ((hY ys).lstF (cY ys) wrM k o m f).1 ((hY ys).lstF (cY ys) wrM k o m f).2) := by
 intro k
 induction k with
 | zero =>
  intro w v vo vm ys nms bm o m f hk h8 hob hS hf0 h hc hm hu hf hn hs
  have := o_len hn hs
  omega
 | succ k ih =>
  intro w v vo vm ys nms bm o m f hk h8 hob hS hf0 h hc hm hu hf hn hs
  have hol := o_len hn hs
  have hok : MC.okR m := hu.okR (by omega)
  refine enterLS (c := ir50) (rs := rs50) (nt := nt50) hS h hc hf0 Try.func50 rfl (by kernel_rfl) (by kernel_rfl) rfl (of_decide_eq_true rfl) ?_
  simp (maxSteps := 2000000) only [ir50, nt50, rs50, go_sem, ↓condS, ↓exitS, ↓gateS, ↓runOp, ↓gateD, ↓runD, ↓imp_ft, ↓imp_tf, ↓imp_tt, ↓imp_ff, ↓imp_fn, ↓imp_tn, ↓imp_fy, ↓imp_ty, ↓reduceIte, Nat.reduceLT, Nat.reduceLeDiff, Nat.reduceAdd, Nat.reduceSub, Nat.reduceMul, Nat.reduceEqDiff, reduceCtorEq, Int.reduceToNat, Int.reduceEq, Int.reduceBEq, Int.reduceBNe, Int.reduceLT, Int.reduceLE, Int.reduceNeg, Int.reduceAdd, Int.reduceSub, Int.reduceMul, Int.reduceGE, Int.reduceGT, Cl.enc, iv, endO, srA, mcS, mcA, mkW_rs, List.cons_append, List.nil_append]
  have hbm : ∀ {R : Ending → World → Prop} {rs : List RS} {E : Env} {S : St} {a : Act} {w' : World}, Sat (mkW Try.prog w bm rs R).B (mkW Try.prog w bm rs R).W (mkW Try.prog w bm rs R).w0 E S a w' → FB bm ∈ S.facts → E.ρ (9, 0, 0) = bm := fun {R rs E S a w'} hs hfb => (holds_of (C := mkW Try.prog w bm rs R) hs).2 _ hfb
  refine callV (.c (.bo ((hY ys).whole (cY ys) o))) _ (fun E => rfl) (fun E a w' hs => by
   have := whole_calls w' _ _ ys nms (oI o) _ (sr_at (m := .mp (9, 0, 0)) hs rfl rfl rfl rfl) (arr_at (d := 0) hs 3 rfl)
   rw [whole_eq] at this
   exact this) ?_
  rw [lstY_succ]
  simp (maxSteps := 2000000) only [go_sem, ↓condS, ↓exitS, ↓gateS, ↓runOp, ↓gateD, ↓runD, ↓imp_ft, ↓imp_tf, ↓imp_tt, ↓imp_ff, ↓imp_fn, ↓imp_tn, ↓imp_fy, ↓imp_ty, ↓reduceIte, Nat.reduceLT, Nat.reduceLeDiff, Nat.reduceAdd, Nat.reduceSub, Nat.reduceMul, Nat.reduceEqDiff, reduceCtorEq, Int.reduceToNat, Int.reduceEq, Int.reduceBEq, Int.reduceBNe, Int.reduceLT, Int.reduceLE, Int.reduceNeg, Int.reduceAdd, Int.reduceSub, Int.reduceMul, Int.reduceGE, Int.reduceGT, Cl.enc, iv, endO, mkW_rs]
  refine both (fun hw => ?_) (fun hw => ?_)
  ·rw [hw]
   simp only [if_true]
   exact ret_ls (by simp) rfl (fun _ _ => rfl) rfl (fun _ => ⟨rfl, by simp⟩) (fun h => by cases h)
  rw [hw]
  simp only [Bool.false_eq_true, if_false]
  have hoil := oI_len o
  have hoi8 : ∀ x ∈ oI o, 0 ≤ x ∧ x < 8 := fun x hx => by
   obtain ⟨j, hj, rfl⟩ := List.mem_map.1 hx
   have := hs j hj
   omega
  refine draw_vc (by kernel_rfl) (mkTab_ok _ _) (of_decide_eq_true rfl) (of_decide_eq_true rfl) ?_
  repeat (first | simp (maxSteps := 2000000) only [go_sem, ↓condS, ↓exitS, ↓gateS, ↓runOp, ↓gateD, ↓runD, ↓imp_ft, ↓imp_tf, ↓imp_tt, ↓imp_ff, ↓imp_fn, ↓imp_tn, ↓imp_fy, ↓imp_ty, ↓reduceIte, Nat.reduceLT, Nat.reduceLeDiff, Nat.reduceAdd, Nat.reduceSub, Nat.reduceMul, Nat.reduceEqDiff, reduceCtorEq, Int.reduceToNat, Int.reduceEq, Int.reduceBEq, Int.reduceBNe, Int.reduceLT, Int.reduceLE, Int.reduceNeg, Int.reduceAdd, Int.reduceSub, Int.reduceMul, Int.reduceGE, Int.reduceGT, Cl.enc, iv, endO, srA] | rw [dr_cons])
  refine dcallV (.agg (picS o)) _ (picV_eq o) (fun E a w' hs2 => picture_calls w' _ (oI o) (by omega) hoi8 (arr_at (d := 0) hs2 3 rfl)) ?_
  repeat (first | simp (maxSteps := 2000000) only [go_sem, ↓condS, ↓exitS, ↓gateS, ↓runOp, ↓gateD, ↓runD, ↓imp_ft, ↓imp_tf, ↓imp_tt, ↓imp_ff, ↓imp_fn, ↓imp_tn, ↓imp_fy, ↓imp_ty, ↓reduceIte, Nat.reduceLT, Nat.reduceLeDiff, Nat.reduceAdd, Nat.reduceSub, Nat.reduceMul, Nat.reduceEqDiff, reduceCtorEq, Int.reduceToNat, Int.reduceEq, Int.reduceBEq, Int.reduceBNe, Int.reduceLT, Int.reduceLE, Int.reduceNeg, Int.reduceAdd, Int.reduceSub, Int.reduceMul, Int.reduceGE, Int.reduceGT, Cl.enc, iv, endO, srA, picS, pk_pic, KK.len, pic_len] | rw [dr_cons])
  refine both (fun hv => ?_) (fun hv => ?_)
  ·rw [decide_eq_true_eq] at hv
   rw [if_pos hv]
   exact ret_ls (by simp) rfl (fun _ _ => rfl) rfl (fun h => by cases h) (fun _ => rdN_nil)
  rw [decide_eq_false_iff_not] at hv
  rw [if_neg hv]
  repeat (with_reducible refine And.intro (by first | (simp only [maxLen]; omega) | omega | decide | (simp; done) | (simp [maxLen]; omega)) ?_)
  refine loopI (ι := { i : Nat // i ≤ ys.length ∧ (gY ys k o m f i).1 = none }) (fun i => ⟨75, [(0, .c (.ep (0, 0, 0) 3 0 0)), (1, .c (.xv (3, 0, 0))), (5, .c (.ptr (10, 0, 0) 0)), (30, .c (.xv (1, 0, 0))), (31, .c (.v (.int .i64 ys.length))), (32, .c (.v (.int .i64 (i.1 : Nat))))],
   [(9, .one (.mp (.arr 8 .i8) .i64 (gY ys k o m f i.1).2)), (10, .one (.bk (mcS 4) 70))], (3, .one (arrOf eI 1 (oI o) 0)) :: (srA 0 ys nms (.mp (9, 0, 0)) ++ mcA 4 m), [FB bm, FO vo], 11⟩)
   (fun i => ys.length - i.1) ⟨0, by omega, rfl⟩ ?_ ?_
  ·simp only [srA, mcS, mcA, List.cons_append, List.nil_append]
   exact le_tmps (by simp [TmpsSub, look])
  rintro ⟨i, hi, hgn⟩
  have hgs := gY_succ ys k o m f i hgn
  have hgt : ∀ {j}, (gY ys k o m f (i + 1)).1.isSome = true → i + 1 ≤ j → gY ys k o m f j = gY ys k o m f (i + 1) := fun h1 h2 => gY_some h1 h2
  generalize hgi : (gY ys k o m f i).2 = fi at hgs ⊢
  simp (maxSteps := 2000000) only [go_sem, ↓condS, ↓exitS, ↓gateS, ↓runOp, ↓gateD, ↓runD, ↓imp_ft, ↓imp_tf, ↓imp_tt, ↓imp_ff, ↓imp_fn, ↓imp_tn, ↓imp_fy, ↓imp_ty, ↓reduceIte, Nat.reduceLT, Nat.reduceLeDiff, Nat.reduceAdd, Nat.reduceSub, Nat.reduceMul, Nat.reduceEqDiff, reduceCtorEq, Int.reduceToNat, Int.reduceEq, Int.reduceBEq, Int.reduceBNe, Int.reduceLT, Int.reduceLE, Int.reduceNeg, Int.reduceAdd, Int.reduceSub, Int.reduceMul, Int.reduceGE, Int.reduceGT, Cl.enc, iv, endO, mkW_rs, srA, mcS, mcA, List.cons_append, List.nil_append]
  refine both (fun hlt => ?_) (fun hge => ?_)
  ·rw [decide_eq_true_eq] at hlt
   have hlt : i < ys.length := by omega
   generalize hci : ys.getD i cl0 = ci
   have hal : (hY ys).al m i = allowM m ci := by rw [← hci]; rfl
   rw [hal] at hgs
   have hmn := mayN_eq ys o i
   have hobi := hob i hlt
   rw [hci] at hobi
   repeat (with_reducible refine And.intro (by first | (simp only [maxLen]; omega) | omega | decide | (simp; done) | (simp [maxLen]; omega)) ?_)
   refine callV (.c (.bo ((hY ys).mayW (cY ys) o i))) _ (fun E => rfl) (fun E a w' hs2 => by
    have := may_next w' _ _ ys nms (oI o) _ i hlt (sr_at (m := .mp (9, 0, 0)) hs2 rfl rfl rfl rfl) (arr_at (d := 0) hs2 3 rfl)
    rw [hmn] at this
    exact this) ?_
   simp (maxSteps := 2000000) only [go_sem, ↓condS, ↓exitS, ↓gateS, ↓runOp, ↓gateD, ↓runD, ↓imp_ft, ↓imp_tf, ↓imp_tt, ↓imp_ff, ↓imp_fn, ↓imp_tn, ↓imp_fy, ↓imp_ty, ↓reduceIte, Nat.reduceLT, Nat.reduceLeDiff, Nat.reduceAdd, Nat.reduceSub, Nat.reduceMul, Nat.reduceEqDiff, reduceCtorEq, Int.reduceToNat, Int.reduceEq, Int.reduceBEq, Int.reduceBNe, Int.reduceLT, Int.reduceLE, Int.reduceNeg, Int.reduceAdd, Int.reduceSub, Int.reduceMul, Int.reduceGE, Int.reduceGT, Cl.enc, iv, endO, mkW_rs]
   refine both (fun hb => ?_) (fun hb => ?_)
   ·have hb : (hY ys).mayW (cY ys) o i = false := by simpa using hb
    rw [hb, Bool.false_and, if_neg (by simp)] at hgs
    have e2 : (gY ys k o m f (i + 1)).2 = fi := by rw [hgs]
    rw [wr_succ (by omega)]
    exact backI ⟨i + 1, by omega, by rw [hgs]⟩ (by simp only; omega) (by simp only [srA, mcS, mcA, List.cons_append, List.nil_append]; exact le_renF id rfl (fact_ls (of_decide_eq_true rfl)) (by simp [TmpsLe, look, SV.ren, SC.ren, SC.renL, ren1L, ren1, idσ, SV.okN, SC.okN, SC.okL, ok1L]) (by simp [OwnLe, BlkLeO, BlkLe, atN, look, Fm.get, idσ, SC.renL, SC.ren, SC.okL, SC.okN, renL_v, okL_v, e2]) (by simp [ArrsLe, ArrLeO, atN, look, Fm.get, idσ, arrLe_of, arrLe_0, arrLe_srm]) rfl)
   ·have hb : (hY ys).mayW (cY ys) o i = true := by simpa using hb
    rw [hb, Bool.true_and] at hgs
    refine callB 5 (alT (allowM m ci)) (mcR (allowM m ci).1) (fun E a w' hs2 => al_Z ci (cont_at hs2 4 rfl rfl rfl rfl rfl) hok hm hobi) ?_
    simp (maxSteps := 2000000) only [go_sem, ↓condS, ↓exitS, ↓gateS, ↓runOp, ↓gateD, ↓runD, ↓imp_ft, ↓imp_tf, ↓imp_tt, ↓imp_ff, ↓imp_fn, ↓imp_tn, ↓imp_fy, ↓imp_ty, ↓reduceIte, Nat.reduceLT, Nat.reduceLeDiff, Nat.reduceAdd, Nat.reduceSub, Nat.reduceMul, Nat.reduceEqDiff, reduceCtorEq, Int.reduceToNat, Int.reduceEq, Int.reduceBEq, Int.reduceBNe, Int.reduceLT, Int.reduceLE, Int.reduceNeg, Int.reduceAdd, Int.reduceSub, Int.reduceMul, Int.reduceGE, Int.reduceGT, Cl.enc, iv, endO, mkW_rs, alT, mcS, mcR, mcA]
    have hup := allowM_upto (c := ci) hu
    have hmy := allowM_may (c := ci) hm
    generalize allowM m ci = p at hgs hup hmy ⊢
    obtain ⟨m2, b⟩ := p
    simp only at hgs hup hmy
    refine both (fun hbb => ?_) (fun hbb => ?_)
    ·have hbb : b = false := by simpa using hbb
     rw [if_neg (by simp [hbb])] at hgs
     have e2 : (gY ys k o m f (i + 1)).2 = fi := by rw [hgs]
     rw [wr_succ (by omega)]
     exact backI ⟨i + 1, by omega, by rw [hgs]⟩ (by simp only; omega) (by simp only [srA, mcS, mcA, List.cons_append, List.nil_append]; exact le_renF id rfl (fact_ls (of_decide_eq_true rfl)) (by simp [TmpsLe, look, SV.ren, SC.ren, SC.renL, ren1L, ren1, idσ, SV.okN, SC.okN, SC.okL, ok1L]) (by simp [OwnLe, BlkLeO, BlkLe, atN, look, Fm.get, idσ, SC.renL, SC.ren, SC.okL, SC.okN, renL_v, okL_v, e2]) (by simp [ArrsLe, ArrLeO, atN, look, Fm.get, idσ, arrLe_of, arrLe_0, arrLe_srm]) rfl)
    ·have hbb : b = true := by simpa using hbb
     rw [if_pos hbb] at hgs
     subst hbb
     have hio := (mayW_iff.1 hb).1
     have hnn : (o ++ [i]).Nodup := by
      rw [List.nodup_append]
      exact ⟨hn, by simp, fun a ha b hb => by rw [List.mem_singleton] at hb; exact fun e => hio (by rw [← hb, ← e]; exact ha)⟩
     have hss : ∀ j ∈ o ++ [i], j < ys.length := fun j hj => by
      rcases List.mem_append.1 hj with hj | hj
      ·exact hs j hj
      ·rw [List.mem_singleton] at hj; exact hj ▸ hlt
     have hll : (o ++ [i]).length = o.length + 1 := by simp
     refine draw_vc (by kernel_rfl) (mkTab_ok _ _) (of_decide_eq_true rfl) (of_decide_eq_true rfl) ?_
     repeat (first | simp (maxSteps := 2000000) only [go_sem, ↓condS, ↓exitS, ↓gateS, ↓runOp, ↓gateD, ↓runD, ↓imp_ft, ↓imp_tf, ↓imp_tt, ↓imp_ff, ↓imp_fn, ↓imp_tn, ↓imp_fy, ↓imp_ty, ↓reduceIte, Nat.reduceLT, Nat.reduceLeDiff, Nat.reduceAdd, Nat.reduceSub, Nat.reduceMul, Nat.reduceEqDiff, reduceCtorEq, Int.reduceToNat, Int.reduceEq, Int.reduceBEq, Int.reduceBNe, Int.reduceLT, Int.reduceLE, Int.reduceNeg, Int.reduceAdd, Int.reduceSub, Int.reduceMul, Int.reduceGE, Int.reduceGT, Cl.enc, iv, endO, srA, mkW_rs] | rw [dr_cons])
     refine dcall_intro (cr_valN (.c (.xs (3, 0, 0) 1 0 (oI o).length (some (oI o).length))) [3] (by simp [SV.okN, SC.okN]) (fun E a w' hs => ?_)) rfl trivial trivial (fun k hk => by cases hk) ?_
     ·have hA := arr_at (d := 0) (l := 0) (xs := oI o) (enc := eI) (s := 1) hs 3 rfl
      have hcl := clip_calls w' _ (oI o) hA
      obtain ⟨ba, cap, hv, _⟩ := hA
      refine hcl.mono ?_
      rintro e w2 ⟨rfl, hb2⟩
      refine ⟨?_, hb2⟩
      rw [den_c]
      simp only [SC.den, hv, clipV]
      cases ba <;> simp [Addr.add]
     repeat (first | simp (maxSteps := 2000000) only [go_sem, ↓condS, ↓exitS, ↓gateS, ↓runOp, ↓gateD, ↓runD, ↓imp_ft, ↓imp_tf, ↓imp_tt, ↓imp_ff, ↓imp_fn, ↓imp_tn, ↓imp_fy, ↓imp_ty, ↓reduceIte, Nat.reduceLT, Nat.reduceLeDiff, Nat.reduceAdd, Nat.reduceSub, Nat.reduceMul, Nat.reduceEqDiff, reduceCtorEq, Int.reduceToNat, Int.reduceEq, Int.reduceBEq, Int.reduceBNe, Int.reduceLT, Int.reduceLE, Int.reduceNeg, Int.reduceAdd, Int.reduceSub, Int.reduceMul, Int.reduceGE, Int.reduceGT, Cl.enc, iv, endO, srA, mkW_rs] | rw [dr_cons])
     have hf8 : ((oI o).length + 1 + ((oI o).length + 1) / 4 + 192) * 8 ≤ 281474976710656 := fit_app8 _ (by omega)
     have hml : (oI o).length + 1 ≤ maxLen := by simp only [maxLen]; omega
     refine And.intro (by decide) (And.intro (Or.inl trivial) (And.intro (And.intro (Nat.le_refl _) (And.intro hf8 hml)) (And.intro (Or.inl trivial) ?_)))
     clear hf8 hml
     have hol1 := o_len hnn hss
     have ihc : ∀ {C : Ctx} {E : Env} {S : St} {a : Act} {w' : World}, Sat C.B C.W C.w0 E S a w' → look S.own 9 = some (.one (.mp (.arr 8 .i8) .i64 fi)) → look S.arrs 0 = some (.one ⟨1, 3, fun _ => [.xv (1, 0, 0), .xv (2, 0, 0), .mp (9, 0, 0)], 0⟩) → look S.arrs 1 = some (.one (arrOf Cl.enc 9 ys cl0)) → look S.arrs 2 = some (.one (arrOf eI 1 nms 0)) →
       look S.own 19 = some (.one (.ar ((oI o).length + 1) 1 (appAt (oI o).length (fun e => List.map SC.v (eI ((oI o).getD e 0))) fun e => take' 1 (drop' (e * 1) [SC.v (Value.int IntKind.i64 i)])) 3)) → look S.arrs 12 = some (.one (arrOf eI 1 m2.cell 0)) → look S.arrs 13 = some (.one (arrOf eI 1 m2.stack 0)) → look S.arrs 14 = some (.one (arrOf eI 1 m2.queue 0)) → look S.arrs 15 = some (.one (arrOf eI 1 m2.set 0)) → look S.arrs 16 = some (.one (arrOf eP 2 m2.table (0, 0))) →
       Calls Try.prog 50 #[(SC.ep (0, 0, 0) 3 0 0).den E, (SC.sl (19, 0, 0) 1 0 ((oI o).length + 1) none).den E, .agg ((mcS 12).map (SC.den E)).toArray] w' (LsP w' (E.ρ (9, 0, 0)) ((SC.sl (19, 0, 0) 1 0 ((oI o).length + 1) none).den E) ((hY ys).whole (cY ys) (o ++ [i])) ((hY ys).lstF (cY ys) wrM k (o ++ [i]) m2 fi).1 ((hY ys).lstF (cY ys) wrM k (o ++ [i]) m2 fi).2) :=
      fun {C E S a w'} hs2 l9 l0 l1 l2 l19 q0 q1 q2 q3 q4 => ih w' _ _ _ ys nms _ (o ++ [i]) m2 fi (by omega) h8 hob (sr_at (m := .mp (9, 0, 0)) hs2 l0 l1 l2 rfl) (map_at hs2 l9).1
       (arr_own (d := 0) hs2 19 ((oI o).length + 1) _ _ l19 (by rw [oI_push]; simp) (by rw [oI_push]; simp) (fun e he => ats_push (oI_push o i) rfl (fun e he => rfl) rfl e he)) (cont_at hs2 12 q0 q1 q2 q3 q4) hmy (by rw [hll]; exact hup) (by rw [hll]; omega) hnn hss
     by_cases hwi : (hY ys).whole (cY ys) (o ++ [i]) = true
     ·have hlk : (hY ys).lstF (cY ys) wrM k (o ++ [i]) m2 fi = (some (o ++ [i]), fi) := by
       obtain ⟨k', rfl⟩ : ∃ k', k = k' + 1 := ⟨k - 1, by omega⟩
       rw [lstY_succ, if_pos hwi]
      rw [hlk] at hgs ihc
      rw [hwi] at ihc
      have hG : gY ys k o m f ys.length = (some (o ++ [i]), fi) := (hgt (by rw [hgs]; rfl) (by omega)).trans hgs
      rw [hG]
      simp only [Option.isSome_some, if_true]
      refine dcall_intro (cr_lsT (r := some (o ++ [i])) (g' := fi) (c := .sl (19, 0, 0) 1 0 ((oI o).length + 1) none) 57 rfl rfl rfl (fun E a w' hs2 => ihc hs2 rfl rfl rfl rfl rfl rfl rfl rfl rfl rfl)) rfl trivial ?_ ?_ ?_
      ·exact ⟨Or.inr ⟨of_decide_eq_true rfl, rfl, trivial⟩, trivial⟩
      ·intro q hq _
       simp only [keysL, List.mem_cons, List.not_mem_nil, or_false] at hq
       subst hq
       rfl
      repeat (first | simp (maxSteps := 2000000) only [go_sem, ↓condS, ↓exitS, ↓gateS, ↓runOp, ↓gateD, ↓runD, ↓imp_ft, ↓imp_tf, ↓imp_tt, ↓imp_ff, ↓imp_fn, ↓imp_tn, ↓imp_fy, ↓imp_ty, ↓reduceIte, Nat.reduceLT, Nat.reduceLeDiff, Nat.reduceAdd, Nat.reduceSub, Nat.reduceMul, Nat.reduceEqDiff, reduceCtorEq, Int.reduceToNat, Int.reduceEq, Int.reduceBEq, Int.reduceBNe, Int.reduceLT, Int.reduceLE, Int.reduceNeg, Int.reduceAdd, Int.reduceSub, Int.reduceMul, Int.reduceGE, Int.reduceGT, Cl.enc, iv, endO, srA, mkW_rs] | rw [dr_cons])
      exact ret_ls (by simp) rfl (fun _ _ => rfl) rfl (fun h => by cases h) (fun _ => rdN_slW (by simp) rfl 19 rfl (by simp [oI_push]) (Nat.le_refl _) (fun e he => ats_push (oI_push o i) rfl (fun e he => rfl) rfl e he))
     ·have hwi : (hY ys).whole (cY ys) (o ++ [i]) = false := by simpa using hwi
      rw [hwi] at ihc
      generalize (hY ys).lstF (cY ys) wrM k (o ++ [i]) m2 fi = p at hgs ihc
      obtain ⟨r, f2⟩ := p
      simp only at ihc
      refine dcall_intro (cr_lsF (r := r) (g' := f2) (vo := fun E => (SC.sl (19, 0, 0) 1 0 ((oI o).length + 1) none).den E) rfl (fun E a w' hs2 => ihc hs2 rfl rfl rfl rfl rfl rfl rfl rfl rfl rfl)) rfl ?_ ?_ ?_ ?_
      ·simp [newOk, keysL]
      ·exact ⟨Or.inr ⟨of_decide_eq_true rfl, rfl, trivial⟩, trivial⟩
      ·intro q hq _
       simp only [keysL, List.mem_cons, List.not_mem_nil, or_false] at hq
       subst hq
       rfl
      cases r with
      | none =>
       repeat (first | simp (maxSteps := 2000000) only [go_sem, ↓condS, ↓exitS, ↓gateS, ↓runOp, ↓gateD, ↓runD, ↓imp_ft, ↓imp_tf, ↓imp_tt, ↓imp_ff, ↓imp_fn, ↓imp_tn, ↓imp_fy, ↓imp_ty, ↓reduceIte, Nat.reduceLT, Nat.reduceLeDiff, Nat.reduceAdd, Nat.reduceSub, Nat.reduceMul, Nat.reduceEqDiff, reduceCtorEq, Int.reduceToNat, Int.reduceEq, Int.reduceBEq, Int.reduceBNe, Int.reduceLT, Int.reduceLE, Int.reduceNeg, Int.reduceAdd, Int.reduceSub, Int.reduceMul, Int.reduceGE, Int.reduceGT, Cl.enc, iv, endO, srA, mkW_rs, mkW_B, Option.isSome_none, Option.getD_none] | rw [dr_cons])
       have e2 : (gY ys k o m f (i + 1)).2 = f2 := by rw [hgs]
       rw [wr_succ (by omega)]
       exact backI ⟨i + 1, by omega, by rw [hgs]⟩ (by simp only; omega) (by simp only [srA, mcS, mcA, List.cons_append, List.nil_append]; exact le_renF id rfl (fact_ls (of_decide_eq_true rfl)) (by simp [TmpsLe, look, SV.ren, SC.ren, SC.renL, ren1L, ren1, idσ, SV.okN, SC.okN, SC.okL, ok1L]) (by simp [OwnLe, BlkLeO, BlkLe, atN, look, Fm.get, idσ, SC.renL, SC.ren, SC.okL, SC.okN, renL_v, okL_v, e2]) (by simp [ArrsLe, ArrLeO, atN, look, Fm.get, idσ, arrLe_of, arrLe_0, arrLe_srm]) rfl)
      | some x =>
       have hG : gY ys k o m f ys.length = (some x, f2) := (hgt (by rw [hgs]; rfl) (by omega)).trans hgs
       rw [hG]
       simp only [Option.isSome_some, if_true]
       repeat (first | simp (maxSteps := 2000000) only [go_sem, ↓condS, ↓exitS, ↓gateS, ↓runOp, ↓gateD, ↓runD, ↓imp_ft, ↓imp_tf, ↓imp_tt, ↓imp_ff, ↓imp_fn, ↓imp_tn, ↓imp_fy, ↓imp_ty, ↓reduceIte, Nat.reduceLT, Nat.reduceLeDiff, Nat.reduceAdd, Nat.reduceSub, Nat.reduceMul, Nat.reduceEqDiff, reduceCtorEq, Int.reduceToNat, Int.reduceEq, Int.reduceBEq, Int.reduceBNe, Int.reduceLT, Int.reduceLE, Int.reduceNeg, Int.reduceAdd, Int.reduceSub, Int.reduceMul, Int.reduceGE, Int.reduceGT, Cl.enc, iv, endO, srA, mkW_rs, mkW_B, Option.isSome_some, Option.getD_some] | rw [dr_cons])
       exact ret_ls (by simp) rfl (fun _ _ => rfl) rfl (fun h => by cases h) (fun _ => rdN_lo 20 rfl (Nat.le_refl _))
  ·rw [decide_eq_false_iff_not] at hge
   have hin : i = ys.length := by omega
   subst hin
   rw [hgn, hgi]
   simp only [Option.isSome_none, Bool.false_eq_true, if_false]
   refine draw_vc (by kernel_rfl) (mkTab_ok _ _) (of_decide_eq_true rfl) (of_decide_eq_true rfl) ?_
   repeat (first | simp (maxSteps := 2000000) only [go_sem, ↓condS, ↓exitS, ↓gateS, ↓runOp, ↓gateD, ↓runD, ↓imp_ft, ↓imp_tf, ↓imp_tt, ↓imp_ff, ↓imp_fn, ↓imp_tn, ↓imp_fy, ↓imp_ty, ↓reduceIte, Nat.reduceLT, Nat.reduceLeDiff, Nat.reduceAdd, Nat.reduceSub, Nat.reduceMul, Nat.reduceEqDiff, reduceCtorEq, Int.reduceToNat, Int.reduceEq, Int.reduceBEq, Int.reduceBNe, Int.reduceLT, Int.reduceLE, Int.reduceNeg, Int.reduceAdd, Int.reduceSub, Int.reduceMul, Int.reduceGE, Int.reduceGT, Cl.enc, iv, endO, srA, mkW_rs] | rw [dr_cons])
   refine dcallV (.agg (picS o)) _ (picV_eq o) (fun E a w' hs2 => picture_calls w' _ (oI o) (by omega) hoi8 (arr_at (d := 0) hs2 3 rfl)) ?_
   repeat (first | simp (maxSteps := 2000000) only [go_sem, ↓condS, ↓exitS, ↓gateS, ↓runOp, ↓gateD, ↓runD, ↓imp_ft, ↓imp_tf, ↓imp_tt, ↓imp_ff, ↓imp_fn, ↓imp_tn, ↓imp_fy, ↓imp_ty, ↓reduceIte, Nat.reduceLT, Nat.reduceLeDiff, Nat.reduceAdd, Nat.reduceSub, Nat.reduceMul, Nat.reduceEqDiff, reduceCtorEq, Int.reduceToNat, Int.reduceEq, Int.reduceBEq, Int.reduceBNe, Int.reduceLT, Int.reduceLE, Int.reduceNeg, Int.reduceAdd, Int.reduceSub, Int.reduceMul, Int.reduceGE, Int.reduceGT, Cl.enc, iv, endO, srA, picS, pk_pic, KK.len, pic_len, mkW_rs] | rw [dr_cons])
   exact ⟨Or.inr trivial, Or.inr trivial, ret_ls (by simp) rfl (fun a _ => rfl) rfl (fun h => by cases h) (fun _ => rdN_nil)⟩
end Go.Proofs.Ytkjeedlkkpgopaa.Z
namespace Go.Proofs.Ytkjeedlkkpgopaa.Z
open Go Go.RowKit
theorem le_nil2 {C : Ctx} {nt : Nat} {tmps : List (Nat × SV)} {own : Own} {arrs : List (Nat × Fm ArrF)} {facts : List (Env → World → Prop)} {nid : Nat} (j ty s1 t1 s2 t2 : Nat) (f1 f2 : Nat → List SC) (x : Nm) (hx : x.1 < nid) (hj : look own j = some (.one (.bk [.v (.slice none 0 0), .v (.slice none 0 0), .mp x] ty))) (h1 : look own nid = none) (h2 : look own (nid + 1) = none) :
  Le C ⟨nt, tmps, own, arrs, facts, nid⟩ ⟨nt, tmps, (nid, .one (.ar 0 s1 f1 t1)) :: (nid + 1, .one (.ar 0 s2 f2 t2)) :: setL own j (.one (.bk [.sl (nid, 0, 0) s1 0 0 none, .sl (nid + 1, 0, 0) s2 0 0 none, .mp x] ty)), arrs, facts, nid + 2⟩ := by
 intro E a w hs
 refine ⟨⟨E.ρ, fun x => if nid ≤ x.1 then 0 else E.κ x, fun x => if nid ≤ x.1 then true else E.ν x, E.χ⟩, hs.1, fun E2 hE2 ho2 => ?_⟩
 have hs2 := hs.2 E2 (fun x hx => by
  have hx : x.1 < nid := hx
  obtain ⟨h1, h2, h3, h4⟩ := hE2 x (show x.1 < nid + 2 by omega)
  exact ⟨h1, by rw [h2]; simp only; rw [if_neg (by omega)], by rw [h3]; simp only; rw [if_neg (by omega)], h4⟩) ho2
 have hnil : ∀ x : Nm, nid ≤ x.1 → x.1 < nid + 2 → E2.κ x = 0 ∧ E2.ν x = true := fun x h1 h2 => by
  obtain ⟨_, h3, h4, _⟩ := hE2 x (show x.1 < nid + 2 from h2)
  rw [h3, h4]
  simp only
  rw [if_pos h1, if_pos h1]
  exact ⟨rfl, rfl⟩
 have hjn : j ≠ nid ∧ j ≠ nid + 1 := ⟨fun e => (by rw [e, h1] at hj; cases hj), fun e => (by rw [e, h2] at hj; cases hj)⟩
 obtain ⟨H, hH, hF⟩ := hs2.mem
 have hat : atN own (j, 0, 0) = some (.bk [.v (.slice none 0 0), .v (.slice none 0 0), .mp x] ty) := by simp [atN, hj, Fm.get]
 have hold : ∀ y b, atN ((nid, .one (.ar 0 s1 f1 t1)) :: (nid + 1, .one (.ar 0 s2 f2 t2)) :: setL own j (.one (.bk [.sl (nid, 0, 0) s1 0 0 none, .sl (nid + 1, 0, 0) s2 0 0 none, .mp x] ty)) : Own) y = some b →
   (y = (nid, 0, 0) ∧ b = .ar 0 s1 f1 t1) ∨ (y = (nid + 1, 0, 0) ∧ b = .ar 0 s2 f2 t2) ∨ (y = (j, 0, 0) ∧ b = .bk [.sl (nid, 0, 0) s1 0 0 none, .sl (nid + 1, 0, 0) s2 0 0 none, .mp x] ty) ∨ (y.1 ≠ j ∧ y.1 ≠ nid ∧ y.1 ≠ nid + 1 ∧ atN own y = some b) := by
  rintro ⟨k, p, q⟩ b hy0
  rcases atN_one hy0 with hy1 | hy1
  ·exact Or.inl hy1
  rcases atN_one hy1 with hy | hy
  ·exact Or.inr (Or.inl hy)
  right; right
  clear hy0 hy1
  simp only [atN, look_setL] at hy
  by_cases e : j = k
  ·subst e
   rw [if_pos rfl] at hy
   simp only [Fm.get] at hy
   split at hy
   ·next e => obtain ⟨rfl, rfl⟩ := e; cases hy; exact Or.inl ⟨rfl, rfl⟩
   ·cases hy
  ·rw [if_neg e] at hy
   refine Or.inr ⟨fun e2 => e e2.symm, fun e2 => ?_, fun e2 => ?_, hy⟩
   ·simp only at e2; rw [e2, h1] at hy; cases hy
   ·simp only at e2; rw [e2, h2] at hy; cases hy
 have hw : ∀ y : Nm, y.1 ≠ nid → y.1 ≠ nid + 1 → (if y.1 = nid ∨ y.1 = nid + 1 then emp else H y) = H y := fun y g1 g2 => by rw [if_neg (by omega)]
 refine ⟨hs2.size, hs2.defers, ho2, hs2.tmps, hs2.frame, fun y => if y.1 = nid ∨ y.1 = nid + 1 then emp else H y, ⟨?_, ?_, ?_⟩, ?_⟩
 ·intro y b hy
  rcases hold y b hy with ⟨rfl, rfl⟩ | ⟨rfl, rfl⟩ | ⟨rfl, rfl⟩ | ⟨_, g1, g2, hy⟩
  ·obtain ⟨k1, k2⟩ := hnil (nid, 0, 0) (by simp) (by simp)
   exact Or.inl ⟨k2, k1, rfl, by simp⟩
  ·obtain ⟨k1, k2⟩ := hnil (nid + 1, 0, 0) (by simp) (by simp)
   exact Or.inl ⟨k2, k1, rfl, by simp⟩
  ·have := hH.den _ _ hat
   obtain ⟨k1, k2⟩ := hnil (nid, 0, 0) (by simp) (by simp)
   obtain ⟨k3, k4⟩ := hnil (nid + 1, 0, 0) (by simp) (by simp)
   show Blk.den E2 (j, 0, 0) _ (if (j, 0, 0).1 = nid ∨ (j, 0, 0).1 = nid + 1 then emp else H (j, 0, 0))
   rw [hw (j, 0, 0) hjn.1 hjn.2]
   simp only [Blk.den, List.map_cons, List.map_nil, SC.den] at this ⊢
   rw [this, k1, k2, k3, k4]
   simp
  ·show Blk.den E2 y _ (if y.1 = nid ∨ y.1 = nid + 1 then emp else H y)
   rw [hw _ g1 g2]
   exact hH.den _ _ hy
 ·intro y z b c hy hz hne n
  have key : ∀ y b, atN ((nid, .one (.ar 0 s1 f1 t1)) :: (nid + 1, .one (.ar 0 s2 f2 t2)) :: setL own j (.one (.bk [.sl (nid, 0, 0) s1 0 0 none, .sl (nid + 1, 0, 0) s2 0 0 none, .mp x] ty)) : Own) y = some b → (if y.1 = nid ∨ y.1 = nid + 1 then emp else H y) = emp ∨ (y.1 ≠ nid ∧ y.1 ≠ nid + 1 ∧ ∃ b', atN own y = some b') := fun y b hy => by
   rcases hold y b hy with ⟨rfl, rfl⟩ | ⟨rfl, rfl⟩ | ⟨rfl, rfl⟩ | ⟨_, g1, g2, hy⟩
   ·exact Or.inl (by simp)
   ·exact Or.inl (by simp)
   ·exact Or.inr ⟨hjn.1, hjn.2, _, hat⟩
   ·exact Or.inr ⟨g1, g2, _, hy⟩
  rcases key y b hy with g | ⟨g1, g2, b', g3⟩
  ·left; show (if y.1 = nid ∨ y.1 = nid + 1 then emp else H y) n = none; rw [g]; rfl
  rcases key z c hz with k | ⟨k1, k2, c', k3⟩
  ·right; show (if z.1 = nid ∨ z.1 = nid + 1 then emp else H z) n = none; rw [k]; rfl
  ·show (if y.1 = nid ∨ y.1 = nid + 1 then emp else H y) n = none ∨ (if z.1 = nid ∨ z.1 = nid + 1 then emp else H z) n = none
   rw [hw _ g1 g2, hw _ k1 k2]
   exact hH.disj y z b' c' g3 k3 hne n
 ·intro y b hy n o hn
  rcases hold y b hy with ⟨rfl, rfl⟩ | ⟨rfl, rfl⟩ | ⟨rfl, rfl⟩ | ⟨_, g1, g2, hy⟩
  ·simp [emp] at hn
  ·simp [emp] at hn
  ·have hn : (if (j, 0, 0).1 = nid ∨ (j, 0, 0).1 = nid + 1 then emp else H (j, 0, 0)) n = some o := hn
   rw [hw (j, 0, 0) hjn.1 hjn.2] at hn
   exact hH.sub _ _ hat n o hn
  ·have hn : (if y.1 = nid ∨ y.1 = nid + 1 then emp else H y) n = some o := hn
   rw [hw _ g1 g2] at hn
   exact hH.sub _ _ hy n o hn
 ·intro w' hw'
  have h0 := hF w' fun n hn hfr => hw' n hn fun y b hy => by
   rcases hold y b hy with ⟨rfl, rfl⟩ | ⟨rfl, rfl⟩ | ⟨rfl, rfl⟩ | ⟨_, g1, g2, hy⟩
   ·simp [emp]
   ·simp [emp]
   ·show (if (j, 0, 0).1 = nid ∨ (j, 0, 0).1 = nid + 1 then emp else H (j, 0, 0)) n = none
    rw [hw (j, 0, 0) hjn.1 hjn.2]; exact hfr _ _ hat
   ·show (if y.1 = nid ∨ y.1 = nid + 1 then emp else H y) n = none
    rw [hw _ g1 g2]; exact hfr _ _ hy
  exact ⟨h0.1, h0.2⟩
def cidx (xs : List Cl) (n : Nat) : List Nat := (List.range n).filter fun i => cntB (xs.getD i cl0)
def cys (xs : List Cl) (n : Nat) : List Cl := (cidx xs n).map fun i => xs.getD i cl0
theorem cidx_succ (xs : List Cl) (n : Nat) : cidx xs (n + 1) = if cntB (xs.getD n cl0) = true then cidx xs n ++ [n] else cidx xs n := by
 unfold cidx
 rw [List.range_succ, List.filter_append]
 by_cases h : cntB (xs.getD n cl0) = true
 ·rw [if_pos h, List.filter_cons_of_pos (p := fun i => cntB (xs.getD i cl0)) h]; rfl
 ·rw [if_neg h, List.filter_cons_of_neg (p := fun i => cntB (xs.getD i cl0)) h]; simp
theorem cidx_len (xs : List Cl) (n : Nat) : (cidx xs n).length ≤ n := by
 have := List.length_filter_le (fun i => cntB (xs.getD i cl0)) (List.range n)
 simpa [cidx] using this
theorem cys_len (xs : List Cl) (n : Nat) : (cys xs n).length = (cidx xs n).length := by simp [cys]
noncomputable def nsE (xs : List Cl) : Int := if mayQ xs = true then (if (cidx xs xs.length).length ≤ 8 then 0 else 3) else 120
def nsT (n : Nat) (b : Nat) : SV := .tup [(false, [.ptr (b, 0, 0) 0]), (false, [.v (.int .i64 0)])]
def nsO (xs : List Cl) (b : Nat) : Own := [(b, .one (.bk [.sl (b + 1, 0, 0) 9 0 (cys xs xs.length).length none, .sl (b + 2, 0, 0) 1 0 (cys xs xs.length).length none, .mp (b + 3, 0, 0)] 83)), (b + 1, .one (.ar (cys xs xs.length).length 9 (ats Cl.enc (cys xs xs.length) cl0) 53)), (b + 2, .one (.ar (cys xs xs.length).length 1 (ats eI (oI (cidx xs xs.length)) 0) 3)), (b + 3, .one (.mp (.arr 8 .i8) .i64 fun _ => none))]
def ir49 : IR := (.seq (.ops [⟨(some 2), (.mv (.k (.c (.v (.pointer none))))), none⟩, ⟨(some 3), (.mv (.k (.c (.v (.int .i64 0))))), none⟩]) (.kill [1, 2, 3, 4, 5, 6, 7, 8, 9, 10, 11] (.seq (.seq (.ops [⟨(some 7), (.mv (.t 0)), none⟩, ⟨(some 8), (.call 15 [(.t 7)]), none⟩, ⟨(some 9), (.un .not (.t 8)), none⟩]) (.kill [7, 8] (.cond (.t 9) (.seq (.ops [⟨(some 2), (.mv (.k (.c (.v (.pointer none))))), none⟩, ⟨(some 3), (.mv (.k (.c (.v (.int .i64 120))))), none⟩]) (.kill [0, 9] .ret)) .skip))) (.kill [2, 3, 9] (.seq (.ops [⟨(some 10), (.mkm (.arr 8 .i8) .i64), none⟩, ⟨(some 11), (.build [(.v (.slice none 0 0)), (.v (.slice none 0 0)), (.v (.map none))] [(2, (1, (.t 10)))]), none⟩, ⟨(some 12), (.box 83 (.t 11)), none⟩, ⟨(some 4), (.mv (.t 12)), none⟩]) (.kill [10, 11, 12] (.seq (.seq (.ops [⟨(some 13), (.mv (.t 0)), none⟩, ⟨(some 14), (.len (.t 13)), none⟩, ⟨(some 15), (.mv (.k (.c (.v (.int .i64 0))))), none⟩]) (.kill [0] (.blk 0 (.loop (.seq (.ops [⟨(some 16), (.bin .lss (.t 15) (.t 14)), none⟩]) (.kill [5, 6, 17, 18, 19, 20, 21, 22, 23, 24, 25, 26, 27, 28, 29, 30, 31, 32, 33, 34, 35, 36, 37, 38, 39, 40, 41, 42] (.seq (.cond (.t 16) .skip (.exit 0)) (.kill [16] (.seq (.blk 1 (.seq (.ops [⟨(some 17), (.mv (.t 15)), none⟩, ⟨(some 18), (.ia 9 (.t 13) (.t 15)), none⟩, ⟨(some 19), (.ld true 9 (.t 18)), none⟩, ⟨(some 6), (.new 53 [(.v (.int .i64 0)), (.v (.int .i64 0)), (.v (.int .i64 0)), (.v (.int .i64 0)), (.v (.int .i64 0)), (.v (.int .i64 0)), (.v (.int .i64 0)), (.v (.int .i64 0)), (.v (.int .i64 0))]), none⟩, ⟨(some 5), (.mv (.t 17)), none⟩, ⟨none, (.st 9 (.t 6) (.t 19)), none⟩]) (.kill [17, 18, 19] (.seq (.ops [⟨(some 20), (.ld true 9 (.t 6)), none⟩, ⟨(some 21), (.call 42 [(.t 20)]), none⟩]) (.kill [20] (.cond (.t 21) (.seq (.draw [(⟨(some 22), (.mv (.t 4)), none⟩, ([], [23, 24, 25, 26, 27, 28, 29])), (⟨(some 23), (.mv (.t 4)), none⟩, ([0], [22, 27, 28])), (⟨(some 24), (.nilck (.t 23)), none⟩, ([0], [22, 27, 28])), (⟨(some 25), (.fa 0 (.t 24)), none⟩, ([0], [22, 27, 28])), (⟨(some 26), (.ld false 1 (.t 25)), none⟩, ([0], [22, 27, 28])), (⟨(some 27), (.ld true 9 (.t 6)), none⟩, ([0, 1, 2, 3, 4], [22, 23, 24, 25, 26])), (⟨(some 28), (.mkSl 53 1 9 [(.v (.int .i64 0)), (.v (.int .i64 0)), (.v (.int .i64 0)), (.v (.int .i64 0)), (.v (.int .i64 0)), (.v (.int .i64 0)), (.v (.int .i64 0)), (.v (.int .i64 0)), (.v (.int .i64 0))] [(0, (9, (.t 27)))]), none⟩, ([0, 1, 2, 3, 4], [22, 23, 24, 25, 26])), (⟨(some 29), (.app 53 9 72 [(.v (.int .i64 0)), (.v (.int .i64 0)), (.v (.int .i64 0)), (.v (.int .i64 0)), (.v (.int .i64 0)), (.v (.int .i64 0)), (.v (.int .i64 0)), (.v (.int .i64 0)), (.v (.int .i64 0))] (.t 26) (.t 28)), none⟩, ([0], [22])), (⟨(some 30), (.nilck (.t 22)), none⟩, ([], [])), (⟨(some 31), (.fa 0 (.t 30)), none⟩, ([], [])), (⟨none, (.st 1 (.t 31) (.t 29)), none⟩, ([], []))]) (.kill [6, 21, 22, 23, 24, 25, 26, 27, 28, 29, 30, 31] (.ops [⟨(some 32), (.mv (.t 4)), none⟩, ⟨(some 33), (.mv (.t 4)), none⟩, ⟨(some 34), (.nilck (.t 33)), none⟩, ⟨(some 35), (.fa 1 (.t 34)), none⟩, ⟨(some 36), (.ld false 1 (.t 35)), none⟩, ⟨(some 37), (.mv (.t 5)), none⟩, ⟨(some 38), (.mkSl 3 1 1 [(.v (.int .i64 0))] [(0, (1, (.t 37)))]), none⟩, ⟨(some 39), (.app 3 1 8 [(.v (.int .i64 0))] (.t 36) (.t 38)), none⟩, ⟨(some 40), (.nilck (.t 32)), none⟩, ⟨(some 41), (.fa 1 (.t 40)), none⟩, ⟨none, (.st 1 (.t 41) (.t 39)), none⟩]))) .skip)))))) (.kill [5, 6, 17, 18, 19, 20, 21, 22, 23, 24, 25, 26, 27, 28, 29, 30, 31, 32, 33, 34, 35, 36, 37, 38, 39, 40, 41] (.ops [⟨(some 42), (.bin .add (.t 15) (.k (.c (.v (.int .i64 1))))), none⟩, ⟨(some 15), (.mv (.t 42)), none⟩]))))))))))) (.kill [5, 6, 13, 14, 15, 16, 17, 18, 19, 20, 21, 22, 23, 24, 25, 26, 27, 28, 29, 30, 31, 32, 33, 34, 35, 36, 37, 38, 39, 40, 41, 42] (.seq (.seq (.ops [⟨(some 43), (.mv (.t 4)), none⟩, ⟨(some 44), (.nilck (.t 43)), none⟩, ⟨(some 45), (.fa 0 (.t 44)), none⟩, ⟨(some 46), (.ld false 1 (.t 45)), none⟩, ⟨(some 47), (.len (.t 46)), none⟩, ⟨(some 48), (.bin .gtr (.t 47) (.k (.c (.v (.int .i64 8))))), none⟩]) (.kill [43, 44, 45, 46, 47] (.cond (.t 48) (.seq (.ops [⟨(some 2), (.mv (.k (.c (.v (.pointer none))))), none⟩, ⟨(some 3), (.mv (.k (.c (.v (.int .i64 3))))), none⟩]) (.kill [4, 48] .ret)) .skip))) (.kill [2, 3, 48] (.seq (.ops [⟨(some 49), (.mv (.t 4)), none⟩, ⟨(some 2), (.mv (.t 49)), none⟩, ⟨(some 3), (.mv (.k (.c (.v (.int .i64 0))))), none⟩]) (.kill [4, 49] .ret))))))))))))
def rs49 : List RS := [(.t 2), (.t 3)]
def nt49 : Nat := 50
def nsEnd (xs : List Cl) (u : SV) (e : Int) : St := ⟨50, [(2, u), (3, .c (.v (.int .i64 e)))], [(1, .one (.bk [.sl (2, 0, 0) 9 0 (cys xs xs.length).length none, .sl (3, 0, 0) 1 0 (cys xs xs.length).length none, .mp (4, 0, 0)] 83)), (2, .one (.ar (cys xs xs.length).length 9 (ats Cl.enc (cys xs xs.length) cl0) 53)), (3, .one (.ar (cys xs xs.length).length 1 (ats eI (oI (cidx xs xs.length)) 0) 3)), (4, .one (.mp (.arr 8 .i8) .i64 fun _ => none))], [(0, .one (arrOf Cl.enc 9 xs cl0))], [], 5⟩
set_option maxRecDepth 100000 in
set_option maxHeartbeats 400000 in
theorem newSearch_gen {R : Ending → World → Prop} (w : World) (v : Value) (xs : List Cl) (hsz : xs.length * 72 ≤ 140737488355328) (hm : mayQ xs = true) (h : Arr w Cl.enc 9 v xs)
  (h1 : 8 < (cys xs xs.length).length → RetVC (mkC Try.prog [] w rs49 R) (.tup [(false, [.v (.pointer none)]), (false, [.v (.int .i64 3)])]) (nsEnd xs (.c (.v (.pointer none))) 3))
  (h2 : (cys xs xs.length).length ≤ 8 → RetVC (mkC Try.prog [] w rs49 R) (.tup [(false, [.ptr (1, 0, 0) 0]), (false, [.v (.int .i64 0)])]) (nsEnd xs (.c (.ptr (1, 0, 0) 0)) 0)) : Calls Try.prog 49 #[v] w R := by
 refine enter1 (A := []) (c := ir49) (rs := rs49) (nt := nt49) cl0 cl_ok h [.c (.xv (0, 0, 0))] _ Try.func49 rfl (by kernel_rfl) (by kernel_rfl) rfl (fun E' h0 => by simp [SV.den, SC.den, h0]) (of_decide_eq_true rfl) ?_
 simp (maxSteps := 2000000) only [ir49, nt49, rs49, go_sem, ↓condS, ↓exitS, ↓gateS, ↓runOp, ↓gateD, ↓runD, ↓imp_ft, ↓imp_tf, ↓imp_tt, ↓imp_ff, ↓imp_fn, ↓imp_tn, ↓imp_fy, ↓imp_ty, ↓reduceIte, Nat.reduceLT, Nat.reduceLeDiff, Nat.reduceAdd, Nat.reduceSub, Nat.reduceMul, Nat.reduceEqDiff, reduceCtorEq, Int.reduceToNat, Int.reduceEq, Int.reduceBEq, Int.reduceBNe, Int.reduceLT, Int.reduceLE, Int.reduceNeg, Int.reduceAdd, Int.reduceSub, Int.reduceMul, Int.reduceGE, Int.reduceGT, Cl.enc, iv, endO]
 refine callV (.c (.v (.bool true))) (.bool true) (fun E => rfl) (fun E a w' hs => by
  have := mayW w' _ xs (arr_at (d := cl0) hs 0 rfl)
  rw [hm] at this
  exact this) ?_
 simp (maxSteps := 2000000) only [go_sem, ↓condS, ↓exitS, ↓gateS, ↓runOp, ↓gateD, ↓runD, ↓imp_ft, ↓imp_tf, ↓imp_tt, ↓imp_ff, ↓imp_fn, ↓imp_tn, ↓imp_fy, ↓imp_ty, ↓reduceIte, Nat.reduceLT, Nat.reduceLeDiff, Nat.reduceAdd, Nat.reduceSub, Nat.reduceMul, Nat.reduceEqDiff, reduceCtorEq, Int.reduceToNat, Int.reduceEq, Int.reduceBEq, Int.reduceBNe, Int.reduceLT, Int.reduceLE, Int.reduceNeg, Int.reduceAdd, Int.reduceSub, Int.reduceMul, Int.reduceGE, Int.reduceGT, Cl.enc, iv, endO]
 refine loopI (ι := { i : Nat // i ≤ xs.length }) (fun i => ⟨50, [(4, .c (.ptr (1, 0, 0) 0)), (13, .c (.xv (0, 0, 0))), (14, .c (.v (.int .i64 xs.length))), (15, .c (.v (.int .i64 (i.1 : Nat))))],
  [(1, .one (.bk [.sl (2, 0, 0) 9 0 (cys xs i.1).length none, .sl (3, 0, 0) 1 0 (cys xs i.1).length none, .mp (4, 0, 0)] 83)), (2, .one (.ar (cys xs i.1).length 9 (ats Cl.enc (cys xs i.1) cl0) 53)), (3, .one (.ar (cys xs i.1).length 1 (ats eI (oI (cidx xs i.1)) 0) 3)), (4, .one (.mp (.arr 8 .i8) .i64 fun _ => none))], [(0, .one (arrOf Cl.enc 9 xs cl0))], [], 5⟩)
  (fun i => xs.length - i.1) ⟨0, by omega⟩ ?_ ?_
 ·refine le_tr (le_nil2 2 83 9 53 1 3 (ats Cl.enc [] cl0) (ats eI [] 0) (1, 0, 0) (by decide) rfl rfl rfl) ?_
  simp only [setL]
  exact le_ren (fun i => if i = 1 then 2 else if i = 2 then 3 else if i = 3 then 4 else if i = 4 then 1 else i) rfl rfl (by simp [TmpsLe, look, SV.ren, SC.ren, SC.renL, ren1L, ren1, idσ, SV.okN, SC.okN, SC.okL, ok1L]) (by simp [OwnLe, BlkLeO, BlkLe, atN, look, Fm.get, idσ, SC.renL, SC.ren, SC.okL, SC.okN, cys, cidx, oI]) (by simp [ArrsLe, ArrLeO, atN, look, Fm.get, idσ, arrLe_of, arrLe_0]) rfl
 rintro ⟨i, hi⟩
 simp (maxSteps := 2000000) only [go_sem, ↓condS, ↓exitS, ↓gateS, ↓runOp, ↓gateD, ↓runD, ↓imp_ft, ↓imp_tf, ↓imp_tt, ↓imp_ff, ↓imp_fn, ↓imp_tn, ↓imp_fy, ↓imp_ty, ↓reduceIte, Nat.reduceLT, Nat.reduceLeDiff, Nat.reduceAdd, Nat.reduceSub, Nat.reduceMul, Nat.reduceEqDiff, reduceCtorEq, Int.reduceToNat, Int.reduceEq, Int.reduceBEq, Int.reduceBNe, Int.reduceLT, Int.reduceLE, Int.reduceNeg, Int.reduceAdd, Int.reduceSub, Int.reduceMul, Int.reduceGE, Int.reduceGT, Cl.enc, iv, endO]
 refine both (fun hlt => ?_) (fun hge => ?_)
 ·rw [decide_eq_true_eq] at hlt
  have hlt : i < xs.length := by omega
  have hcl := cidx_len xs i
  have hyl := cys_len xs i
  have hcs := cidx_succ xs i
  generalize hci : xs.getD i cl0 = ci at hcs
  repeat (with_reducible refine And.intro (by first | (simp only [maxLen]; omega) | omega | decide | (simp; done) | (simp [maxLen]; omega)) ?_)
  refine callV (.c (.bo (cntB ci))) _ (fun E => rfl) (fun E a w' _ => counts_calls w' ci) ?_
  simp (maxSteps := 2000000) only [go_sem, ↓condS, ↓exitS, ↓gateS, ↓runOp, ↓gateD, ↓runD, ↓imp_ft, ↓imp_tf, ↓imp_tt, ↓imp_ff, ↓imp_fn, ↓imp_tn, ↓imp_fy, ↓imp_ty, ↓reduceIte, Nat.reduceLT, Nat.reduceLeDiff, Nat.reduceAdd, Nat.reduceSub, Nat.reduceMul, Nat.reduceEqDiff, reduceCtorEq, Int.reduceToNat, Int.reduceEq, Int.reduceBEq, Int.reduceBNe, Int.reduceLT, Int.reduceLE, Int.reduceNeg, Int.reduceAdd, Int.reduceSub, Int.reduceMul, Int.reduceGE, Int.reduceGT, Cl.enc, iv, endO]
  refine both (fun hb => ?_) (fun hb => ?_)
  ·rw [if_pos hb] at hcs
   have hys : cys xs (i + 1) = cys xs i ++ [ci] := by simp [cys, hcs, ← hci]
   have hoi : oI (cidx xs (i + 1)) = oI (cidx xs i) ++ [(i : Int)] := by rw [hcs, oI_push]
   refine draw_vc (by kernel_rfl) (mkTab_ok _ _) (of_decide_eq_true rfl) (of_decide_eq_true rfl) ?_
   repeat (first | simp (maxSteps := 2000000) only [go_sem, ↓condS, ↓exitS, ↓gateS, ↓runOp, ↓gateD, ↓runD, ↓imp_ft, ↓imp_tf, ↓imp_tt, ↓imp_ff, ↓imp_fn, ↓imp_tn, ↓imp_fy, ↓imp_ty, ↓reduceIte, Nat.reduceLT, Nat.reduceLeDiff, Nat.reduceAdd, Nat.reduceSub, Nat.reduceMul, Nat.reduceEqDiff, reduceCtorEq, Int.reduceToNat, Int.reduceEq, Int.reduceBEq, Int.reduceBNe, Int.reduceLT, Int.reduceLE, Int.reduceNeg, Int.reduceAdd, Int.reduceSub, Int.reduceMul, Int.reduceGE, Int.reduceGT, Cl.enc, iv, endO] | rw [dr_cons])
   have hcl' := cidx_len xs i
   have hf9 := fit_app ((cys xs i).length + 1) (by omega)
   have hf8 := fit_app8 ((cys xs i).length + 1) (by omega)
   have hml : (cys xs i).length + 1 ≤ maxLen := by simp only [maxLen]; omega
   have hone : 1 ≤ maxLen := by decide
   refine And.intro hone (And.intro (Or.inl trivial) (And.intro ⟨Nat.le_refl _, hf9, hml⟩ (And.intro ⟨Or.inl trivial, Or.inr trivial⟩ (And.intro (Or.inr trivial) (And.intro hone (And.intro ⟨Nat.le_refl _, hf8, hml⟩ ?_))))))
   clear hf9 hf8 hml hone
   rw [wr_succ (by omega)]
   refine backI ⟨i + 1, by omega⟩ (by simp only; omega) (le_ren (fun k => if k = 2 then 7 else if k = 3 then 9 else k) rfl rfl (by simp [TmpsLe, look, SV.ren, SC.ren, SC.renL, ren1L, ren1, idσ, SV.okN, SC.okN, SC.okL, ok1L]) ⟨⟨of_decide_eq_true rfl, by simp [BlkLeO, BlkLe, atN, look, Fm.get, idσ, SC.renL, SC.ren, SC.okL, SC.okN, hys]⟩, ⟨of_decide_eq_true rfl, arLe_of (by simp [hys]) (ats_push hys rfl (fun e he => rfl) rfl)⟩,
    ⟨of_decide_eq_true rfl, ?_⟩, ⟨of_decide_eq_true rfl, by simp [BlkLeO, BlkLe, atN, look, Fm.get, idσ]⟩, trivial⟩ (by simp [ArrsLe, ArrLeO, atN, look, Fm.get, idσ, arrLe_of, arrLe_0]) rfl)
   have hlo : (cys xs (i + 1)).length = (oI (cidx xs (i + 1))).length := by rw [oI_len, cys_len]
   refine ⟨by simp [hys], rfl, rfl, fun e he => ?_⟩
   have he : e < (cys xs (i + 1)).length := he
   have := ats_push (d := 0) (enc := eI) hoi (show (cys xs i).length = (oI (cidx xs i)).length by rw [oI_len, cys_len]) (f := ats eI (oI (cidx xs i)) 0) (g := fun e => take' 1 (drop' (e * 1) [.v (.int .i64 i)])) (fun e he => rfl) rfl e (by omega)
   rw [this]
   exact ⟨(renL_v _ _).symm, okL_v _ _⟩
  ·rw [if_neg (by simp [hb])] at hcs
   have hys : cys xs (i + 1) = cys xs i := by simp [cys, hcs]
   rw [wr_succ (by omega)]
   exact backI ⟨i + 1, by omega⟩ (by simp only; omega) (le_ren id rfl rfl (by simp [TmpsLe, look, SV.ren, SC.ren, SC.renL, ren1L, ren1, idσ, SV.okN, SC.okN, SC.okL, ok1L]) (by simp [OwnLe, BlkLeO, BlkLe, atN, look, Fm.get, idσ, SC.renL, SC.ren, SC.okL, SC.okN, ren_ats, ok_ats, hys, hcs]) (by simp [ArrsLe, ArrLeO, atN, look, Fm.get, idσ, arrLe_of, arrLe_0]) rfl)
 ·rw [decide_eq_false_iff_not] at hge
  have hin : i = xs.length := by omega
  subst hin
  refine both (fun hb => ?_) (fun hb => ?_)
  ·rw [decide_eq_true_eq] at hb
   exact h1 (by omega)
  ·rw [decide_eq_false_iff_not] at hb
   exact h2 (by omega)
theorem newSearch_ok (w : World) (v : Value) (xs : List Cl) (hsz : xs.length * 72 ≤ 140737488355328) (he : nsE xs = 0) (h : Arr w Cl.enc 9 v xs) : Calls Try.prog 49 #[v] w (RetN w 4 (nsT 0) (nsO xs)) := by
 have hm : mayQ xs = true := by
  unfold nsE at he
  by_cases e : mayQ xs = true
  ·exact e
  ·rw [if_neg e] at he; cases he
 have h8 : (cidx xs xs.length).length ≤ 8 := by
  unfold nsE at he
  rw [if_pos hm] at he
  split at he
  ·assumption
  ·cases he
 have hyl := cys_len xs xs.length
 refine newSearch_gen w v xs hsz hm h (fun hb => by omega) fun _ => ?_
 refine retN (fun i => i + 1) (fun b => ?_) (fun b => ?_) (fun b => ?_)
 ·simp [nsT, SV.ren, ren1L, ren1, SC.renL, SC.ren, fromσ, SV.okN, ok1L, SC.okL, SC.okN, NewIds]
 ·simp [nsEnd, OwnLe, nsO, BlkLeO, BlkLe, fromσ, atN, look, Fm.get, SC.renL, SC.ren, SC.okL, SC.okN, NewIds, ren_ats, ok_ats]
 ·exact injN_from fun i hi j hj h => by simp [nsO, keysL] at hi hj; omega
set_option maxRecDepth 100000 in
set_option maxHeartbeats 400000 in
theorem newSearch_no (w : World) (v : Value) (xs : List Cl) (hsz : xs.length * 72 ≤ 140737488355328) (he : nsE xs ≠ 0) (h : Arr w Cl.enc 9 v xs) : Calls Try.prog 49 #[v] w (RetV w (.tuple #[.pointer none, .int .i64 (nsE xs)])) := by
 have hyl := cys_len xs xs.length
 by_cases hm : mayQ xs = true
 ·refine newSearch_gen w v xs hsz hm h (fun hb => ?_) (fun hb => ?_)
  ·refine retV fun E => ?_
   have : nsE xs = 3 := by unfold nsE; rw [if_pos hm, if_neg (by omega)]
   rw [this]
   simp [SV.den, den1, SC.den]
  ·exact absurd (by unfold nsE; rw [if_pos hm, if_pos (by omega)]) he
 ·have hm : mayQ xs = false := by simpa using hm
  have : nsE xs = 120 := by unfold nsE; rw [if_neg (by simp [hm])]
  rw [this]
  refine enter1 (A := []) (c := ir49) (rs := rs49) (nt := nt49) cl0 cl_ok h [.c (.xv (0, 0, 0))] _ Try.func49 rfl (by kernel_rfl) (by kernel_rfl) rfl (fun E' h0 => by simp [SV.den, SC.den, h0]) (of_decide_eq_true rfl) ?_
  simp (maxSteps := 2000000) only [ir49, nt49, rs49, go_sem, ↓condS, ↓exitS, ↓gateS, ↓runOp, ↓gateD, ↓runD, ↓imp_ft, ↓imp_tf, ↓imp_tt, ↓imp_ff, ↓imp_fn, ↓imp_tn, ↓imp_fy, ↓imp_ty, ↓reduceIte, Nat.reduceLT, Nat.reduceLeDiff, Nat.reduceAdd, Nat.reduceSub, Nat.reduceMul, Nat.reduceEqDiff, reduceCtorEq, Int.reduceToNat, Int.reduceEq, Int.reduceBEq, Int.reduceBNe, Int.reduceLT, Int.reduceLE, Int.reduceNeg, Int.reduceAdd, Int.reduceSub, Int.reduceMul, Int.reduceGE, Int.reduceGT, Cl.enc, iv, endO]
  refine callV (.c (.v (.bool false))) (.bool false) (fun E => rfl) (fun E a w' hs => by
   have := mayW w' _ xs (arr_at (d := cl0) hs 0 rfl)
   rw [hm] at this
   exact this) ?_
  simp (maxSteps := 2000000) only [go_sem, ↓condS, ↓exitS, ↓gateS, ↓runOp, ↓gateD, ↓runD, ↓imp_ft, ↓imp_tf, ↓imp_tt, ↓imp_ff, ↓imp_fn, ↓imp_tn, ↓imp_fy, ↓imp_ty, ↓reduceIte, Nat.reduceLT, Nat.reduceLeDiff, Nat.reduceAdd, Nat.reduceSub, Nat.reduceMul, Nat.reduceEqDiff, reduceCtorEq, Int.reduceToNat, Int.reduceEq, Int.reduceBEq, Int.reduceBNe, Int.reduceLT, Int.reduceLE, Int.reduceNeg, Int.reduceAdd, Int.reduceSub, Int.reduceMul, Int.reduceGE, Int.reduceGT, Cl.enc, iv, endO]
  exact retV fun E => by simp [SV.den, den1, SC.den]
end Go.Proofs.Ytkjeedlkkpgopaa.Z
