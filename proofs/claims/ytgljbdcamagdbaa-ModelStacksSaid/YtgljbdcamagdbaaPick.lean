/- A call that answers a list in new memory; the choice of an op by a number (layer 11); a loop run off. No statement of the program. -/
import Derived.Test.YtgljbdcamagdbaaAwake
import Derived.Test.YtgljbdcamagdbaaPart2
namespace Go.Proofs.Ytgljbdcamagdbaa
open Go.RowKit
set_option linter.unusedSimpArgs false

/-- a list of integers in memory that is newer than the call -/
def FreshI (w w' : World) (v : Value) (xs : List Int) : Prop := ∀ w'', (∀ n, w.heap.size ≤ n → n < w'.heap.size → w''.heap[n]? = w'.heap[n]?) → Arr w'' eI 1 v xs
def RetI (w : World) (xs : List Int) (e : Ending) (w' : World) : Prop := ∃ v, e = .returned v ∧ Below w.heap.size w w' ∧ FreshI w w' v xs

section
variable {C : Ctx} {S : St} {dst : Option Nat} {K : St → Prop}
theorem newI_cr {f : Nat} {vs : List SV} (xs : List Int) (h : ∀ E a w, Sat C.B C.w0 E S a w → Calls C.P f (vs.map (SV.den E)).toArray w (RetI w xs)) : CR C f vs S (.c (.xv S.nid)) 1 [(S.nid, arrI true xs)] := by
  intro E a w hs
  refine (h E a w hs).mono ?_
  rintro e w' ⟨v, rfl, hb, hf⟩
  refine ⟨fun _ => v, fun _ => arr_one' (hf w' (fun _ _ _ => rfl)), hb, fun E2 _ hn => ?_⟩
  have e0 := hn 0 (by omega)
  rw [Nat.add_zero] at e0
  refine ⟨?_, fun w'' hw'' i A hA _ => ?_⟩
  · simp only [SV.den, SC.den, e0]
  · simp only [look_cons] at hA
    split at hA
    · next e =>
      subst e
      cases hA
      exact arrAtI (by rw [e0]; exact hf w'' hw'')
    · cases hA
theorem keys_one {i : Nat} {A : ArrF} : ∀ k ∈ keysA [(i, A)], i ≤ k ∧ k < i + 1 := by
  intro k hk
  simp only [keysA, List.mem_cons, List.not_mem_nil, or_false] at hk
  omega

/-- the end: a slice that is a whole block of the call's own -/
theorem retI_own {P : Program} {w : World} {rs : List RS} {id n ty : Nat} {cs : List SC} (xs : List Int) (h : look S.own id = some (cs, ty)) (hc : cs = xs.map fun x => SC.v (.int .i64 x)) (hn : n = xs.length) (hm : n ≤ maxLen) :
    RetVC (mkC P w rs (RetI w xs)) (.c (.sl id 0 n n)) S := by
  intro E a w' hs
  refine ⟨_, rfl, hs.sat.below, fun w'' hw'' => ?_⟩
  obtain ⟨hB, hb⟩ := hs.sat.own id cs ty h
  have hlt : E.ρ id < w'.heap.size := (Array.getElem?_eq_some_iff.1 hb).1
  have hb' : w''.heap[E.ρ id]? = w'.heap[E.ρ id]? := hw'' _ hB hlt
  subst hn
  refine ⟨_, _, rfl, Nat.le_refl _, hm, Or.inr ⟨E.ρ id, 0, rfl, fun k x hk j u hu => ?_⟩⟩
  have hj : j = 0 := by have := (List.getElem?_eq_some_iff.1 hu).1; simpa [eI] using this
  subst hj
  simp only [eI, List.getElem?_cons_zero, Option.some.injEq] at hu
  subst hu
  have hcell : w''.cell? ⟨E.ρ id, 0 + k * 1 + 0, none⟩ = w'.cell? ⟨E.ρ id, 0 + k * 1 + 0, none⟩ := by
    simp only [World.cell?, hb']
  rw [hcell, Nat.zero_add, Nat.mul_one, Nat.add_zero, own_cell hs.sat h, hc]
  simp [hk, SC.den]

/-! ### a way that is not gone (ahead of what stands in it) -/
theorem imp_ft (q : Prop) : (false = true → q) = True := by simp
theorem imp_tf (q : Prop) : (true = false → q) = True := by simp
theorem imp_tt (q : Prop) : (true = true → q) = q := by simp
theorem imp_ff (q : Prop) : (false = false → q) = q := by simp
theorem imp_fn (q : Prop) : (false = (!false) → q) = True := by simp
theorem imp_tn (q : Prop) : (true = (!true) → q) = True := by simp
theorem imp_fy (q : Prop) : (false = (!true) → q) = q := by simp
theorem imp_ty (q : Prop) : (true = (!false) → q) = q := by simp

/-! ### what is no longer asked for is let go -/
def consO {α : Type} (k : Nat) (o : Option α) (r : List (Nat × α)) : List (Nat × α) := match o with | some v => (k, v) :: r | none => r
def keepL {α : Type} (l : List (Nat × α)) : List Nat → List (Nat × α)
  | [] => []
  | k :: ks => consO k (look l k) (keepL l ks)
theorem look_keepL {α : Type} {l : List (Nat × α)} {i : Nat} {v : α} : ∀ {ks : List Nat}, look (keepL l ks) i = some v → look l i = some v
  | [], h => by cases h
  | k :: ks, h => by
    simp only [keepL] at h
    cases hl : look l k with
    | none => rw [hl] at h; exact look_keepL (ks := ks) h
    | some u =>
      rw [hl] at h
      simp only [consO, look_cons] at h
      split at h
      · next e => subst e; rw [hl]; exact h
      · exact look_keepL (ks := ks) h
def St.keep (S : St) (kt ko ka : List Nat) : St := ⟨S.nt, keepL S.tmps kt, keepL S.own ko, keepL S.arrs ka, S.facts, S.nid⟩
theorem sub_keep (kt ko ka : List Nat) : Sub (S.keep kt ko ka) S := ⟨rfl, fun _ _ h => look_keepL h, fun _ _ h => look_keepL h, fun _ _ h => look_keepL h, fun _ h => h⟩
theorem satA_keep {B : Nat} {w0 : World} {E : Env} {a : Act} {w : World} (kt ko ka : List Nat) (h : SatA B w0 E S a w) : SatA B w0 E (S.keep kt ko ka) a w := fun E' hE => sat_sub (sub_keep kt ko ka) (h E' hE)
theorem call_keep (kt ko ka : List Nat) {f : Nat} {vs : List SV} (h : CallVC C f vs dst (S.keep kt ko ka) K) : CallVC C f vs dst S K := fun E a w hs => h E a w (satA_keep kt ko ka hs)
theorem draw_keep (kt ko ka : List Nat) {l : List (IO1 × List Nat × List Nat)} (h : DrawVC C l (S.keep kt ko ka) K) : DrawVC C l S K := fun id ops hc E a w hs => h id ops hc E a w (satA_keep kt ko ka hs)

/-! ### a loop, run off turn by turn -/
def Unr (C : Ctx) (c : IR) (k : List KI) (ex : List KI → St → Prop) : Nat → St → Prop
  | 0, _ => False
  | n + 1, S => ∀ (ι : Type) (I : ι → St) (μ : ι → Nat) (i : ι), (∀ S', Unr C c k ex n S' → BackVC C ι I μ i S') → ex (.code c :: .back ι I μ i :: k) S
theorem loop_unr {c : IR} {k : List KI} {ex : List KI → St → Prop} (n : Nat) (h : Unr C c k ex n S) : LoopVC C c k S ex := by
  refine ⟨{ p : Nat × St // Unr C c k ex p.1 p.2 }, fun p => p.1.2, fun p => p.1.1, ⟨(n, S), h⟩, fun E a w hs => ⟨E, hs⟩, ?_⟩
  rintro ⟨⟨m, S'⟩, h'⟩
  cases m with
  | zero => exact h'.elim
  | succ m => exact h' _ _ _ _ (fun S'' h'' => ⟨⟨(m, S''), h''⟩, Nat.lt_succ_self m, fun E a w hs => ⟨E, hs⟩⟩)
end

def opsL : List Int := [22, 23, 30, 31, 40, 41, 50, 51, 52, 60, 61, 62]
def pickN (n : Int) : Nat := (IntKind.wrap .i64 ((IntKind.wrap .u64 n).tmod 12)).toNat
def pickM (n : Int) : Int := opsL.getD (pickN n) 0
theorem wrapU (n : Int) : IntKind.wrap .u64 n = n % 18446744073709551616 := by simp [IntKind.wrap, IntKind.bits, IntKind.signed]
theorem wrapS {n : Int} (h : 0 ≤ n) (h' : n < 4611686018427387904) : IntKind.wrap .i64 n = n := by
  have e : n % 18446744073709551616 = n := by omega
  simp [IntKind.wrap, IntKind.bits, IntKind.signed, e]
  omega
theorem pick_lt (n : Int) : 0 ≤ IntKind.wrap .i64 ((IntKind.wrap .u64 n).tmod 12) ∧ IntKind.wrap .i64 ((IntKind.wrap .u64 n).tmod 12) < 12 := by
  rw [wrapU]
  have h0 : 0 ≤ n % 18446744073709551616 := by omega
  rw [Int.tmod_eq_emod_of_nonneg h0]
  have h2 : 0 ≤ (n % 18446744073709551616) % 12 ∧ (n % 18446744073709551616) % 12 < 12 := by omega
  rw [wrapS h2.1 (by omega)]
  exact h2
theorem pick_obj (n : Int) : 1 ≤ objOf (pickM n) ∧ objOf (pickM n) ≤ 5 := by
  have h := pick_lt n
  have : pickN n < 12 := by unfold pickN; omega
  unfold pickM
  generalize pickN n = k at this
  have : k = 0 ∨ k = 1 ∨ k = 2 ∨ k = 3 ∨ k = 4 ∨ k = 5 ∨ k = 6 ∨ k = 7 ∨ k = 8 ∨ k = 9 ∨ k = 10 ∨ k = 11 := by omega
  rcases this with rfl | rfl | rfl | rfl | rfl | rfl | rfl | rfl | rfl | rfl | rfl | rfl <;> decide

set_option maxRecDepth 100000 in
set_option maxHeartbeats 1000000 in
theorem ops_ok (w : World) : Calls Try.prog 48 #[] w (RetI w opsL) := by
  refine calls_sym (c := ir48) (C := mkC Try.prog w rs48 (RetI w opsL)) 100 [] noArg [] [] 0 nt48 #[] (mkTab_ok _) Try.func48 rfl (by kernel_rfl) (by kernel_rfl) rfl rfl rfl (fun _ => rfl) (fun _ _ => rfl) (by decide) (fun i A h => (by cases h)) (fun _ _ _ _ => ⟨fun i A h => (by cases h), fun φ h => (by cases h)⟩) ?_
  simp only [ir48, nt48, rs48, ex_nil, ex_skip, ex_ops, ex_draw, ex_seq, ex_cond, ex_blk, ex_loop, ex_exit, ex_ret, ex_mark, ex_pop, ex_onil, ex_op, ex_opg, ex_back, ↓condS, ↓exitS, ↓gateS, ↓runOp, thenS, stepOut, St.ev, look, St.app, St.putT, St.skipT, St.setB, pure1, SV.cells, SC.one, allOne, fillP, put, take', drop', len', nth, binI, eqCells, SC.bool?, neg?, evs, popTo, resL, resP, resSV, oneSV, finS, retS, dr_nil, dr_cons, ↓gateD, ↓runD, thenD, recOf, skipR, wrOk, wrFree, St.appN, ownR, St.hid, hideL, memB, tchs, keyss, Rec.tch, keysA, keysO, ltAll, enumT, Value.oneCell', ↓reduceIte, Nat.reduceLT, Nat.reduceLeDiff, Nat.reduceAdd, Nat.reduceMul, Nat.reduceEqDiff, reduceCtorEq, and_self, and_true, true_and, and_false, false_and, List.map_cons, List.map_nil, List.cons_append, List.nil_append, List.append_nil, Int.reduceToNat, Int.reduceEq, Int.reduceBEq, Int.reduceBNe, Int.reduceLT, Int.reduceLE, Bool.true_and, Bool.and_true, Bool.false_and, Bool.and_false, Bool.not_true, Bool.not_false, Bool.not_not, Bool.true_beq, Bool.false_beq, Bool.bne_true, Bool.bne_false, Bool.true_bne, Bool.false_bne, Option.map_some, Option.map_none, beq_self_eq_true, bne_self_eq_false, Bool.false_eq_true, Bool.true_eq_false, Nat.zero_add, Nat.add_zero, forall_const, implies_true, true_implies, false_implies, xs5, arrsC, arrI_len, arrI_size, arrI_at, arrP_len, arrP_size, arrP_at, Int.cast_ofNat_Int, Int.natCast_nonneg, Int.ofNat_lt, Int.toNat_natCast, mkC_rs,   List.length_cons, List.length_nil, List.getD_cons_zero, List.getD_cons_succ, List.getD_nil]
  exact retI_own opsL rfl rfl rfl (by decide)

set_option maxRecDepth 100000 in
set_option maxHeartbeats 1000000 in
theorem pick_ok (n : Int) (w : World) : Calls Try.prog 31 #[.int .i64 n] w fun e w' => e = .returned (.int .i64 (pickM n)) ∧ Below w.heap.size w w' := by
  refine calls_sym (c := ir31) (C := mkC Try.prog w rs31 (fun e w' => e = .returned (.int .i64 (pickM n)) ∧ Below w.heap.size w w')) 100 [.c (.v (.int .i64 n))] noArg [] [] 0 nt31 #[.int .i64 n] (mkTab_ok _) Try.func31 rfl (by kernel_rfl) (by kernel_rfl) rfl rfl rfl (fun _ => rfl) (fun _ _ => rfl) (of_decide_eq_true rfl) (fun i A h => (by cases h)) (fun _ _ _ _ => ⟨fun i A h => (by cases h), fun φ h => (by cases h)⟩) ?_
  simp only [ir31, nt31, ex_nil, ex_skip, ex_ops, ex_draw, ex_seq, ex_cond, ex_blk, ex_loop, ex_exit, ex_ret, ex_mark, ex_pop, ex_onil, ex_op, ex_opg, ex_back, ↓condS, ↓exitS, ↓gateS, ↓runOp, thenS, stepOut, St.ev, look, St.app, St.putT, St.skipT, St.setB, pure1, SV.cells, SC.one, allOne, fillP, put, take', drop', len', nth, binI, eqCells, SC.bool?, neg?, evs, popTo, resL, resP, resSV, oneSV, finS, retS, dr_nil, dr_cons, ↓gateD, ↓runD, thenD, recOf, skipR, wrOk, wrFree, St.appN, ownR, St.hid, hideL, memB, tchs, keyss, Rec.tch, keysA, keysO, ltAll, enumT, Value.oneCell', ↓reduceIte, Nat.reduceLT, Nat.reduceLeDiff, Nat.reduceAdd, Nat.reduceMul, Nat.reduceEqDiff, reduceCtorEq, and_self, and_true, true_and, and_false, false_and, List.map_cons, List.map_nil, List.cons_append, List.nil_append, List.append_nil, Int.reduceToNat, Int.reduceEq, Int.reduceBEq, Int.reduceBNe, Int.reduceLT, Int.reduceLE, Bool.true_and, Bool.and_true, Bool.false_and, Bool.and_false, Bool.not_true, Bool.not_false, Bool.not_not, Bool.true_beq, Bool.false_beq, Bool.bne_true, Bool.bne_false, Bool.true_bne, Bool.false_bne, Option.map_some, Option.map_none, beq_self_eq_true, bne_self_eq_false, Bool.false_eq_true, Bool.true_eq_false, Nat.zero_add, Nat.add_zero, forall_const, implies_true, true_implies, false_implies, xs5, arrsC, arrI_len, arrI_size, arrI_at, arrP_len, arrP_size, arrP_at, Int.cast_ofNat_Int, Int.natCast_nonneg, Int.ofNat_lt, Int.toNat_natCast, mkC_rs,   List.length_cons, List.length_nil, List.getD_cons_zero, List.getD_cons_succ, List.getD_nil]
  refine call_intro (newI_cr opsL (fun E a w _ => ops_ok w)) ?_
  simp only [rs31, ex_nil, ex_skip, ex_ops, ex_draw, ex_seq, ex_cond, ex_blk, ex_loop, ex_exit, ex_ret, ex_mark, ex_pop, ex_onil, ex_op, ex_opg, ex_back, ↓condS, ↓exitS, ↓gateS, ↓runOp, thenS, stepOut, St.ev, look, St.app, St.putT, St.skipT, St.setB, pure1, SV.cells, SC.one, allOne, fillP, put, take', drop', len', nth, binI, eqCells, SC.bool?, neg?, evs, popTo, resL, resP, resSV, oneSV, finS, retS, dr_nil, dr_cons, ↓gateD, ↓runD, thenD, recOf, skipR, wrOk, wrFree, St.appN, ownR, St.hid, hideL, memB, tchs, keyss, Rec.tch, keysA, keysO, ltAll, enumT, Value.oneCell', ↓reduceIte, Nat.reduceLT, Nat.reduceLeDiff, Nat.reduceAdd, Nat.reduceMul, Nat.reduceEqDiff, reduceCtorEq, and_self, and_true, true_and, and_false, false_and, List.map_cons, List.map_nil, List.cons_append, List.nil_append, List.append_nil, Int.reduceToNat, Int.reduceEq, Int.reduceBEq, Int.reduceBNe, Int.reduceLT, Int.reduceLE, Bool.true_and, Bool.and_true, Bool.false_and, Bool.and_false, Bool.not_true, Bool.not_false, Bool.not_not, Bool.true_beq, Bool.false_beq, Bool.bne_true, Bool.bne_false, Bool.true_bne, Bool.false_bne, Option.map_some, Option.map_none, beq_self_eq_true, bne_self_eq_false, Bool.false_eq_true, Bool.true_eq_false, Nat.zero_add, Nat.add_zero, forall_const, implies_true, true_implies, false_implies, xs5, arrsC, arrI_len, arrI_size, arrI_at, arrP_len, arrP_size, arrP_at, Int.cast_ofNat_Int, Int.natCast_nonneg, Int.ofNat_lt, Int.toNat_natCast, mkC_rs,   List.length_cons, List.length_nil, List.getD_cons_zero, List.getD_cons_succ, List.getD_nil]
  have h := pick_lt n
  refine ⟨by decide, ⟨h.1, h.2⟩, ?_, ?_⟩
  · have h1 := h.1
    have h2 := h.2
    show _ < 12
    omega
  · intro E a w' hs
    exact ⟨rfl, hs.sat.below⟩

section
variable {C : Ctx} {S : St} {dst : Option Nat} {K : St → Prop}
theorem pick_cr {n : Int} (hP : C.P = Try.prog) : CR C 31 [.c (.v (.int .i64 n))] S (.c (.v (.int .i64 (pickM n)))) 0 [] :=
  cr_val _ (.int .i64 (pickM n)) (fun _ => rfl) (fun E a w hs => by rw [hP]; exact pick_ok n w)
theorem retDE_new {f : Nat} {vs : List SV} {m : MC} {n : Int} (h : ∀ E a w, Sat C.B C.w0 E S a w → Calls C.P f (vs.map (SV.den E)).toArray w (RetDE w m n)) :
    CR C f vs S (.tup [(true, xs5 S.nid), (false, [.v (.int .i64 n)])]) 5 (arrsC true S.nid m) := by
  intro E a w hs
  refine (h E a w hs).mono ?_
  rintro e w' ⟨v', rfl, hown, hb⟩
  have hown0 := hown
  obtain ⟨x0, x1, x2, x3, x4, rfl, _⟩ := hown
  refine ⟨five x0 x1 x2 x3 x4, five_one hown0, hb, fun E2 _ hn => ?_⟩
  have e0 := hn 0 (by omega)
  have e1 := hn 1 (by omega)
  have e2 := hn 2 (by omega)
  have e3 := hn 3 (by omega)
  have e4 := hn 4 (by omega)
  rw [Nat.add_zero] at e0
  refine ⟨?_, fun w'' hw'' i A hA _ => ownD_arrs hown0 e0 e1 e2 e3 e4 hw'' i A hA⟩
  simp only [SV.den, List.map_cons, List.map_nil, den1, xs5, SC.den, e0, e1, e2, e3, e4, five]
theorem part_cr {l : List SC} {m : MC} {n : Int} (hP : C.P = Try.prog) (hn : 1 ≤ n ∧ n ≤ 5) (h : ContS C S l m) (hok : m.ok 0) (hm : mayB m = true) :
    CR C 23 [.agg l, .c (.v (.int .i64 n))] S (.tup [(true, xs5 S.nid), (false, [.v (.int .i64 0)])]) 5 (arrsC true S.nid (partM m n)) :=
  retDE_new (fun E a w hs => by rw [hP]; exact mPart hn (h.cont hs) hok hm)
end
open Go.ChangeShapes Go.WideShapes Go.ChangeAt
theorem leavesMv : leavesIn Try.prog 9 62 = some [3, 23, 3, 3] := by kernel_rfl
theorem cellsMv : Try.prog.cellsOf 62 = 4 := by kernel_rfl
set_option maxRecDepth 100000 in
theorem open_move {H : Type} {enc : TypeId × Value → H} {w : World} {base : Nat} {v : Value} {d : DataW H} {p : List MemPlace} (hv : Value.okWide Try.prog w .any base 62 v) (h : DataW.Trod enc Try.prog w 0 (fun _ => true) true 62 v d p) :
    ∃ t o a e, v = .agg #[.int .i64 t, .int .i64 o, .int .i64 a, .int .i64 e] := by
  obtain ⟨cs, rfl, hsz⟩ := okWide_struct Try.underlying62 hv
  obtain ⟨l⟩ := cs
  obtain ⟨fuel, hf⟩ := h
  match l, hsz.trans cellsMv with
  | [c0, c1, c2, c3], _ =>
    have L := leaf_of 9 _ _ leavesMv fuel _ _ hf
    obtain ⟨t, rfl, _⟩ := (L 0 3 c0 rfl rfl).int Try.underlying3
    obtain ⟨o, rfl, _⟩ := (L 1 23 c1 rfl rfl).int Try.underlying23
    obtain ⟨a, rfl, _⟩ := (L 2 3 c2 rfl rfl).int Try.underlying3
    obtain ⟨e, rfl, _⟩ := (L 3 3 c3 rfl rfl).int Try.underlying3
    exact ⟨t, o, a, e, rfl⟩
end Go.Proofs.Ytgljbdcamagdbaa
