/- WitnessLocalSaid: what its proof is made of. No condition. -/
import Derived.Test.YtkjeedlkkpgopaaPkWitnessLocalAM
set_option linter.unusedSimpArgs false
set_option linter.unusedVariables false
namespace Go.Proofs.Ytkjeedlkkpgopaa.Z
open Go Go.RowKit
def fullB (op : Int) : Bool := decide (op = 22 ∨ op = 30 ∨ op = 40 ∨ op = 50 ∨ op = 60)
def allowM (m : MC) (c : Cl) : MC × Bool :=
 if c.kind = 0 then ((doM m c.op c.arg c.data).1, true) else if c.kind = 4 then (if fullB c.op = true then (m, true) else (mc0, false)) else
  if c.kind = (doM m c.op c.arg c.data).2.1 ∧ c.val = (doM m c.op c.arg c.data).2.2 then ((doM m c.op c.arg c.data).1, true) else (mc0, false)
theorem rdN_nw {C : Ctx} {S : St} {α : Type} {enc : α → List Value} {s : Nat} {xs : List α} {d : α} {L : List (Nat × Fm ArrF)} (i : Nat) (hf : NwL C.B L ∈ S.facts) (hi : atN L (i, 0, 0) = some (arrOf enc s xs d)) : RdN C S (.xv (i, 0, 0)) (arrOf enc s xs d) := fun E a w' hs => by
 have hn := (holds_of hs.sat).2 _ hf
 have tr : ∀ {w'' : World} {E2 : Env} {x : Nm}, E2.χ x = E.χ (i, 0, 0) → ArrAt E w'' (i, 0, 0) (arrOf enc s xs d) → ArrAt E2 w'' x (arrOf enc s xs d) := fun {w'' E2 x} hx h => by
  obtain ⟨ba, cap, h1, h2, h3, h4⟩ := h
  refine ⟨ba, cap, hx.trans h1, h2, h3, ?_⟩
  rcases h4 with h4 | ⟨b, off, h5, h7, h6⟩
  ·exact Or.inl h4
  ·refine Or.inr ⟨b, off, h5, h7, fun k hk => ⟨(h6 k hk).1, fun j u hu => ?_⟩⟩
   have := (h6 k hk).2 j u hu
   simp only [arrOf, List.getElem?_map, Option.map_eq_some_iff] at hu
   obtain ⟨u', _, rfl⟩ := hu
   rw [den_v] at this ⊢
   exact this
 refine ⟨?_, fun w'' hw'' E2 x hx => tr (by rw [hx, den_xv]) (hn w'' hw'' _ _ hi)⟩
 obtain ⟨ba, cap, h1, _⟩ := hn w' (fun _ _ _ => rfl) _ _ hi
 rw [den_xv, h1]
 rfl
def alT (p : MC × Bool) (b : Nat) : SV := .tup [(true, mcS b), (false, [.bo p.2]), (false, [.v (.int .i64 0)])]
theorem alT_ok (c0 c1 c2 c3 c4 x : SC) (p : MC × Bool) (hx : ∀ E, x.den E = .bool p.2) : ∀ b (E E2 : Env), E2.χ (b, 0, 0) = c0.den E → E2.χ (b + 1, 0, 0) = c1.den E → E2.χ (b + 2, 0, 0) = c2.den E → E2.χ (b + 3, 0, 0) = c3.den E → E2.χ (b + 4, 0, 0) = c4.den E →
  (SV.tup [(true, [c0, c1, c2, c3, c4]), (false, [x]), (false, [.v (.int .i64 0)])]).den E = (alT p b).den E2 := fun b E E2 e0 e1 e2 e3 e4 => by
 simp [alT, mcS, SV.den, den1, SC.den, e0, e1, e2, e3, e4, hx]
def ir68 : IR := (.seq (.ops [⟨(some 2), (.box 70 (.t 0)), none⟩, ⟨(some 3), (.box 53 (.t 1)), none⟩, ⟨(some 4), (.new 70 [(.v (.slice none 0 0)), (.v (.slice none 0 0)), (.v (.slice none 0 0)), (.v (.slice none 0 0)), (.v (.slice none 0 0))]), none⟩, ⟨(some 5), (.mv (.k (.c (.v (.bool false))))), none⟩, ⟨(some 6), (.mv (.k (.c (.v (.int .i64 0))))), none⟩]) (.kill [0, 1, 5, 6, 7, 8, 9, 10, 11] (.seq (.ops [⟨(some 11), (.ld true 5 (.t 2)), none⟩, ⟨(some 12), (.fa 1 (.t 3)), none⟩, ⟨(some 13), (.ld false 1 (.t 12)), none⟩, ⟨(some 14), (.fa 2 (.t 3)), none⟩, ⟨(some 15), (.ld false 1 (.t 14)), none⟩, ⟨(some 16), (.fa 3 (.t 3)), none⟩, ⟨(some 17), (.ld false 1 (.t 16)), none⟩, ⟨(some 18), (.call 86 [(.t 11), (.t 13), (.t 15), (.t 17)]), none⟩, ⟨(some 10), (.mv (.t 18)), none⟩, ⟨(some 19), (.ext 0 (.t 10)), none⟩, ⟨(some 20), (.ext 1 (.t 10)), none⟩, ⟨(some 21), (.ext 2 (.t 10)), none⟩, ⟨(some 7), (.new 70 [(.v (.slice none 0 0)), (.v (.slice none 0 0)), (.v (.slice none 0 0)), (.v (.slice none 0 0)), (.v (.slice none 0 0))]), none⟩, ⟨(some 8), (.new 51 [(.v (.int .i64 0)), (.v (.int .i64 0))]), none⟩, ⟨none, (.st 5 (.t 7) (.t 19)), none⟩, ⟨none, (.st 2 (.t 8) (.t 20)), none⟩, ⟨(some 9), (.mv (.t 21)), none⟩]) (.kill [10, 11, 12, 13, 14, 15, 16, 17, 18, 19, 20, 21] (.seq (.seq (.ops [⟨(some 22), (.mv (.t 9)), none⟩, ⟨(some 23), (.bin .neq (.t 22) (.k (.c (.v (.int .i64 0))))), none⟩]) (.kill [22] (.cond (.t 23) (.seq (.ops [⟨(some 24), (.build [(.v (.slice none 0 0)), (.v (.slice none 0 0)), (.v (.slice none 0 0)), (.v (.slice none 0 0)), (.v (.slice none 0 0))] []), none⟩, ⟨(some 25), (.mv (.t 9)), none⟩, ⟨none, (.st 5 (.t 4) (.t 24)), none⟩, ⟨(some 5), (.mv (.k (.c (.v (.bool false))))), none⟩, ⟨(some 6), (.mv (.t 25)), none⟩]) (.kill [2, 3, 7, 8, 9, 23, 24, 25] .ret)) .skip))) (.kill [5, 6, 9, 23] (.seq (.blk 0 (.seq (.ops [⟨(some 27), (.fa 7 (.t 3)), none⟩, ⟨(some 28), (.fa 0 (.t 27)), none⟩, ⟨(some 29), (.ld false 1 (.t 28)), none⟩, ⟨(some 30), (.bin .eql (.t 29) (.k (.c (.v (.int .i64 0))))), none⟩, ⟨(some 26), (.mv (.t 30)), none⟩]) (.kill [27, 28, 29, 30] (.cond (.t 26) (.seq (.ops [⟨(some 31), (.ld true 5 (.t 7)), none⟩, ⟨none, (.st 5 (.t 4) (.t 31)), none⟩, ⟨(some 5), (.mv (.k (.c (.v (.bool true))))), none⟩, ⟨(some 6), (.mv (.k (.c (.v (.int .i64 0))))), none⟩]) (.kill [2, 3, 7, 8, 26, 31] .ret)) (.seq (.ops [⟨(some 33), (.fa 7 (.t 3)), none⟩, ⟨(some 34), (.fa 0 (.t 33)), none⟩, ⟨(some 35), (.ld false 1 (.t 34)), none⟩, ⟨(some 36), (.bin .eql (.t 35) (.k (.c (.v (.int .i64 4))))), none⟩, ⟨(some 32), (.mv (.t 36)), none⟩]) (.kill [26, 33, 34, 35, 36] (.cond (.t 32) (.seq (.seq (.draw [(⟨(some 37), (.ld true 5 (.t 2)), none⟩, ([], [38, 39, 40, 42, 43])), (⟨(some 38), (.fa 1 (.t 3)), none⟩, ([0], [37, 42, 43])), (⟨(some 39), (.ld false 1 (.t 38)), none⟩, ([0], [37, 42, 43])), (⟨(some 40), (.call 59 [(.t 39)]), none⟩, ([0], [37, 42, 43])), (⟨(some 41), (.call 88 [(.t 37), (.t 40)]), none⟩, ([], [42, 43])), (⟨(some 42), (.fa 1 (.t 3)), none⟩, ([0, 1, 2, 3, 4], [37, 38, 39, 40, 41])), (⟨(some 43), (.ld false 1 (.t 42)), none⟩, ([0, 1, 2, 3, 4], [37, 38, 39, 40, 41])), (⟨(some 44), (.call 87 [(.t 41), (.t 43)]), none⟩, ([], []))]) (.kill [3, 7, 8, 32, 37, 38, 39, 40, 41, 42, 43] (.cond (.t 44) (.seq (.ops [⟨(some 45), (.ld true 5 (.t 2)), none⟩, ⟨(some 46), (.call 89 [(.t 45)]), none⟩, ⟨none, (.st 5 (.t 4) (.t 46)), none⟩, ⟨(some 5), (.mv (.k (.c (.v (.bool true))))), none⟩, ⟨(some 6), (.mv (.k (.c (.v (.int .i64 0))))), none⟩]) (.kill [2, 44, 45, 46] .ret)) .skip))) (.kill [2, 5, 6, 44] (.seq (.ops [⟨(some 47), (.build [(.v (.slice none 0 0)), (.v (.slice none 0 0)), (.v (.slice none 0 0)), (.v (.slice none 0 0)), (.v (.slice none 0 0))] []), none⟩, ⟨none, (.st 5 (.t 4) (.t 47)), none⟩, ⟨(some 5), (.mv (.k (.c (.v (.bool false))))), none⟩, ⟨(some 6), (.mv (.k (.c (.v (.int .i64 0))))), none⟩]) (.kill [47] .ret)))) (.seq (.ops [⟨(some 49), (.fa 7 (.t 3)), none⟩, ⟨(some 50), (.ld true 2 (.t 49)), none⟩, ⟨(some 51), (.ld true 2 (.t 8)), none⟩, ⟨(some 52), (.eqa false [true, true] (.t 50) (.t 51)), none⟩, ⟨(some 48), (.mv (.t 52)), none⟩]) (.kill [2, 3, 8, 32, 49, 50, 51, 52] (.cond (.t 48) (.seq (.ops [⟨(some 53), (.ld true 5 (.t 7)), none⟩, ⟨none, (.st 5 (.t 4) (.t 53)), none⟩, ⟨(some 5), (.mv (.k (.c (.v (.bool true))))), none⟩, ⟨(some 6), (.mv (.k (.c (.v (.int .i64 0))))), none⟩]) (.kill [7, 48, 53] .ret)) .skip)))))))))) (.kill [2, 3, 5, 6, 7, 8, 26, 27, 28, 29, 30, 31, 32, 33, 34, 35, 36, 37, 38, 39, 40, 41, 42, 43, 44, 45, 46, 47, 48, 49, 50, 51, 52, 53] (.seq (.ops [⟨(some 54), (.build [(.v (.slice none 0 0)), (.v (.slice none 0 0)), (.v (.slice none 0 0)), (.v (.slice none 0 0)), (.v (.slice none 0 0))] []), none⟩, ⟨none, (.st 5 (.t 4) (.t 54)), none⟩, ⟨(some 5), (.mv (.k (.c (.v (.bool false))))), none⟩, ⟨(some 6), (.mv (.k (.c (.v (.int .i64 0))))), none⟩]) (.kill [54] .ret))))))))))
def rs68 : List RS := [(.cell 4 true 5), (.t 5), (.t 6)]
def nt68 : Nat := 55
theorem mcR_id (m : MC) (b : Nat) : ∀ x A', atN (mcR m b) x = some A' → NewIds b 5 x.1 := fun x A' hx => by
 simp only [mcR, mcA] at hx
 rcases atN_one hx with ⟨rfl, _⟩ | hx
 ·exact ⟨by simp, by simp⟩
 rcases atN_one hx with ⟨rfl, _⟩ | hx
 ·exact ⟨by simp, by simp⟩
 rcases atN_one hx with ⟨rfl, _⟩ | hx
 ·exact ⟨by simp, by simp⟩
 rcases atN_one hx with ⟨rfl, _⟩ | hx
 ·exact ⟨by simp, by simp⟩
 rcases atN_one hx with ⟨rfl, _⟩ | hx
 ·exact ⟨by simp, by simp⟩
 exact (atN_nil hx).elim
theorem full1 {op : Int} (h : objOf op = 1) : fullB op = (op == 22) := by
 unfold fullB; unfold objOf at h; repeat' split at h
 all_goals first | omega | (rw [Bool.eq_iff_iff]; simp; omega)
theorem full2 {op : Int} (h : objOf op = 2) : fullB op = (op == 30) := by
 unfold fullB; unfold objOf at h; repeat' split at h
 all_goals first | omega | (rw [Bool.eq_iff_iff]; simp; omega)
theorem full3 {op : Int} (h : objOf op = 3) : fullB op = (op == 40) := by
 unfold fullB; unfold objOf at h; repeat' split at h
 all_goals first | omega | (rw [Bool.eq_iff_iff]; simp; omega)
theorem full4 {op : Int} (h : objOf op = 4) : fullB op = (op == 50 || op == 60) := by
 unfold fullB; unfold objOf at h; repeat' split at h
 all_goals first | omega | (rw [Bool.eq_iff_iff]; simp; omega)
theorem full5 {op : Int} (h : objOf op = 5) : fullB op = (op == 50 || op == 60) := by
 unfold fullB; unfold objOf at h; repeat' split at h
 all_goals first | omega | (rw [Bool.eq_iff_iff]; simp; omega)
theorem mcopy_Z {v : Value} {m : MC} {w : World} (h : Cont w v m) (hok : m.ok 0) : Calls Try.prog 89 #[v] w (RetB w (fun _ => True) 5 cT (mcR m)) := by
 obtain ⟨x0, x1, x2, x3, x4, rfl, g0, g1, g2, g3, g4⟩ := h
 refine (mCopied (m := m) ⟨_, _, _, _, _, rfl, g0, g1, g2, g3, g4⟩ hok).mono ?_
 rintro e w' ⟨v', rfl, hown, hb⟩
 refine ⟨_, rfl, hb, fun b => ?_⟩
 obtain ⟨N, h1, h2⟩ := retB_D hown b
 refine ⟨N, h1, fun E2 hE => ?_⟩
 obtain ⟨h3, h4⟩ := h2 E2 hE
 exact ⟨h3, fun w'' _ hw'' => h4 w'' hw''⟩
set_option maxRecDepth 100000 in
set_option maxHeartbeats 400000 in
theorem al_Z {w : World} {v : Value} {m : MC} (c : Cl) (h : Cont w v m) (hok : MC.okR m) (hm : mayB m = true) (ho : objOf c.op ≠ 0) : Calls Try.prog 68 #[v, .agg c.enc.toArray] w (RetB w (fun _ => True) 5 (alT (allowM m c)) (mcR (allowM m c).1)) := by
 refine enterC (A := []) (c := ir68) (rs := rs68) (nt := nt68) h [.agg (mcS 0), .agg c.sc] _ Try.func68 rfl (by kernel_rfl) (by kernel_rfl) rfl (fun E' h0 => by rw [List.map_cons, h0]; simp [SV.den, SC.den, Cl.sc, Cl.enc]) (of_decide_eq_true rfl) ?_
 simp (maxSteps := 2000000) only [ir68, nt68, rs68, go_sem, ↓condS, ↓exitS, ↓gateS, ↓runOp, ↓gateD, ↓runD, ↓imp_ft, ↓imp_tf, ↓imp_tt, ↓imp_ff, ↓imp_fn, ↓imp_tn, ↓imp_fy, ↓imp_ty, ↓reduceIte, Nat.reduceLT, Nat.reduceLeDiff, Nat.reduceAdd, Nat.reduceSub, Nat.reduceMul, Nat.reduceEqDiff, reduceCtorEq, Int.reduceToNat, Int.reduceEq, Int.reduceBEq, Int.reduceBNe, Int.reduceLT, Int.reduceLE, Int.reduceNeg, Int.reduceAdd, Int.reduceSub, Int.reduceMul, Int.reduceGE, Int.reduceGT, endO, mcS, mcA, Cl.sc, iv]
 refine callF 5 (d3T (doM m c.op c.arg c.data) 0) (mcR (doM m c.op c.arg c.data).1) (fun x A' hx => ?_) (fun E a w' hs => do_Z c.op c.arg c.data (cont_at hs 0 rfl rfl rfl rfl rfl) hok.1 hm ho) ?_
 ·exact mcR_id _ _ x A' hx
 simp (maxSteps := 2000000) only [go_sem, ↓condS, ↓exitS, ↓gateS, ↓runOp, ↓gateD, ↓runD, ↓imp_ft, ↓imp_tf, ↓imp_tt, ↓imp_ff, ↓imp_fn, ↓imp_tn, ↓imp_fy, ↓imp_ty, ↓reduceIte, Nat.reduceLT, Nat.reduceLeDiff, Nat.reduceAdd, Nat.reduceSub, Nat.reduceMul, Nat.reduceEqDiff, reduceCtorEq, Int.reduceToNat, Int.reduceEq, Int.reduceBEq, Int.reduceBNe, Int.reduceLT, Int.reduceLE, Int.reduceNeg, Int.reduceAdd, Int.reduceSub, Int.reduceMul, Int.reduceGE, Int.reduceGT, endO, d3T, mcS, mcR, mcA]
 have hB : (mkC Try.prog [] w rs68 (RetB w (fun _ => True) 5 (alT (allowM m c)) (mcR (allowM m c).1))).B = w.heap.size := rfl
 refine both (fun hk => ?_) (fun hk => ?_)
 ·have hk : c.kind = 0 := by simpa using hk
  have hd : allowM m c = ((doM m c.op c.arg c.data).1, true) := by simp [allowM, hk]
  rw [hd]
  exact retB5 _ _ _ _ _ (rdN_nw 8 List.mem_cons_self rfl) (rdN_nw 9 List.mem_cons_self rfl) (rdN_nw 10 List.mem_cons_self rfl) (rdN_nw 11 List.mem_cons_self rfl) (rdN_nw 12 List.mem_cons_self rfl) (alT_ok _ _ _ _ _ _ _ fun E => by rw [den_v])
 have hk : c.kind ≠ 0 := by simpa using hk
 refine both (fun h4 => ?_) (fun h4 => ?_)
 ·have h4 : c.kind = 4 := by simpa using h4
  have hd : allowM m c = if fullB c.op = true then (m, true) else (mc0, false) := by simp [allowM, h4]
  rw [hd]
  by_cases h1 : objOf c.op = 1
  ·skip
   refine draw_vc (by kernel_rfl) (mkTab_ok _ _) (of_decide_eq_true rfl) (of_decide_eq_true rfl) ?_
   repeat (first | simp (maxSteps := 2000000) only [go_sem, ↓condS, ↓exitS, ↓gateS, ↓runOp, ↓gateD, ↓runD, ↓imp_ft, ↓imp_tf, ↓imp_tt, ↓imp_ff, ↓imp_fn, ↓imp_tn, ↓imp_fy, ↓imp_ty, ↓reduceIte, Nat.reduceLT, Nat.reduceLeDiff, Nat.reduceAdd, Nat.reduceSub, Nat.reduceMul, Nat.reduceEqDiff, reduceCtorEq, Int.reduceToNat, Int.reduceEq, Int.reduceBEq, Int.reduceBNe, Int.reduceLT, Int.reduceLE, Int.reduceNeg, Int.reduceAdd, Int.reduceSub, Int.reduceMul, Int.reduceGE, Int.reduceGT, endO] | rw [dr_cons])
   repeat (with_reducible refine And.intro (by first | (simp only [maxLen]; omega) | omega | decide | (simp; done) | (simp [maxLen]; omega)) ?_)
   refine dcallV (.c (.v (.int .i64 (objOf c.op)))) _ (fun E => rfl) (fun E a w' _ => by
    refine (mObject c.op w').mono ?_
    rintro e w'' ⟨rfl, rfl⟩
    exact ⟨rfl, Below.refl _ _⟩) ?_
   repeat (first | simp (maxSteps := 2000000) only [go_sem, ↓condS, ↓exitS, ↓gateS, ↓runOp, ↓gateD, ↓runD, ↓imp_ft, ↓imp_tf, ↓imp_tt, ↓imp_ff, ↓imp_fn, ↓imp_tn, ↓imp_fy, ↓imp_ty, ↓reduceIte, Nat.reduceLT, Nat.reduceLeDiff, Nat.reduceAdd, Nat.reduceSub, Nat.reduceMul, Nat.reduceEqDiff, reduceCtorEq, Int.reduceToNat, Int.reduceEq, Int.reduceBEq, Int.reduceBNe, Int.reduceLT, Int.reduceLE, Int.reduceNeg, Int.reduceAdd, Int.reduceSub, Int.reduceMul, Int.reduceGE, Int.reduceGT, endO] | rw [dr_cons])
   refine dcall_intro (ks := [0]) (cr_valN (.c (.ifc 145 (.xv (0, 0, 0)))) [0] (List.mem_cons_self) fun E a w' hs => by
    have := of_any (E.χ (0, 0, 0)) (E.χ (1, 0, 0)) (E.χ (2, 0, 0)) (E.χ (3, 0, 0)) (E.χ (4, 0, 0)) (objOf c.op) w'
    simp [ofV, h1] at this
    simp [SV.den, SC.den, h1]
    exact this) rfl trivial trivial (fun k hk => by cases hk) ?_
   repeat (first | simp (maxSteps := 2000000) only [go_sem, ↓condS, ↓exitS, ↓gateS, ↓runOp, ↓gateD, ↓runD, ↓imp_ft, ↓imp_tf, ↓imp_tt, ↓imp_ff, ↓imp_fn, ↓imp_tn, ↓imp_fy, ↓imp_ty, ↓reduceIte, Nat.reduceLT, Nat.reduceLeDiff, Nat.reduceAdd, Nat.reduceSub, Nat.reduceMul, Nat.reduceEqDiff, reduceCtorEq, Int.reduceToNat, Int.reduceEq, Int.reduceBEq, Int.reduceBNe, Int.reduceLT, Int.reduceLE, Int.reduceNeg, Int.reduceAdd, Int.reduceSub, Int.reduceMul, Int.reduceGE, Int.reduceGT, endO] | rw [dr_cons])
   refine dcallV (.c (.bo (c.op == 22))) (.bool (c.op == 22)) (fun E => by rw [den_c, den_b]) (fun E a w' hs => by
    obtain ⟨ba, cap, hv, _⟩ := (holds_of hs).1 (0, 0, 0) _ rfl
    have := full_cell ba m.cell.length cap c.op w'
    simp only [List.map_cons, List.map_nil, den_c, SC.den, hv, arrOf_len]
    exact this) ?_
   repeat (first | simp (maxSteps := 2000000) only [go_sem, ↓condS, ↓exitS, ↓gateS, ↓runOp, ↓gateD, ↓runD, ↓imp_ft, ↓imp_tf, ↓imp_tt, ↓imp_ff, ↓imp_fn, ↓imp_tn, ↓imp_fy, ↓imp_ty, ↓reduceIte, Nat.reduceLT, Nat.reduceLeDiff, Nat.reduceAdd, Nat.reduceSub, Nat.reduceMul, Nat.reduceEqDiff, reduceCtorEq, Int.reduceToNat, Int.reduceEq, Int.reduceBEq, Int.reduceBNe, Int.reduceLT, Int.reduceLE, Int.reduceNeg, Int.reduceAdd, Int.reduceSub, Int.reduceMul, Int.reduceGE, Int.reduceGT, endO] | rw [dr_cons])
   have hf : fullB c.op = (c.op == 22) := full1 h1
   refine both (fun hf1 => ?_) (fun hf1 => ?_)
   ·rw [if_pos (by rw [hf]; exact hf1)]
    refine callF 5 cT (mcR m) (mcR_id _ _) (fun E a w' hs => mcopy_Z (cont_at hs 0 rfl rfl rfl rfl rfl) (hok.1.le (by decide))) ?_
    simp (maxSteps := 2000000) only [go_sem, ↓condS, ↓exitS, ↓gateS, ↓runOp, ↓gateD, ↓runD, ↓imp_ft, ↓imp_tf, ↓imp_tt, ↓imp_ff, ↓imp_fn, ↓imp_tn, ↓imp_fy, ↓imp_ty, ↓reduceIte, Nat.reduceLT, Nat.reduceLeDiff, Nat.reduceAdd, Nat.reduceSub, Nat.reduceMul, Nat.reduceEqDiff, reduceCtorEq, Int.reduceToNat, Int.reduceEq, Int.reduceBEq, Int.reduceBNe, Int.reduceLT, Int.reduceLE, Int.reduceNeg, Int.reduceAdd, Int.reduceSub, Int.reduceMul, Int.reduceGE, Int.reduceGT, endO, cT, mcS, mcR, mcA]
    exact retB5 _ _ _ _ _ (rdN_nw 15 List.mem_cons_self rfl) (rdN_nw 16 List.mem_cons_self rfl) (rdN_nw 17 List.mem_cons_self rfl) (rdN_nw 18 List.mem_cons_self rfl) (rdN_nw 19 List.mem_cons_self rfl) (alT_ok _ _ _ _ _ _ _ fun E => by rw [den_v])
   ·rw [if_neg (by rw [hf, hf1]; simp)]
    exact retB5 _ _ _ _ _ rdN_nil rdN_nil rdN_nil rdN_nil rdN_nil (alT_ok _ _ _ _ _ _ _ fun E => by rw [den_v])
  by_cases h2 : objOf c.op = 2
  ·skip
   refine draw_vc (by kernel_rfl) (mkTab_ok _ _) (of_decide_eq_true rfl) (of_decide_eq_true rfl) ?_
   repeat (first | simp (maxSteps := 2000000) only [go_sem, ↓condS, ↓exitS, ↓gateS, ↓runOp, ↓gateD, ↓runD, ↓imp_ft, ↓imp_tf, ↓imp_tt, ↓imp_ff, ↓imp_fn, ↓imp_tn, ↓imp_fy, ↓imp_ty, ↓reduceIte, Nat.reduceLT, Nat.reduceLeDiff, Nat.reduceAdd, Nat.reduceSub, Nat.reduceMul, Nat.reduceEqDiff, reduceCtorEq, Int.reduceToNat, Int.reduceEq, Int.reduceBEq, Int.reduceBNe, Int.reduceLT, Int.reduceLE, Int.reduceNeg, Int.reduceAdd, Int.reduceSub, Int.reduceMul, Int.reduceGE, Int.reduceGT, endO] | rw [dr_cons])
   repeat (with_reducible refine And.intro (by first | (simp only [maxLen]; omega) | omega | decide | (simp; done) | (simp [maxLen]; omega)) ?_)
   refine dcallV (.c (.v (.int .i64 (objOf c.op)))) _ (fun E => rfl) (fun E a w' _ => by
    refine (mObject c.op w').mono ?_
    rintro e w'' ⟨rfl, rfl⟩
    exact ⟨rfl, Below.refl _ _⟩) ?_
   repeat (first | simp (maxSteps := 2000000) only [go_sem, ↓condS, ↓exitS, ↓gateS, ↓runOp, ↓gateD, ↓runD, ↓imp_ft, ↓imp_tf, ↓imp_tt, ↓imp_ff, ↓imp_fn, ↓imp_tn, ↓imp_fy, ↓imp_ty, ↓reduceIte, Nat.reduceLT, Nat.reduceLeDiff, Nat.reduceAdd, Nat.reduceSub, Nat.reduceMul, Nat.reduceEqDiff, reduceCtorEq, Int.reduceToNat, Int.reduceEq, Int.reduceBEq, Int.reduceBNe, Int.reduceLT, Int.reduceLE, Int.reduceNeg, Int.reduceAdd, Int.reduceSub, Int.reduceMul, Int.reduceGE, Int.reduceGT, endO] | rw [dr_cons])
   refine dcall_intro (ks := [1]) (cr_valN (.c (.ifc 146 (.xv (1, 0, 0)))) [1] (List.mem_cons_self) fun E a w' hs => by
    have := of_any (E.χ (0, 0, 0)) (E.χ (1, 0, 0)) (E.χ (2, 0, 0)) (E.χ (3, 0, 0)) (E.χ (4, 0, 0)) (objOf c.op) w'
    simp [ofV, h2] at this
    simp [SV.den, SC.den, h2]
    exact this) rfl trivial trivial (fun k hk => by cases hk) ?_
   repeat (first | simp (maxSteps := 2000000) only [go_sem, ↓condS, ↓exitS, ↓gateS, ↓runOp, ↓gateD, ↓runD, ↓imp_ft, ↓imp_tf, ↓imp_tt, ↓imp_ff, ↓imp_fn, ↓imp_tn, ↓imp_fy, ↓imp_ty, ↓reduceIte, Nat.reduceLT, Nat.reduceLeDiff, Nat.reduceAdd, Nat.reduceSub, Nat.reduceMul, Nat.reduceEqDiff, reduceCtorEq, Int.reduceToNat, Int.reduceEq, Int.reduceBEq, Int.reduceBNe, Int.reduceLT, Int.reduceLE, Int.reduceNeg, Int.reduceAdd, Int.reduceSub, Int.reduceMul, Int.reduceGE, Int.reduceGT, endO] | rw [dr_cons])
   refine dcallV (.c (.bo (c.op == 30))) (.bool (c.op == 30)) (fun E => by rw [den_c, den_b]) (fun E a w' hs => by
    obtain ⟨ba, cap, hv, _⟩ := (holds_of hs).1 (1, 0, 0) _ rfl
    have := full_stack ba m.stack.length cap c.op w'
    simp only [List.map_cons, List.map_nil, den_c, SC.den, hv, arrOf_len]
    exact this) ?_
   repeat (first | simp (maxSteps := 2000000) only [go_sem, ↓condS, ↓exitS, ↓gateS, ↓runOp, ↓gateD, ↓runD, ↓imp_ft, ↓imp_tf, ↓imp_tt, ↓imp_ff, ↓imp_fn, ↓imp_tn, ↓imp_fy, ↓imp_ty, ↓reduceIte, Nat.reduceLT, Nat.reduceLeDiff, Nat.reduceAdd, Nat.reduceSub, Nat.reduceMul, Nat.reduceEqDiff, reduceCtorEq, Int.reduceToNat, Int.reduceEq, Int.reduceBEq, Int.reduceBNe, Int.reduceLT, Int.reduceLE, Int.reduceNeg, Int.reduceAdd, Int.reduceSub, Int.reduceMul, Int.reduceGE, Int.reduceGT, endO] | rw [dr_cons])
   have hf : fullB c.op = (c.op == 30) := full2 h2
   refine both (fun hf1 => ?_) (fun hf1 => ?_)
   ·rw [if_pos (by rw [hf]; exact hf1)]
    refine callF 5 cT (mcR m) (mcR_id _ _) (fun E a w' hs => mcopy_Z (cont_at hs 0 rfl rfl rfl rfl rfl) (hok.1.le (by decide))) ?_
    simp (maxSteps := 2000000) only [go_sem, ↓condS, ↓exitS, ↓gateS, ↓runOp, ↓gateD, ↓runD, ↓imp_ft, ↓imp_tf, ↓imp_tt, ↓imp_ff, ↓imp_fn, ↓imp_tn, ↓imp_fy, ↓imp_ty, ↓reduceIte, Nat.reduceLT, Nat.reduceLeDiff, Nat.reduceAdd, Nat.reduceSub, Nat.reduceMul, Nat.reduceEqDiff, reduceCtorEq, Int.reduceToNat, Int.reduceEq, Int.reduceBEq, Int.reduceBNe, Int.reduceLT, Int.reduceLE, Int.reduceNeg, Int.reduceAdd, Int.reduceSub, Int.reduceMul, Int.reduceGE, Int.reduceGT, endO, cT, mcS, mcR, mcA]
    exact retB5 _ _ _ _ _ (rdN_nw 15 List.mem_cons_self rfl) (rdN_nw 16 List.mem_cons_self rfl) (rdN_nw 17 List.mem_cons_self rfl) (rdN_nw 18 List.mem_cons_self rfl) (rdN_nw 19 List.mem_cons_self rfl) (alT_ok _ _ _ _ _ _ _ fun E => by rw [den_v])
   ·rw [if_neg (by rw [hf, hf1]; simp)]
    exact retB5 _ _ _ _ _ rdN_nil rdN_nil rdN_nil rdN_nil rdN_nil (alT_ok _ _ _ _ _ _ _ fun E => by rw [den_v])
  by_cases h3 : objOf c.op = 3
  ·skip
   refine draw_vc (by kernel_rfl) (mkTab_ok _ _) (of_decide_eq_true rfl) (of_decide_eq_true rfl) ?_
   repeat (first | simp (maxSteps := 2000000) only [go_sem, ↓condS, ↓exitS, ↓gateS, ↓runOp, ↓gateD, ↓runD, ↓imp_ft, ↓imp_tf, ↓imp_tt, ↓imp_ff, ↓imp_fn, ↓imp_tn, ↓imp_fy, ↓imp_ty, ↓reduceIte, Nat.reduceLT, Nat.reduceLeDiff, Nat.reduceAdd, Nat.reduceSub, Nat.reduceMul, Nat.reduceEqDiff, reduceCtorEq, Int.reduceToNat, Int.reduceEq, Int.reduceBEq, Int.reduceBNe, Int.reduceLT, Int.reduceLE, Int.reduceNeg, Int.reduceAdd, Int.reduceSub, Int.reduceMul, Int.reduceGE, Int.reduceGT, endO] | rw [dr_cons])
   repeat (with_reducible refine And.intro (by first | (simp only [maxLen]; omega) | omega | decide | (simp; done) | (simp [maxLen]; omega)) ?_)
   refine dcallV (.c (.v (.int .i64 (objOf c.op)))) _ (fun E => rfl) (fun E a w' _ => by
    refine (mObject c.op w').mono ?_
    rintro e w'' ⟨rfl, rfl⟩
    exact ⟨rfl, Below.refl _ _⟩) ?_
   repeat (first | simp (maxSteps := 2000000) only [go_sem, ↓condS, ↓exitS, ↓gateS, ↓runOp, ↓gateD, ↓runD, ↓imp_ft, ↓imp_tf, ↓imp_tt, ↓imp_ff, ↓imp_fn, ↓imp_tn, ↓imp_fy, ↓imp_ty, ↓reduceIte, Nat.reduceLT, Nat.reduceLeDiff, Nat.reduceAdd, Nat.reduceSub, Nat.reduceMul, Nat.reduceEqDiff, reduceCtorEq, Int.reduceToNat, Int.reduceEq, Int.reduceBEq, Int.reduceBNe, Int.reduceLT, Int.reduceLE, Int.reduceNeg, Int.reduceAdd, Int.reduceSub, Int.reduceMul, Int.reduceGE, Int.reduceGT, endO] | rw [dr_cons])
   refine dcall_intro (ks := [2]) (cr_valN (.c (.ifc 147 (.xv (2, 0, 0)))) [2] (List.mem_cons_self) fun E a w' hs => by
    have := of_any (E.χ (0, 0, 0)) (E.χ (1, 0, 0)) (E.χ (2, 0, 0)) (E.χ (3, 0, 0)) (E.χ (4, 0, 0)) (objOf c.op) w'
    simp [ofV, h3] at this
    simp [SV.den, SC.den, h3]
    exact this) rfl trivial trivial (fun k hk => by cases hk) ?_
   repeat (first | simp (maxSteps := 2000000) only [go_sem, ↓condS, ↓exitS, ↓gateS, ↓runOp, ↓gateD, ↓runD, ↓imp_ft, ↓imp_tf, ↓imp_tt, ↓imp_ff, ↓imp_fn, ↓imp_tn, ↓imp_fy, ↓imp_ty, ↓reduceIte, Nat.reduceLT, Nat.reduceLeDiff, Nat.reduceAdd, Nat.reduceSub, Nat.reduceMul, Nat.reduceEqDiff, reduceCtorEq, Int.reduceToNat, Int.reduceEq, Int.reduceBEq, Int.reduceBNe, Int.reduceLT, Int.reduceLE, Int.reduceNeg, Int.reduceAdd, Int.reduceSub, Int.reduceMul, Int.reduceGE, Int.reduceGT, endO] | rw [dr_cons])
   refine dcallV (.c (.bo (c.op == 40))) (.bool (c.op == 40)) (fun E => by rw [den_c, den_b]) (fun E a w' hs => by
    obtain ⟨ba, cap, hv, _⟩ := (holds_of hs).1 (2, 0, 0) _ rfl
    have := full_queue ba m.queue.length cap c.op w'
    simp only [List.map_cons, List.map_nil, den_c, SC.den, hv, arrOf_len]
    exact this) ?_
   repeat (first | simp (maxSteps := 2000000) only [go_sem, ↓condS, ↓exitS, ↓gateS, ↓runOp, ↓gateD, ↓runD, ↓imp_ft, ↓imp_tf, ↓imp_tt, ↓imp_ff, ↓imp_fn, ↓imp_tn, ↓imp_fy, ↓imp_ty, ↓reduceIte, Nat.reduceLT, Nat.reduceLeDiff, Nat.reduceAdd, Nat.reduceSub, Nat.reduceMul, Nat.reduceEqDiff, reduceCtorEq, Int.reduceToNat, Int.reduceEq, Int.reduceBEq, Int.reduceBNe, Int.reduceLT, Int.reduceLE, Int.reduceNeg, Int.reduceAdd, Int.reduceSub, Int.reduceMul, Int.reduceGE, Int.reduceGT, endO] | rw [dr_cons])
   have hf : fullB c.op = (c.op == 40) := full3 h3
   refine both (fun hf1 => ?_) (fun hf1 => ?_)
   ·rw [if_pos (by rw [hf]; exact hf1)]
    refine callF 5 cT (mcR m) (mcR_id _ _) (fun E a w' hs => mcopy_Z (cont_at hs 0 rfl rfl rfl rfl rfl) (hok.1.le (by decide))) ?_
    simp (maxSteps := 2000000) only [go_sem, ↓condS, ↓exitS, ↓gateS, ↓runOp, ↓gateD, ↓runD, ↓imp_ft, ↓imp_tf, ↓imp_tt, ↓imp_ff, ↓imp_fn, ↓imp_tn, ↓imp_fy, ↓imp_ty, ↓reduceIte, Nat.reduceLT, Nat.reduceLeDiff, Nat.reduceAdd, Nat.reduceSub, Nat.reduceMul, Nat.reduceEqDiff, reduceCtorEq, Int.reduceToNat, Int.reduceEq, Int.reduceBEq, Int.reduceBNe, Int.reduceLT, Int.reduceLE, Int.reduceNeg, Int.reduceAdd, Int.reduceSub, Int.reduceMul, Int.reduceGE, Int.reduceGT, endO, cT, mcS, mcR, mcA]
    exact retB5 _ _ _ _ _ (rdN_nw 15 List.mem_cons_self rfl) (rdN_nw 16 List.mem_cons_self rfl) (rdN_nw 17 List.mem_cons_self rfl) (rdN_nw 18 List.mem_cons_self rfl) (rdN_nw 19 List.mem_cons_self rfl) (alT_ok _ _ _ _ _ _ _ fun E => by rw [den_v])
   ·rw [if_neg (by rw [hf, hf1]; simp)]
    exact retB5 _ _ _ _ _ rdN_nil rdN_nil rdN_nil rdN_nil rdN_nil (alT_ok _ _ _ _ _ _ _ fun E => by rw [den_v])
  by_cases h4 : objOf c.op = 4
  ·skip
   refine draw_vc (by kernel_rfl) (mkTab_ok _ _) (of_decide_eq_true rfl) (of_decide_eq_true rfl) ?_
   repeat (first | simp (maxSteps := 2000000) only [go_sem, ↓condS, ↓exitS, ↓gateS, ↓runOp, ↓gateD, ↓runD, ↓imp_ft, ↓imp_tf, ↓imp_tt, ↓imp_ff, ↓imp_fn, ↓imp_tn, ↓imp_fy, ↓imp_ty, ↓reduceIte, Nat.reduceLT, Nat.reduceLeDiff, Nat.reduceAdd, Nat.reduceSub, Nat.reduceMul, Nat.reduceEqDiff, reduceCtorEq, Int.reduceToNat, Int.reduceEq, Int.reduceBEq, Int.reduceBNe, Int.reduceLT, Int.reduceLE, Int.reduceNeg, Int.reduceAdd, Int.reduceSub, Int.reduceMul, Int.reduceGE, Int.reduceGT, endO] | rw [dr_cons])
   repeat (with_reducible refine And.intro (by first | (simp only [maxLen]; omega) | omega | decide | (simp; done) | (simp [maxLen]; omega)) ?_)
   refine dcallV (.c (.v (.int .i64 (objOf c.op)))) _ (fun E => rfl) (fun E a w' _ => by
    refine (mObject c.op w').mono ?_
    rintro e w'' ⟨rfl, rfl⟩
    exact ⟨rfl, Below.refl _ _⟩) ?_
   repeat (first | simp (maxSteps := 2000000) only [go_sem, ↓condS, ↓exitS, ↓gateS, ↓runOp, ↓gateD, ↓runD, ↓imp_ft, ↓imp_tf, ↓imp_tt, ↓imp_ff, ↓imp_fn, ↓imp_tn, ↓imp_fy, ↓imp_ty, ↓reduceIte, Nat.reduceLT, Nat.reduceLeDiff, Nat.reduceAdd, Nat.reduceSub, Nat.reduceMul, Nat.reduceEqDiff, reduceCtorEq, Int.reduceToNat, Int.reduceEq, Int.reduceBEq, Int.reduceBNe, Int.reduceLT, Int.reduceLE, Int.reduceNeg, Int.reduceAdd, Int.reduceSub, Int.reduceMul, Int.reduceGE, Int.reduceGT, endO] | rw [dr_cons])
   refine dcall_intro (ks := [3]) (cr_valN (.c (.ifc 150 (.xv (3, 0, 0)))) [3] (List.mem_cons_self) fun E a w' hs => by
    have := of_any (E.χ (0, 0, 0)) (E.χ (1, 0, 0)) (E.χ (2, 0, 0)) (E.χ (3, 0, 0)) (E.χ (4, 0, 0)) (objOf c.op) w'
    simp [ofV, h4] at this
    simp [SV.den, SC.den, h4]
    exact this) rfl trivial trivial (fun k hk => by cases hk) ?_
   repeat (first | simp (maxSteps := 2000000) only [go_sem, ↓condS, ↓exitS, ↓gateS, ↓runOp, ↓gateD, ↓runD, ↓imp_ft, ↓imp_tf, ↓imp_tt, ↓imp_ff, ↓imp_fn, ↓imp_tn, ↓imp_fy, ↓imp_ty, ↓reduceIte, Nat.reduceLT, Nat.reduceLeDiff, Nat.reduceAdd, Nat.reduceSub, Nat.reduceMul, Nat.reduceEqDiff, reduceCtorEq, Int.reduceToNat, Int.reduceEq, Int.reduceBEq, Int.reduceBNe, Int.reduceLT, Int.reduceLE, Int.reduceNeg, Int.reduceAdd, Int.reduceSub, Int.reduceMul, Int.reduceGE, Int.reduceGT, endO] | rw [dr_cons])
   refine dcallV (.c (.bo (c.op == 50 || c.op == 60))) (.bool (c.op == 50 || c.op == 60)) (fun E => by rw [den_c, den_b]) (fun E a w' hs => by
    obtain ⟨ba, cap, hv, _⟩ := (holds_of hs).1 (3, 0, 0) _ rfl
    have := full_set ba m.set.length cap c.op w'
    simp only [List.map_cons, List.map_nil, den_c, SC.den, hv, arrOf_len]
    exact this) ?_
   repeat (first | simp (maxSteps := 2000000) only [go_sem, ↓condS, ↓exitS, ↓gateS, ↓runOp, ↓gateD, ↓runD, ↓imp_ft, ↓imp_tf, ↓imp_tt, ↓imp_ff, ↓imp_fn, ↓imp_tn, ↓imp_fy, ↓imp_ty, ↓reduceIte, Nat.reduceLT, Nat.reduceLeDiff, Nat.reduceAdd, Nat.reduceSub, Nat.reduceMul, Nat.reduceEqDiff, reduceCtorEq, Int.reduceToNat, Int.reduceEq, Int.reduceBEq, Int.reduceBNe, Int.reduceLT, Int.reduceLE, Int.reduceNeg, Int.reduceAdd, Int.reduceSub, Int.reduceMul, Int.reduceGE, Int.reduceGT, endO] | rw [dr_cons])
   have hf : fullB c.op = (c.op == 50 || c.op == 60) := full4 h4
   refine both (fun hf1 => ?_) (fun hf1 => ?_)
   ·rw [if_pos (by rw [hf]; exact hf1)]
    refine callF 5 cT (mcR m) (mcR_id _ _) (fun E a w' hs => mcopy_Z (cont_at hs 0 rfl rfl rfl rfl rfl) (hok.1.le (by decide))) ?_
    simp (maxSteps := 2000000) only [go_sem, ↓condS, ↓exitS, ↓gateS, ↓runOp, ↓gateD, ↓runD, ↓imp_ft, ↓imp_tf, ↓imp_tt, ↓imp_ff, ↓imp_fn, ↓imp_tn, ↓imp_fy, ↓imp_ty, ↓reduceIte, Nat.reduceLT, Nat.reduceLeDiff, Nat.reduceAdd, Nat.reduceSub, Nat.reduceMul, Nat.reduceEqDiff, reduceCtorEq, Int.reduceToNat, Int.reduceEq, Int.reduceBEq, Int.reduceBNe, Int.reduceLT, Int.reduceLE, Int.reduceNeg, Int.reduceAdd, Int.reduceSub, Int.reduceMul, Int.reduceGE, Int.reduceGT, endO, cT, mcS, mcR, mcA]
    exact retB5 _ _ _ _ _ (rdN_nw 15 List.mem_cons_self rfl) (rdN_nw 16 List.mem_cons_self rfl) (rdN_nw 17 List.mem_cons_self rfl) (rdN_nw 18 List.mem_cons_self rfl) (rdN_nw 19 List.mem_cons_self rfl) (alT_ok _ _ _ _ _ _ _ fun E => by rw [den_v])
   ·rw [if_neg (by rw [hf, hf1]; simp)]
    exact retB5 _ _ _ _ _ rdN_nil rdN_nil rdN_nil rdN_nil rdN_nil (alT_ok _ _ _ _ _ _ _ fun E => by rw [den_v])
  by_cases h5 : objOf c.op = 5
  ·skip
   refine draw_vc (by kernel_rfl) (mkTab_ok _ _) (of_decide_eq_true rfl) (of_decide_eq_true rfl) ?_
   repeat (first | simp (maxSteps := 2000000) only [go_sem, ↓condS, ↓exitS, ↓gateS, ↓runOp, ↓gateD, ↓runD, ↓imp_ft, ↓imp_tf, ↓imp_tt, ↓imp_ff, ↓imp_fn, ↓imp_tn, ↓imp_fy, ↓imp_ty, ↓reduceIte, Nat.reduceLT, Nat.reduceLeDiff, Nat.reduceAdd, Nat.reduceSub, Nat.reduceMul, Nat.reduceEqDiff, reduceCtorEq, Int.reduceToNat, Int.reduceEq, Int.reduceBEq, Int.reduceBNe, Int.reduceLT, Int.reduceLE, Int.reduceNeg, Int.reduceAdd, Int.reduceSub, Int.reduceMul, Int.reduceGE, Int.reduceGT, endO] | rw [dr_cons])
   repeat (with_reducible refine And.intro (by first | (simp only [maxLen]; omega) | omega | decide | (simp; done) | (simp [maxLen]; omega)) ?_)
   refine dcallV (.c (.v (.int .i64 (objOf c.op)))) _ (fun E => rfl) (fun E a w' _ => by
    refine (mObject c.op w').mono ?_
    rintro e w'' ⟨rfl, rfl⟩
    exact ⟨rfl, Below.refl _ _⟩) ?_
   repeat (first | simp (maxSteps := 2000000) only [go_sem, ↓condS, ↓exitS, ↓gateS, ↓runOp, ↓gateD, ↓runD, ↓imp_ft, ↓imp_tf, ↓imp_tt, ↓imp_ff, ↓imp_fn, ↓imp_tn, ↓imp_fy, ↓imp_ty, ↓reduceIte, Nat.reduceLT, Nat.reduceLeDiff, Nat.reduceAdd, Nat.reduceSub, Nat.reduceMul, Nat.reduceEqDiff, reduceCtorEq, Int.reduceToNat, Int.reduceEq, Int.reduceBEq, Int.reduceBNe, Int.reduceLT, Int.reduceLE, Int.reduceNeg, Int.reduceAdd, Int.reduceSub, Int.reduceMul, Int.reduceGE, Int.reduceGT, endO] | rw [dr_cons])
   refine dcall_intro (ks := [4]) (cr_valN (.c (.ifc 151 (.xv (4, 0, 0)))) [4] (List.mem_cons_self) fun E a w' hs => by
    have := of_any (E.χ (0, 0, 0)) (E.χ (1, 0, 0)) (E.χ (2, 0, 0)) (E.χ (3, 0, 0)) (E.χ (4, 0, 0)) (objOf c.op) w'
    simp [ofV, h5] at this
    simp [SV.den, SC.den, h5]
    exact this) rfl trivial trivial (fun k hk => by cases hk) ?_
   repeat (first | simp (maxSteps := 2000000) only [go_sem, ↓condS, ↓exitS, ↓gateS, ↓runOp, ↓gateD, ↓runD, ↓imp_ft, ↓imp_tf, ↓imp_tt, ↓imp_ff, ↓imp_fn, ↓imp_tn, ↓imp_fy, ↓imp_ty, ↓reduceIte, Nat.reduceLT, Nat.reduceLeDiff, Nat.reduceAdd, Nat.reduceSub, Nat.reduceMul, Nat.reduceEqDiff, reduceCtorEq, Int.reduceToNat, Int.reduceEq, Int.reduceBEq, Int.reduceBNe, Int.reduceLT, Int.reduceLE, Int.reduceNeg, Int.reduceAdd, Int.reduceSub, Int.reduceMul, Int.reduceGE, Int.reduceGT, endO] | rw [dr_cons])
   refine dcallV (.c (.bo (c.op == 50 || c.op == 60))) (.bool (c.op == 50 || c.op == 60)) (fun E => by rw [den_c, den_b]) (fun E a w' hs => by
    obtain ⟨ba, cap, hv, _⟩ := (holds_of hs).1 (4, 0, 0) _ rfl
    have := full_table ba m.table.length cap c.op w'
    simp only [List.map_cons, List.map_nil, den_c, SC.den, hv, arrOf_len]
    exact this) ?_
   repeat (first | simp (maxSteps := 2000000) only [go_sem, ↓condS, ↓exitS, ↓gateS, ↓runOp, ↓gateD, ↓runD, ↓imp_ft, ↓imp_tf, ↓imp_tt, ↓imp_ff, ↓imp_fn, ↓imp_tn, ↓imp_fy, ↓imp_ty, ↓reduceIte, Nat.reduceLT, Nat.reduceLeDiff, Nat.reduceAdd, Nat.reduceSub, Nat.reduceMul, Nat.reduceEqDiff, reduceCtorEq, Int.reduceToNat, Int.reduceEq, Int.reduceBEq, Int.reduceBNe, Int.reduceLT, Int.reduceLE, Int.reduceNeg, Int.reduceAdd, Int.reduceSub, Int.reduceMul, Int.reduceGE, Int.reduceGT, endO] | rw [dr_cons])
   have hf : fullB c.op = (c.op == 50 || c.op == 60) := full5 h5
   refine both (fun hf1 => ?_) (fun hf1 => ?_)
   ·rw [if_pos (by rw [hf]; exact hf1)]
    refine callF 5 cT (mcR m) (mcR_id _ _) (fun E a w' hs => mcopy_Z (cont_at hs 0 rfl rfl rfl rfl rfl) (hok.1.le (by decide))) ?_
    simp (maxSteps := 2000000) only [go_sem, ↓condS, ↓exitS, ↓gateS, ↓runOp, ↓gateD, ↓runD, ↓imp_ft, ↓imp_tf, ↓imp_tt, ↓imp_ff, ↓imp_fn, ↓imp_tn, ↓imp_fy, ↓imp_ty, ↓reduceIte, Nat.reduceLT, Nat.reduceLeDiff, Nat.reduceAdd, Nat.reduceSub, Nat.reduceMul, Nat.reduceEqDiff, reduceCtorEq, Int.reduceToNat, Int.reduceEq, Int.reduceBEq, Int.reduceBNe, Int.reduceLT, Int.reduceLE, Int.reduceNeg, Int.reduceAdd, Int.reduceSub, Int.reduceMul, Int.reduceGE, Int.reduceGT, endO, cT, mcS, mcR, mcA]
    exact retB5 _ _ _ _ _ (rdN_nw 15 List.mem_cons_self rfl) (rdN_nw 16 List.mem_cons_self rfl) (rdN_nw 17 List.mem_cons_self rfl) (rdN_nw 18 List.mem_cons_self rfl) (rdN_nw 19 List.mem_cons_self rfl) (alT_ok _ _ _ _ _ _ _ fun E => by rw [den_v])
   ·rw [if_neg (by rw [hf, hf1]; simp)]
    exact retB5 _ _ _ _ _ rdN_nil rdN_nil rdN_nil rdN_nil rdN_nil (alT_ok _ _ _ _ _ _ _ fun E => by rw [den_v])
  rcases objOf_six c.op with h | h | h | h | h | h
  ·exact absurd h ho
  ·exact absurd h h1
  ·exact absurd h h2
  ·exact absurd h h3
  ·exact absurd h h4
  ·exact absurd h h5
 have h4 : c.kind ≠ 4 := by simpa using h4
 refine both (fun he => ?_) (fun he => ?_)
 ·have he : c.kind = (doM m c.op c.arg c.data).2.1 ∧ c.val = (doM m c.op c.arg c.data).2.2 := by simpa using he
  have hd : allowM m c = ((doM m c.op c.arg c.data).1, true) := by unfold allowM; rw [if_neg hk, if_neg h4, if_pos he]
  rw [hd]
  exact retB5 _ _ _ _ _ (rdN_nw 8 List.mem_cons_self rfl) (rdN_nw 9 List.mem_cons_self rfl) (rdN_nw 10 List.mem_cons_self rfl) (rdN_nw 11 List.mem_cons_self rfl) (rdN_nw 12 List.mem_cons_self rfl) (alT_ok _ _ _ _ _ _ _ fun E => by rw [den_v])
 ·have he : ¬ (c.kind = (doM m c.op c.arg c.data).2.1 ∧ c.val = (doM m c.op c.arg c.data).2.2) := by
   intro h
   rw [h.1, h.2] at he
   simp at he
  have hd : allowM m c = (mc0, false) := by unfold allowM; rw [if_neg hk, if_neg h4, if_neg he]
  rw [hd]
  exact retB5 _ _ _ _ _ rdN_nil rdN_nil rdN_nil rdN_nil rdN_nil (alT_ok _ _ _ _ _ _ _ fun E => by rw [den_v])
end Go.Proofs.Ytkjeedlkkpgopaa.Z
namespace Go.Proofs.Ytkjeedlkkpgopaa.Z
open Go Go.RowKit Go.ChangeShapes Go.WideShapes Go.ChangeAt
def _root_.Go.Proofs.Ytkjeedlkkpgopaa.MC.upto (m : MC) (n : Nat) : Prop := m.cell.length ≤ n ∧ m.stack.length ≤ n ∧ m.queue.length ≤ n ∧ m.set.length ≤ n ∧ m.table.length ≤ n
theorem _root_.Go.Proofs.Ytkjeedlkkpgopaa.MC.upto.okR {m : MC} {n : Nat} (h : m.upto n) (hn : n ≤ 4000000000000) : MC.okR m := by
 obtain ⟨h0, h1, h2, h3, h4⟩ := h
 simp only [MC.okR, MC.ok]
 omega
section
variable {H : Type} {enc : TypeId × Value → H} {w : World}
end
end Go.Proofs.Ytkjeedlkkpgopaa.Z
namespace Go.Proofs.Ytkjeedlkkpgopaa
open Go.RowKit
theorem ins_len {α : Type} (l : List α) (i : Nat) (x : α) : (insAt l i x).length = l.length + 1 := by
 unfold insAt
 simp only [List.length_append, List.length_take, List.length_cons, List.length_drop]
 omega
theorem del_len {α : Type} (l : List α) (i : Nat) : (delAt l i).length ≤ l.length := by
 unfold delAt
 simp only [List.length_append, List.length_take, List.length_drop]
 omega
theorem doCell_len (l : List Int) (op arg : Int) : (doCell l op arg).1.length ≤ max 1 l.length := by
 unfold doCell
 split
 ·simp only [List.length_cons, List.length_nil]; omega
 ·split
  ·simp only [List.length_nil]; omega
  ·simp only [List.length_cons]; omega
theorem doStack_len (l : List Int) (op arg : Int) : (doStack l op arg).1.length ≤ l.length + 1 := by
 unfold doStack
 split
 ·simp
 ·split <;> simp <;> omega
theorem doQueue_len (l : List Int) (op arg : Int) : (doQueue l op arg).1.length ≤ l.length + 1 := by
 unfold doQueue
 split
 ·simp
 ·split <;> simp <;> omega
theorem doSet_len (l : List Int) (op arg : Int) : (doSet l op arg).1.length ≤ l.length + 1 := by
 unfold doSet
 have h := del_len l (pos l arg)
 (repeat' split) <;> simp [ins_len] <;> omega
theorem doTable_len (l : List (Int × Int)) (op arg data : Int) : (doTable l op arg data).1.length ≤ l.length + 1 := by
 unfold doTable
 have h := del_len l (pos (keys l) arg)
 (repeat' split) <;> simp [ins_len] <;> omega
theorem doSet_inc {l : List Int} {op arg : Int} (h : incB l = true) : incB (doSet l op arg).1 = true := by
 unfold doSet
 split
 ·split
  ·exact h
  ·next hk => exact inc_ins h (fun hm => hk ((has_mem h).2 hm))
 ·split
  ·split
   ·exact inc_del h
   ·exact h
  ·split <;> exact h
theorem doTable_inc {l : List (Int × Int)} {op arg data : Int} (h : incB (keys l) = true) : incB (keys (doTable l op arg data).1) = true := by
 unfold doTable
 split
 ·split
  ·exact h
  ·next hk =>
   show incB (keys (insAt l (pos (keys l) arg) (arg, data))) = true
   rw [show keys (insAt l (pos (keys l) arg) (arg, data)) = insAt (keys l) (pos (keys l) arg) arg from map_insAt _ _ _ _]
   exact inc_ins h (fun hm => hk ((has_mem h).2 hm))
 ·split
  ·split
   ·split
    ·show incB (keys (delAt l (pos (keys l) arg))) = true
     rw [show keys (delAt l (pos (keys l) arg)) = delAt (keys l) (pos (keys l) arg) from map_delAt _ _ _]
     exact inc_del h
    ·exact h
   ·exact h
  ·exact h
theorem doM_may {m : MC} {op arg data : Int} (h : mayB m = true) : mayB (doM m op arg data).1 = true := by
 unfold mayB at h ⊢
 simp only [Bool.and_eq_true, decide_eq_true_eq] at h ⊢
 obtain ⟨⟨h1, h2⟩, h3⟩ := h
 have g1 := doCell_len m.cell op arg
 unfold doM
 (repeat' split) <;> simp only
 ·exact ⟨⟨by omega, h2⟩, h3⟩
 ·exact ⟨⟨h1, h2⟩, h3⟩
 ·exact ⟨⟨h1, h2⟩, h3⟩
 ·exact ⟨⟨h1, doSet_inc h2⟩, h3⟩
 ·exact ⟨⟨h1, h2⟩, doTable_inc h3⟩
end Go.Proofs.Ytkjeedlkkpgopaa
namespace Go.Proofs.Ytkjeedlkkpgopaa.Z
open Go Go.RowKit
theorem doM_upto {m : MC} {n : Nat} {op arg data : Int} (h : m.upto n) : (doM m op arg data).1.upto (n + 1) := by
 have h1 := doCell_len m.cell op arg
 have h2 := doStack_len m.stack op arg
 have h3 := doQueue_len m.queue op arg
 have h4 := doSet_len m.set op arg
 have h5 := doTable_len m.table op arg data
 unfold MC.upto at h ⊢
 unfold doM
 (repeat' split) <;> simp only <;> omega
theorem mc0_may : mayB mc0 = true := by decide
theorem allowM_upto {m : MC} {n : Nat} {c : Cl} (h : m.upto n) : (allowM m c).1.upto (n + 1) := by
 have h0 : m.upto (n + 1) := by obtain ⟨a, b, c, d, e⟩ := h; exact ⟨by omega, by omega, by omega, by omega, by omega⟩
 have hz : mc0.upto (n + 1) := by simp [MC.upto, mc0]
 unfold allowM
 (repeat' split) <;> first | exact doM_upto h | exact h0 | exact hz
theorem allowM_may {m : MC} {c : Cl} (h : mayB m = true) : mayB (allowM m c).1 = true := by
 unfold allowM
 (repeat' split) <;> first | exact doM_may h | exact h | exact mc0_may
def playM : MC → Nat → List Cl → MC × Int
 | m, _, [] => (m, -1)
 | m, i, c :: r => if (allowM m c).2 = true then playM (allowM m c).1 (i + 1) r else (m, (i : Int))
end Go.Proofs.Ytkjeedlkkpgopaa.Z
namespace Go.Proofs.Ytkjeedlkkpgopaa.Z
open Go Go.RowKit
theorem enterCL {P : Program} {A : List Nat} {f nt : Nat} {fn : Func} {x : Code} {c : IR} {w : World} {rs : List RS} {R : Ending → World → Prop} {v : Value} {m : MC} (h : Cont w v m) {α : Type} {enc : α → List Value} {s : Nat} {xs : List α} (d : α) {v' : Value} (T : EncT enc s) (h' : Arr w enc s v' xs) (sc : List SV) (args : Array Value)
  (hf : P.funcs[f]? = some fn) (hb : fn.body = some x) (hc : compC (mkTab P A) x = some c.strip) (hr : compR (mkTab P A).T fn.results.toList = some rs) (hn : fn.ntmps = nt)
  (hargs : ∀ E' : Env, (SV.agg (mcS 0)).den E' = v → E'.χ (5, 0, 0) = v' → (sc.map (SV.den E')).toArray = args) (hnt : sc.length ≤ nt)
  (hex : exec (mkC P A w rs R) 1000 [.code c] ⟨nt, enumT 0 sc, [], mcA 0 m ++ [(5, .one (arrOf enc s xs d))], [], 6⟩) : Calls P f args w R := by
 obtain ⟨v0, v1, v2, v3, v4, rfl, h0, h1, h2, h3, h4⟩ := h
 have hone : OneC ⟨fun _ => 0, fun _ => 0, fun _ => false, fun x => if x.1 = 5 then v' else fiv v0 v1 v2 v3 v4 x.1⟩ := fun x => by
  simp only [fiv]
  split
  ·exact arr_one h'
  split
  ·exact arr_one h0
  ·exact arr_one h1
  ·exact arr_one h2
  ·exact arr_one h3
  ·exact arr_one h4
 refine calls_sym (c := c) (C := mkC P A w rs R) 1000 sc ⟨fun _ => 0, fun _ => 0, fun _ => false, fun x => if x.1 = 5 then v' else fiv v0 v1 v2 v3 v4 x.1⟩ [] _ [] 6 nt args (mkTab_ok _ _) hf hb hc hr hn rfl rfl hone (fun E' hE' => hargs E' ?_ ?_) hnt (fun E' hE' => inOk_arrs fun w' hw' x A hA => ?_) hex
 all_goals have e0 : E'.χ (0, 0, 0) = v0 := (hE' (0, 0, 0) (by decide)).2.2.2
 all_goals have e1 : E'.χ (1, 0, 0) = v1 := (hE' (1, 0, 0) (by decide)).2.2.2
 all_goals have e2 : E'.χ (2, 0, 0) = v2 := (hE' (2, 0, 0) (by decide)).2.2.2
 all_goals have e3 : E'.χ (3, 0, 0) = v3 := (hE' (3, 0, 0) (by decide)).2.2.2
 all_goals have e4 : E'.χ (4, 0, 0) = v4 := (hE' (4, 0, 0) (by decide)).2.2.2
 all_goals have e5 : E'.χ (5, 0, 0) = v' := (hE' (5, 0, 0) (by decide)).2.2.2
 ·simp [mcS, SV.den, SC.den, e0, e1, e2, e3, e4]
 ·exact e5
 ·rcases atN_one hA with ⟨rfl, rfl⟩ | hA
  ·exact arr1 eI_ok e0 h0 hw'
  rcases atN_one hA with ⟨rfl, rfl⟩ | hA
  ·exact arr1 eI_ok e1 h1 hw'
  rcases atN_one hA with ⟨rfl, rfl⟩ | hA
  ·exact arr1 eI_ok e2 h2 hw'
  rcases atN_one hA with ⟨rfl, rfl⟩ | hA
  ·exact arr1 eI_ok e3 h3 hw'
  rcases atN_one hA with ⟨rfl, rfl⟩ | hA
  ·exact arr1 eP_ok e4 h4 hw'
  rcases atN_one hA with ⟨rfl, rfl⟩ | hA
  ·exact arr1 T e5 h' hw'
  exact (atN_nil hA).elim
theorem arrOf_tr {α : Type} {enc : α → List Value} {s : Nat} {xs : List α} {d : α} {E E2 : Env} {w : World} {x y : Nm} (hx : E2.χ x = E.χ y) (h : ArrAt E w y (arrOf enc s xs d)) : ArrAt E2 w x (arrOf enc s xs d) := by
 obtain ⟨ba, cap, h1, h2, h3, h4⟩ := h
 refine ⟨ba, cap, hx.trans h1, h2, h3, ?_⟩
 rcases h4 with h4 | ⟨b, off, h5, h7, h6⟩
 ·exact Or.inl h4
 ·refine Or.inr ⟨b, off, h5, h7, fun k hk => ⟨(h6 k hk).1, fun j u hu => ?_⟩⟩
  have := (h6 k hk).2 j u hu
  simp only [arrOf, List.getElem?_map, Option.map_eq_some_iff] at hu
  obtain ⟨u', _, rfl⟩ := hu
  rw [den_v] at this ⊢
  exact this
theorem nwL_fact {σ : Nm → Nm} {n B : Nat} {fs : List (Env → World → Prop)} {m : MC} (i j : Nat) (h : NwL B (mcA j m) ∈ fs) (h0 : σ (i, 0, 0) = (j, 0, 0)) (h1 : σ (i + 1, 0, 0) = (j + 1, 0, 0)) (h2 : σ (i + 2, 0, 0) = (j + 2, 0, 0)) (h3 : σ (i + 3, 0, 0) = (j + 3, 0, 0)) (h4 : σ (i + 4, 0, 0) = (j + 4, 0, 0)) (hn : i + 5 ≤ n) : FactLe σ n fs (NwL B (mcA i m)) := by
 refine ⟨_, h, fun E E2 w hR hφ w'' hw'' x A hx => ?_⟩
 have key : ∀ k l, σ (k, 0, 0) = (l, 0, 0) → k < n → E2.χ (k, 0, 0) = E.χ (l, 0, 0) := fun k l e hk => by
  have := (hR (k, 0, 0) hk).2.2.2
  rw [e] at this
  exact this
 have hφ := hφ w'' hw''
 rcases atN_one hx with ⟨rfl, rfl⟩ | hx
 ·exact arrOf_tr (key _ _ h0 (by omega)) (hφ (j, 0, 0) _ (by simp [mcA, atN, look, Fm.get]))
 rcases atN_one hx with ⟨rfl, rfl⟩ | hx
 ·exact arrOf_tr (key _ _ h1 (by omega)) (hφ (j + 1, 0, 0) _ (by simp [mcA, atN, look, Fm.get]))
 rcases atN_one hx with ⟨rfl, rfl⟩ | hx
 ·exact arrOf_tr (key _ _ h2 (by omega)) (hφ (j + 2, 0, 0) _ (by simp [mcA, atN, look, Fm.get]))
 rcases atN_one hx with ⟨rfl, rfl⟩ | hx
 ·exact arrOf_tr (key _ _ h3 (by omega)) (hφ (j + 3, 0, 0) _ (by simp [mcA, atN, look, Fm.get]))
 rcases atN_one hx with ⟨rfl, rfl⟩ | hx
 ·exact arrOf_tr (key _ _ h4 (by omega)) (hφ (j + 4, 0, 0) _ (by simp [mcA, atN, look, Fm.get]))
 exact (atN_nil hx).elim
def plT (p : MC × Int) (b : Nat) : SV := .tup [(true, mcS b), (false, [.v (.int .i64 p.2)]), (false, [.v (.int .i64 0)])]
theorem plT_ok (c0 c1 c2 c3 c4 : SC) (p : MC × Int) : ∀ b (E E2 : Env), E2.χ (b, 0, 0) = c0.den E → E2.χ (b + 1, 0, 0) = c1.den E → E2.χ (b + 2, 0, 0) = c2.den E → E2.χ (b + 3, 0, 0) = c3.den E → E2.χ (b + 4, 0, 0) = c4.den E →
  (SV.tup [(true, [c0, c1, c2, c3, c4]), (false, [.v (.int .i64 p.2)]), (false, [.v (.int .i64 0)])]).den E = (plT p b).den E2 := fun b E E2 e0 e1 e2 e3 e4 => by
 simp [plT, mcS, SV.den, den1, SC.den, e0, e1, e2, e3, e4]
structure Plg (m0 : MC) (xs : List Cl) (N : Nat) where
 k : Nat
 m : MC
 hk : k ≤ xs.length
 may : mayB m = true
 up : m.upto (N + k)
 eq : playM m0 0 xs = playM m k (xs.drop k)
def ir71 : IR := (.seq (.ops [⟨(some 2), (.box 70 (.t 0)), none⟩, ⟨(some 4), (.new 70 [(.v (.slice none 0 0)), (.v (.slice none 0 0)), (.v (.slice none 0 0)), (.v (.slice none 0 0)), (.v (.slice none 0 0))]), none⟩, ⟨(some 5), (.mv (.k (.c (.v (.int .i64 0))))), none⟩, ⟨(some 6), (.mv (.k (.c (.v (.int .i64 0))))), none⟩]) (.kill [0, 3, 5, 6, 7, 8, 9, 10, 11] (.seq (.seq (.ops [⟨(some 15), (.ld true 5 (.t 2)), none⟩, ⟨(some 16), (.call 90 [(.t 15)]), none⟩, ⟨(some 17), (.un .not (.t 16)), none⟩]) (.kill [15, 16] (.cond (.t 17) (.seq (.ops [⟨(some 18), (.build [(.v (.slice none 0 0)), (.v (.slice none 0 0)), (.v (.slice none 0 0)), (.v (.slice none 0 0)), (.v (.slice none 0 0))] []), none⟩, ⟨none, (.st 5 (.t 4) (.t 18)), none⟩, ⟨(some 5), (.mv (.k (.c (.v (.int .i64 0))))), none⟩, ⟨(some 6), (.mv (.k (.c (.v (.int .i64 111))))), none⟩]) (.kill [1, 2, 17, 18] .ret)) .skip))) (.kill [5, 6, 17] (.seq (.seq (.ops [⟨(some 19), (.mv (.t 1)), none⟩, ⟨(some 20), (.len (.t 19)), none⟩, ⟨(some 21), (.mv (.k (.c (.v (.int .i64 0))))), none⟩]) (.blk 0 (.loop (.seq (.ops [⟨(some 22), (.bin .lss (.t 21) (.t 20)), none⟩]) (.kill [5, 6, 8, 23, 24, 25, 26, 27, 28, 29, 30] (.seq (.cond (.t 22) .skip (.exit 0)) (.kill [22] (.seq (.blk 1 (.seq (.ops [⟨(some 23), (.ia 9 (.t 19) (.t 21)), none⟩, ⟨(some 24), (.ld true 9 (.t 23)), none⟩, ⟨(some 8), (.new 53 [(.v (.int .i64 0)), (.v (.int .i64 0)), (.v (.int .i64 0)), (.v (.int .i64 0)), (.v (.int .i64 0)), (.v (.int .i64 0)), (.v (.int .i64 0)), (.v (.int .i64 0)), (.v (.int .i64 0))]), none⟩, ⟨none, (.st 9 (.t 8) (.t 24)), none⟩]) (.kill [23, 24] (.seq (.ops [⟨(some 25), (.fa 1 (.t 8)), none⟩, ⟨(some 26), (.ld false 1 (.t 25)), none⟩, ⟨(some 27), (.call 59 [(.t 26)]), none⟩, ⟨(some 28), (.bin .eql (.t 27) (.k (.c (.v (.int .i64 0))))), none⟩]) (.kill [8, 25, 26, 27] (.cond (.t 28) (.seq (.ops [⟨(some 29), (.build [(.v (.slice none 0 0)), (.v (.slice none 0 0)), (.v (.slice none 0 0)), (.v (.slice none 0 0)), (.v (.slice none 0 0))] []), none⟩, ⟨none, (.st 5 (.t 4) (.t 29)), none⟩, ⟨(some 5), (.mv (.k (.c (.v (.int .i64 0))))), none⟩, ⟨(some 6), (.mv (.k (.c (.v (.int .i64 110))))), none⟩]) (.kill [1, 2, 19, 20, 21, 28, 29] .ret)) .skip)))))) (.kill [5, 6, 8, 23, 24, 25, 26, 27, 28, 29] (.ops [⟨(some 30), (.bin .add (.t 21) (.k (.c (.v (.int .i64 1))))), none⟩, ⟨(some 21), (.mv (.t 30)), none⟩])))))))))) (.kill [5, 6, 8, 19, 20, 21, 22, 23, 24, 25, 26, 27, 28, 29, 30] (.seq (.ops [⟨(some 31), (.ld true 5 (.t 2)), none⟩, ⟨(some 32), (.call 89 [(.t 31)]), none⟩, ⟨(some 9), (.new 70 [(.v (.slice none 0 0)), (.v (.slice none 0 0)), (.v (.slice none 0 0)), (.v (.slice none 0 0)), (.v (.slice none 0 0))]), none⟩, ⟨none, (.st 5 (.t 9) (.t 32)), none⟩]) (.kill [2, 31, 32] (.seq (.seq (.ops [⟨(some 33), (.mv (.t 1)), none⟩, ⟨(some 34), (.len (.t 33)), none⟩, ⟨(some 35), (.mv (.k (.c (.v (.int .i64 0))))), none⟩]) (.kill [1] (.blk 2 (.loop (.seq (.ops [⟨(some 36), (.bin .lss (.t 35) (.t 34)), none⟩]) (.kill [5, 6, 10, 11, 12, 13, 14, 37, 38, 39, 40, 41, 42, 43, 44, 45, 46, 47, 48, 49, 50, 51, 52] (.seq (.cond (.t 36) .skip (.exit 2)) (.kill [36] (.seq (.blk 3 (.seq (.ops [⟨(some 37), (.mv (.t 35)), none⟩, ⟨(some 38), (.ia 9 (.t 33) (.t 35)), none⟩, ⟨(some 39), (.ld true 9 (.t 38)), none⟩, ⟨(some 11), (.new 53 [(.v (.int .i64 0)), (.v (.int .i64 0)), (.v (.int .i64 0)), (.v (.int .i64 0)), (.v (.int .i64 0)), (.v (.int .i64 0)), (.v (.int .i64 0)), (.v (.int .i64 0)), (.v (.int .i64 0))]), none⟩, ⟨(some 10), (.mv (.t 37)), none⟩, ⟨none, (.st 9 (.t 11) (.t 39)), none⟩]) (.kill [37, 38, 39] (.seq (.ops [⟨(some 41), (.ld true 5 (.t 9)), none⟩, ⟨(some 42), (.ld true 9 (.t 11)), none⟩, ⟨(some 43), (.call 68 [(.t 41), (.t 42)]), none⟩, ⟨(some 40), (.mv (.t 43)), none⟩, ⟨(some 44), (.ext 0 (.t 40)), none⟩, ⟨(some 45), (.ext 1 (.t 40)), none⟩, ⟨(some 46), (.ext 2 (.t 40)), none⟩, ⟨(some 12), (.new 70 [(.v (.slice none 0 0)), (.v (.slice none 0 0)), (.v (.slice none 0 0)), (.v (.slice none 0 0)), (.v (.slice none 0 0))]), none⟩, ⟨none, (.st 5 (.t 12) (.t 44)), none⟩, ⟨(some 13), (.mv (.t 45)), none⟩, ⟨(some 14), (.mv (.t 46)), none⟩]) (.kill [11, 14, 40, 41, 42, 43, 44, 45, 46] (.seq (.seq (.ops [⟨(some 47), (.mv (.t 13)), none⟩, ⟨(some 48), (.un .not (.t 47)), none⟩]) (.kill [13, 47] (.cond (.t 48) (.seq (.ops [⟨(some 49), (.ld true 5 (.t 9)), none⟩, ⟨(some 50), (.mv (.t 10)), none⟩, ⟨none, (.st 5 (.t 4) (.t 49)), none⟩, ⟨(some 5), (.mv (.t 50)), none⟩, ⟨(some 6), (.mv (.k (.c (.v (.int .i64 0))))), none⟩]) (.kill [9, 10, 12, 33, 34, 35, 48, 49, 50] .ret)) .skip))) (.kill [5, 6, 10, 48] (.ops [⟨(some 51), (.ld true 5 (.t 12)), none⟩, ⟨none, (.st 5 (.t 9) (.t 51)), none⟩])))))))) (.kill [5, 6, 10, 11, 12, 13, 14, 37, 38, 39, 40, 41, 42, 43, 44, 45, 46, 47, 48, 49, 50, 51] (.ops [⟨(some 52), (.bin .add (.t 35) (.k (.c (.v (.int .i64 1))))), none⟩, ⟨(some 35), (.mv (.t 52)), none⟩]))))))))))) (.kill [5, 6, 10, 11, 12, 13, 14, 33, 34, 35, 36, 37, 38, 39, 40, 41, 42, 43, 44, 45, 46, 47, 48, 49, 50, 51, 52] (.seq (.ops [⟨(some 53), (.ld true 5 (.t 9)), none⟩, ⟨none, (.st 5 (.t 4) (.t 53)), none⟩, ⟨(some 5), (.mv (.k (.c (.v (.int .i64 (-1)))))), none⟩, ⟨(some 6), (.mv (.k (.c (.v (.int .i64 0))))), none⟩]) (.kill [9, 53] .ret))))))))))))
def rs71 : List RS := [(.cell 4 true 5), (.t 5), (.t 6)]
def nt71 : Nat := 54
set_option maxRecDepth 100000 in
set_option maxHeartbeats 400000 in
theorem play_Z {w : World} {v v' : Value} {m : MC} {xs : List Cl} {N : Nat} (h : Cont w v m) (hu : m.upto N) (hN : N ≤ 2000000000000) (hm : mayB m = true) (h' : Arr w Cl.enc 9 v' xs) (hx : xs.length ≤ N) (ho : ∀ k, k < xs.length → objOf (xs.getD k cl0).op ≠ 0) :
  Calls Try.prog 71 #[v, v'] w (RetB w (fun _ => True) 5 (plT (playM m 0 xs)) (mcR (playM m 0 xs).1)) := by
 have hok : MC.okR m := hu.okR (by omega)
 refine enterCL (A := []) (c := ir71) (rs := rs71) (nt := nt71) h cl0 cl_ok h' [.agg (mcS 0), .c (.xv (5, 0, 0))] _ Try.func71 rfl (by kernel_rfl) (by kernel_rfl) rfl (fun E' h0 h1 => by rw [List.map_cons, h0]; simp [SV.den, SC.den, h1]) (of_decide_eq_true rfl) ?_
 simp (maxSteps := 2000000) only [ir71, nt71, rs71, go_sem, ↓condS, ↓exitS, ↓gateS, ↓runOp, ↓gateD, ↓runD, ↓imp_ft, ↓imp_tf, ↓imp_tt, ↓imp_ff, ↓imp_fn, ↓imp_tn, ↓imp_fy, ↓imp_ty, ↓reduceIte, Nat.reduceLT, Nat.reduceLeDiff, Nat.reduceAdd, Nat.reduceSub, Nat.reduceMul, Nat.reduceEqDiff, reduceCtorEq, Int.reduceToNat, Int.reduceEq, Int.reduceBEq, Int.reduceBNe, Int.reduceLT, Int.reduceLE, Int.reduceNeg, Int.reduceAdd, Int.reduceSub, Int.reduceMul, Int.reduceGE, Int.reduceGT, Cl.enc, iv, endO, mcS, mcA, List.cons_append, List.nil_append]
 refine callV (.c (.v (.bool true))) (.bool true) (fun E => rfl) (fun E a w' hs => ?_) ?_
 ·have := may_Z (w := w') (cont_at hs 0 rfl rfl rfl rfl rfl) (m := m)
  rw [hm] at this
  exact this
 simp (maxSteps := 2000000) only [go_sem, ↓condS, ↓exitS, ↓gateS, ↓runOp, ↓gateD, ↓runD, ↓imp_ft, ↓imp_tf, ↓imp_tt, ↓imp_ff, ↓imp_fn, ↓imp_tn, ↓imp_fy, ↓imp_ty, ↓reduceIte, Nat.reduceLT, Nat.reduceLeDiff, Nat.reduceAdd, Nat.reduceSub, Nat.reduceMul, Nat.reduceEqDiff, reduceCtorEq, Int.reduceToNat, Int.reduceEq, Int.reduceBEq, Int.reduceBNe, Int.reduceLT, Int.reduceLE, Int.reduceNeg, Int.reduceAdd, Int.reduceSub, Int.reduceMul, Int.reduceGE, Int.reduceGT, Cl.enc, iv, endO]
 refine loopI (ι := { k : Nat // k ≤ xs.length }) (fun k => ⟨54, [(1, .c (.xv (5, 0, 0))), (2, .c (.ptr (6, 0, 0) 0)), (4, .c (.ptr (7, 0, 0) 0)), (19, .c (.xv (5, 0, 0))), (20, .c (.v (.int .i64 xs.length))), (21, .c (.v (.int .i64 (k.1 : Nat))))],
  [(6, .one (.bk (mcS 0) 70)), (7, .one (.bk [.v (.slice none 0 0), .v (.slice none 0 0), .v (.slice none 0 0), .v (.slice none 0 0), .v (.slice none 0 0)] 70))], mcA 0 m ++ [(5, .one (arrOf Cl.enc 9 xs cl0))], [], 8⟩)
  (fun k => xs.length - k.1) ⟨0, by omega⟩ (le_refl _) ?_
 rintro ⟨k, hk⟩
 simp (maxSteps := 2000000) only [go_sem, ↓condS, ↓exitS, ↓gateS, ↓runOp, ↓gateD, ↓runD, ↓imp_ft, ↓imp_tf, ↓imp_tt, ↓imp_ff, ↓imp_fn, ↓imp_tn, ↓imp_fy, ↓imp_ty, ↓reduceIte, Nat.reduceLT, Nat.reduceLeDiff, Nat.reduceAdd, Nat.reduceSub, Nat.reduceMul, Nat.reduceEqDiff, reduceCtorEq, Int.reduceToNat, Int.reduceEq, Int.reduceBEq, Int.reduceBNe, Int.reduceLT, Int.reduceLE, Int.reduceNeg, Int.reduceAdd, Int.reduceSub, Int.reduceMul, Int.reduceGE, Int.reduceGT, Cl.enc, iv, endO, mcS, mcA, List.cons_append, List.nil_append]
 refine both (fun hlt => ?_) (fun hge => ?_)
 ·rw [decide_eq_true_eq] at hlt
  have hlt : k < xs.length := by omega
  repeat (with_reducible refine And.intro (by first | (simp only [maxLen]; omega) | omega | decide | (simp; done) | (simp [maxLen]; omega)) ?_)
  refine callV (.c (.v (.int .i64 (objOf (xs.getD k cl0).op)))) _ (fun E => rfl) (fun E a w' hs => by
   have := obj_Z (xs.getD k cl0).op w'
   exact this) ?_
  simp (maxSteps := 2000000) only [go_sem, ↓condS, ↓exitS, ↓gateS, ↓runOp, ↓gateD, ↓runD, ↓imp_ft, ↓imp_tf, ↓imp_tt, ↓imp_ff, ↓imp_fn, ↓imp_tn, ↓imp_fy, ↓imp_ty, ↓reduceIte, Nat.reduceLT, Nat.reduceLeDiff, Nat.reduceAdd, Nat.reduceSub, Nat.reduceMul, Nat.reduceEqDiff, reduceCtorEq, Int.reduceToNat, Int.reduceEq, Int.reduceBEq, Int.reduceBNe, Int.reduceLT, Int.reduceLE, Int.reduceNeg, Int.reduceAdd, Int.reduceSub, Int.reduceMul, Int.reduceGE, Int.reduceGT, Cl.enc, iv, endO]
  refine both (fun hz => ?_) (fun _ => ?_)
  ·simp at hz; exact absurd hz (ho k hlt)
  rw [wr_succ (by omega)]
  exact backI ⟨k + 1, hlt⟩ (by simp only; omega) (le_ren (id) rfl rfl (by simp [TmpsLe, look, SV.ren, SC.ren, SC.renL, ren1L, ren1, idσ, SV.okN, SC.okN, SC.okL, ok1L]) (by simp [OwnLe, BlkLeO, BlkLe, atN, look, Fm.get, idσ, SC.renL, SC.ren, SC.okL, SC.okN, renL_v, okL_v]) (by simp [ArrsLe, ArrLeO, atN, look, Fm.get, idσ, arrLe_of, arrLe_0]) rfl)
 refine callF 5 cT (mcR m) (mcR_id _ _) (fun E a w' hs => mcopy_Z (cont_at hs 0 rfl rfl rfl rfl rfl) (hok.1.le (by decide))) ?_
 simp (maxSteps := 2000000) only [go_sem, ↓condS, ↓exitS, ↓gateS, ↓runOp, ↓gateD, ↓runD, ↓imp_ft, ↓imp_tf, ↓imp_tt, ↓imp_ff, ↓imp_fn, ↓imp_tn, ↓imp_fy, ↓imp_ty, ↓reduceIte, Nat.reduceLT, Nat.reduceLeDiff, Nat.reduceAdd, Nat.reduceSub, Nat.reduceMul, Nat.reduceEqDiff, reduceCtorEq, Int.reduceToNat, Int.reduceEq, Int.reduceBEq, Int.reduceBNe, Int.reduceLT, Int.reduceLE, Int.reduceNeg, Int.reduceAdd, Int.reduceSub, Int.reduceMul, Int.reduceGE, Int.reduceGT, Cl.enc, iv, endO, cT, mcS, mcR, mcA]
 refine loopI (ι := Plg m xs N) (fun g => ⟨54, [(4, .c (.ptr (7, 0, 0) 0)), (9, .c (.ptr (6, 0, 0) 0)), (33, .c (.xv (5, 0, 0))), (34, .c (.v (.int .i64 xs.length))), (35, .c (.v (.int .i64 (g.k : Nat))))],
  [(7, .one (.bk [.v (.slice none 0 0), .v (.slice none 0 0), .v (.slice none 0 0), .v (.slice none 0 0), .v (.slice none 0 0)] 70)), (6, .one (.bk (mcS 0) 70))], mcA 0 g.m ++ [(5, .one (arrOf Cl.enc 9 xs cl0))], [NwL w.heap.size (mcA 0 g.m)], 8⟩)
  (fun g => xs.length - g.k) ⟨0, m, by omega, hm, hu, rfl⟩ ?_ ?_
 ·simp only [mcS, mcA, List.cons_append, List.nil_append]
  exact (le_renF (fun i => if i < 5 then i + 8 else if i = 6 then 13 else i) rfl (⟨nwL_fact 0 8 List.mem_cons_self rfl rfl rfl rfl rfl (of_decide_eq_true rfl), trivial⟩) (by simp [TmpsLe, look, SV.ren, SC.ren, SC.renL, ren1L, ren1, idσ, SV.okN, SC.okN, SC.okL, ok1L]) (by simp [OwnLe, BlkLeO, BlkLe, atN, look, Fm.get, idσ, SC.renL, SC.ren, SC.okL, SC.okN, renL_v, okL_v]) (by simp [ArrsLe, ArrLeO, atN, look, Fm.get, idσ, arrLe_of, arrLe_0]) rfl)
 rintro ⟨k, m', hk, may, up, eq⟩
 simp (maxSteps := 2000000) only [go_sem, ↓condS, ↓exitS, ↓gateS, ↓runOp, ↓gateD, ↓runD, ↓imp_ft, ↓imp_tf, ↓imp_tt, ↓imp_ff, ↓imp_fn, ↓imp_tn, ↓imp_fy, ↓imp_ty, ↓reduceIte, Nat.reduceLT, Nat.reduceLeDiff, Nat.reduceAdd, Nat.reduceSub, Nat.reduceMul, Nat.reduceEqDiff, reduceCtorEq, Int.reduceToNat, Int.reduceEq, Int.reduceBEq, Int.reduceBNe, Int.reduceLT, Int.reduceLE, Int.reduceNeg, Int.reduceAdd, Int.reduceSub, Int.reduceMul, Int.reduceGE, Int.reduceGT, Cl.enc, iv, endO, mcS, mcA, List.cons_append, List.nil_append]
 refine both (fun hlt => ?_) (fun hge => ?_)
 ·rw [decide_eq_true_eq] at hlt
  have hlt : k < xs.length := by omega
  repeat (with_reducible refine And.intro (by first | (simp only [maxLen]; omega) | omega | decide | (simp; done) | (simp [maxLen]; omega)) ?_)
  have hok' : MC.okR m' := up.okR (by omega)
  refine callF 5 (alT (allowM m' (xs.getD k cl0))) (mcR (allowM m' (xs.getD k cl0)).1) (mcR_id _ _) (fun E a w' hs => al_Z (xs.getD k cl0) (cont_at hs 0 rfl rfl rfl rfl rfl) hok' may (ho k hlt)) ?_
  simp (maxSteps := 2000000) only [go_sem, ↓condS, ↓exitS, ↓gateS, ↓runOp, ↓gateD, ↓runD, ↓imp_ft, ↓imp_tf, ↓imp_tt, ↓imp_ff, ↓imp_fn, ↓imp_tn, ↓imp_fy, ↓imp_ty, ↓reduceIte, Nat.reduceLT, Nat.reduceLeDiff, Nat.reduceAdd, Nat.reduceSub, Nat.reduceMul, Nat.reduceEqDiff, reduceCtorEq, Int.reduceToNat, Int.reduceEq, Int.reduceBEq, Int.reduceBNe, Int.reduceLT, Int.reduceLE, Int.reduceNeg, Int.reduceAdd, Int.reduceSub, Int.reduceMul, Int.reduceGE, Int.reduceGT, Cl.enc, iv, endO, alT, mcS, mcR, mcA]
  have hdr : xs.drop k = xs.getD k cl0 :: xs.drop (k + 1) := by rw [List.drop_eq_getElem_cons hlt]; simp [List.getD_eq_getElem?_getD, List.getElem?_eq_getElem hlt]
  rw [hdr] at eq
  have hup := allowM_upto (c := xs.getD k cl0) up
  have hmy := allowM_may (c := xs.getD k cl0) may
  simp only [playM] at eq
  generalize allowM m' (xs.getD k cl0) = p at eq hup hmy ⊢
  obtain ⟨m2, b⟩ := p
  simp only at eq hup hmy
  refine both (fun hb => ?_) (fun hb => ?_)
  ·have hb : b = false := by simpa using hb
   rw [hb, if_neg (by simp)] at eq
   have heq : playM m 0 xs = (m', (k : Int)) := by rw [eq]
   rw [heq]
   exact retB5 _ _ _ _ _ (rdN_nw 0 (L := mcA 0 m') (List.mem_cons_of_mem _ List.mem_cons_self) rfl) (rdN_nw 1 (L := mcA 0 m') (List.mem_cons_of_mem _ List.mem_cons_self) rfl) (rdN_nw 2 (L := mcA 0 m') (List.mem_cons_of_mem _ List.mem_cons_self) rfl) (rdN_nw 3 (L := mcA 0 m') (List.mem_cons_of_mem _ List.mem_cons_self) rfl) (rdN_nw 4 (L := mcA 0 m') (List.mem_cons_of_mem _ List.mem_cons_self) rfl) (plT_ok _ _ _ _ _ (m', (k : Int)))
  ·have hb : b = true := by simpa using hb
   rw [hb, if_pos rfl] at eq
   rw [wr_succ (by omega)]
   refine backI ⟨k + 1, m2, hlt, hmy, by rw [show N + (k + 1) = N + k + 1 by omega]; exact hup, by rw [eq]⟩ (by simp only; omega) ?_
   simp only [mcS, mcA, List.cons_append, List.nil_append]
   exact (le_renF (fun i => if i < 5 then i + 9 else i) rfl (⟨nwL_fact 0 9 List.mem_cons_self rfl rfl rfl rfl rfl (of_decide_eq_true rfl), trivial⟩) (by simp [TmpsLe, look, SV.ren, SC.ren, SC.renL, ren1L, ren1, idσ, SV.okN, SC.okN, SC.okL, ok1L]) (by simp [OwnLe, BlkLeO, BlkLe, atN, look, Fm.get, idσ, SC.renL, SC.ren, SC.okL, SC.okN, renL_v, okL_v]) (by simp [ArrsLe, ArrLeO, atN, look, Fm.get, idσ, arrLe_of, arrLe_0]) rfl)
 ·rw [decide_eq_false_iff_not] at hge
  have hk' : k = xs.length := by omega
  subst hk'
  rw [List.drop_length] at eq
  have heq : playM m 0 xs = (m', -1) := by rw [eq]; rfl
  rw [heq]
  exact retB5 _ _ _ _ _ (rdN_nw 0 (L := mcA 0 m') List.mem_cons_self rfl) (rdN_nw 1 (L := mcA 0 m') List.mem_cons_self rfl) (rdN_nw 2 (L := mcA 0 m') List.mem_cons_self rfl) (rdN_nw 3 (L := mcA 0 m') List.mem_cons_self rfl) (rdN_nw 4 (L := mcA 0 m') List.mem_cons_self rfl) (plT_ok _ _ _ _ _ (m', -1))
end Go.Proofs.Ytkjeedlkkpgopaa.Z
