/- The contracts of layer 11, as a symbolic run uses them. No statement of the program. -/
import Derived.Test.YtgljbdcamagdbaaSymK
import Derived.Test.YtgljbdcamagdbaaMDo2
import Derived.Test.YtgljbdcamagdbaaMays
import Derived.Test.YtgljbdcamagdbaaOpenC
namespace Go.Proofs.Ytgljbdcamagdbaa
open Go.RowKit

/-- the five lists of contents -/
def ContS (C : Ctx) (S : St) (l : List SC) (m : MC) : Prop := ∃ a b c d e, l = [a, b, c, d, e] ∧ Rd C S a eI 1 m.cell ∧ Rd C S b eI 1 m.stack ∧ Rd C S c eI 1 m.queue ∧ Rd C S d eI 1 m.set ∧ Rd C S e eP 2 m.table
def arrsC (fr : Bool) (i : Nat) (m : MC) : List (Nat × ArrF) := [(i, arrI fr m.cell), (i + 1, arrI fr m.stack), (i + 2, arrI fr m.queue), (i + 3, arrI fr m.set), (i + 4, arrP fr m.table)]
def xs5 (i : Nat) : List SC := [.xv i, .xv (i + 1), .xv (i + 2), .xv (i + 3), .xv (i + 4)]

theorem look_arrsC {fr : Bool} {E : Env} {w : World} {i : Nat} {m : MC} (h0 : Arr w eI 1 (E.χ i) m.cell) (h1 : Arr w eI 1 (E.χ (i + 1)) m.stack) (h2 : Arr w eI 1 (E.χ (i + 2)) m.queue) (h3 : Arr w eI 1 (E.χ (i + 3)) m.set) (h4 : Arr w eP 2 (E.χ (i + 4)) m.table) :
    ∀ j A, look (arrsC fr i m) j = some A → ArrAt E w j A := by
  intro j A h
  simp only [arrsC, look_cons] at h
  split at h
  · next e => subst e; cases h; exact arrAtI h0
  split at h
  · next e => subst e; cases h; exact arrAtI h1
  split at h
  · next e => subst e; cases h; exact arrAtI h2
  split at h
  · next e => subst e; cases h; exact arrAtI h3
  split at h
  · next e => subst e; cases h; exact arrAtP h4
  · cases h

section
variable {C : Ctx} {S : St} {dst : Option Nat} {K : St → Prop}

theorem ContS.cont {l : List SC} {m : MC} (h : ContS C S l m) {E : Env} {a : Act} {w : World} (hs : Sat C.B C.w0 E S a w) : Cont w (.agg (l.map (SC.den E)).toArray) m := by
  obtain ⟨x0, x1, x2, x3, x4, rfl, h0, h1, h2, h3, h4⟩ := h
  exact ⟨_, _, _, _, _, rfl, h0 E a w hs, h1 E a w hs, h2 E a w hs, h3 E a w hs, h4 E a w hs⟩

theorem contS_x {fr : Bool} {i : Nat} {m : MC} (h0 : look S.arrs i = some (arrI fr m.cell)) (h1 : look S.arrs (i + 1) = some (arrI fr m.stack)) (h2 : look S.arrs (i + 2) = some (arrI fr m.queue)) (h3 : look S.arrs (i + 3) = some (arrI fr m.set)) (h4 : look S.arrs (i + 4) = some (arrP fr m.table)) :
    ContS C S [.xv i, .xv (i + 1), .xv (i + 2), .xv (i + 3), .xv (i + 4)] m := ⟨_, _, _, _, _, rfl, rd_I h0, rd_I h1, rd_I h2, rd_I h3, rd_P h4⟩
theorem contS_z : ContS C S [.v (.slice none 0 0), .v (.slice none 0 0), .v (.slice none 0 0), .v (.slice none 0 0), .v (.slice none 0 0)] ⟨[], [], [], [], []⟩ := ⟨_, _, _, _, _, rfl, rd_nil, rd_nil, rd_nil, rd_nil, rd_nil⟩

theorem slice_one {α : Type} {w : World} {base : Nat} {e : TypeId} {enc : α → List Value} {size : Nat} {v : Value} {xs : List α} (h : OwnE w base e enc size v xs) : v.oneCell' = true := by
  obtain ⟨_, _, rfl⟩ := h.form
  rfl

/-- what is own from a block on stays so while these blocks stay -/
theorem OwnE.stays {α : Type} {w w' : World} {base : Nat} {e : TypeId} {enc : α → List Value} {size : Nat} {v : Value} {xs : List α} (h : OwnE w base e enc size v xs) (hb : ∀ n, base ≤ n → n < w.heap.size → w'.heap[n]? = w.heap[n]?) : OwnE w' base e enc size v xs := by
  rcases h with h | ⟨h1, h⟩
  · exact Or.inl h
  · refine Or.inr ⟨h1, ?_⟩
    rcases h with h | ⟨g, cap, cur, r1, r2, r3, r4⟩
    · exact Or.inl h
    · exact Or.inr ⟨g, cap, cur, r1, r2, (hb g r2 (Array.getElem?_eq_some_iff.1 r3).1).trans r3, r4⟩

/-- contents of the callee's own, as a call's answer brings them -/
theorem ownD_arrs {fr : Bool} {w' : World} {base : Nat} {a b c d e : Value} {m : MC} (h : OwnD w' base (.agg #[a, b, c, d, e]) m) {E : Env} {i : Nat} (h0 : E.χ i = a) (h1 : E.χ (i + 1) = b) (h2 : E.χ (i + 2) = c) (h3 : E.χ (i + 3) = d) (h4 : E.χ (i + 4) = e)
    {w'' : World} (hb : ∀ n, base ≤ n → n < w'.heap.size → w''.heap[n]? = w'.heap[n]?) : ∀ j A, look (arrsC fr i m) j = some A → ArrAt E w'' j A := by
  obtain ⟨_, _, _, _, _, hv, g0, g1, g2, g3, g4⟩ := h
  cases hv
  subst h0 h1 h2 h3 h4
  exact look_arrsC ((g0.stays hb).arr eI_ok) ((g1.stays hb).arr eI_ok) ((g2.stays hb).arr eI_ok) ((g3.stays hb).arr eI_ok) ((g4.stays hb).arr eP_ok)

def five (a b c d e : Value) (i : Nat) : Value := match i with | 0 => a | 1 => b | 2 => c | 3 => d | _ => e
theorem five_one {w' : World} {base : Nat} {a b c d e : Value} {m : MC} (h : OwnD w' base (.agg #[a, b, c, d, e]) m) : ∀ i, (five a b c d e i).oneCell' = true := by
  obtain ⟨_, _, _, _, _, hv, g0, g1, g2, g3, g4⟩ := h
  cases hv
  intro i
  unfold five
  split
  · exact slice_one g0
  · exact slice_one g1
  · exact slice_one g2
  · exact slice_one g3
  · exact slice_one g4

/-- model.Do, of contents that may be and an op with an object -/
theorem do_cr {l : List SC} {m : MC} {op arg data : Int} (hP : C.P = Try.prog) (h : ContS C S l m) (hok : m.ok 1) (hm : mayB m = true) (ho : objOf op ≠ 0) (d : MC × Int × Int) (hd : doM m op arg data = d) :
    CR C 25 [.agg l, .c (.v (.int .i64 op)), .c (.v (.int .i64 arg)), .c (.v (.int .i64 data))] S (.tup [(true, xs5 S.nid), (true, [.v (.int .i64 d.2.1), .v (.int .i64 d.2.2)]), (false, [.v (.int .i64 0)])]) 5 (arrsC true S.nid d.1) := by
  subst hd
  intro E a w hs
  rw [hP]
  refine (mDo op arg data (h.cont hs) hok hm ho).mono ?_
  rintro e w' ⟨v', rfl, hown, hb⟩
  have hown0 := hown
  obtain ⟨x0, x1, x2, x3, x4, rfl, _⟩ := hown
  refine ⟨five x0 x1 x2 x3 x4, five_one hown0, hb, fun E2 _ hn => ?_⟩
  have e0 := hn 0 (by omega)
  have e1 := hn 1 (by omega)
  have e2 := hn 2 (by omega)
  have e3 := hn 3 (by omega)
  have e4 := hn 4 (by omega)
  rw [Nat.add_zero] at e0
  refine ⟨?_, fun w'' hw'' i A hA _ => ownD_arrs hown0 e0 e1 e2 e3 e4 hw'' i A hA⟩
  simp only [SV.den, List.map_cons, List.map_nil, den1, xs5, SC.den, e0, e1, e2, e3, e4, five]
theorem do_rule (d : MC × Int × Int) {l : List SC} {m : MC} {op arg data : Int} (hP : C.P = Try.prog) (h : ContS C S l m) (hok : m.ok 1) (hm : mayB m = true) (ho : objOf op ≠ 0) (hd : doM m op arg data = d)
    (hk : K ⟨S.nt, S.putT dst (.tup [(true, xs5 S.nid), (true, [.v (.int .i64 d.2.1), .v (.int .i64 d.2.2)]), (false, [.v (.int .i64 0)])]), S.own, arrsC true S.nid d.1 ++ S.arrs, S.facts, S.nid + 5⟩) :
    CallVC C 25 [.agg l, .c (.v (.int .i64 op)), .c (.v (.int .i64 arg)), .c (.v (.int .i64 data))] dst S K := call_intro (do_cr hP h hok hm ho d hd) hk

theorem same_cr {l l' : List SC} {m m' : MC} (hP : C.P = Try.prog) (h : ContS C S l m) (h' : ContS C S l' m') : CR C 19 [.agg l, .agg l'] S (.c (.bo (decide (m = m')))) 0 [] :=
  cr_val _ (.bool (decide (m = m'))) (fun _ => rfl) (fun E a w hs => by rw [hP]; exact mSame (h.cont hs) (h'.cont hs))
theorem rsame_cr {l l' : List SC} {m m' : MC} (hP : C.P = Try.prog) (h : ContS C S l m) (h' : ContS C S l' m') : CR C 21 [.agg l, .agg l'] S (.c (.bo (decide (m = m')))) 0 [] :=
  cr_val _ (.bool (decide (m = m'))) (fun _ => rfl) (fun E a w hs => by rw [hP]; exact rSame (h.cont hs) (h'.cont hs))
theorem may_cr {l : List SC} {m : MC} (hP : C.P = Try.prog) (h : ContS C S l m) : CR C 18 [.agg l] S (.c (.bo (mayB m))) 0 [] :=
  cr_val _ (.bool (mayB m)) (fun _ => rfl) (fun E a w hs => by rw [hP]; exact mMay (h.cont hs))
theorem rmay_cr {l : List SC} {m : MC} (hP : C.P = Try.prog) (h : ContS C S l m) : CR C 20 [.agg l] S (.c (.bo (mayB m))) 0 [] :=
  cr_val _ (.bool (mayB m)) (fun _ => rfl) (fun E a w hs => by rw [hP]; exact rMay (h.cont hs))
theorem obj_cr {op : Int} (hP : C.P = Try.prog) : CR C 16 [.c (.v (.int .i64 op))] S (.c (.v (.int .i64 (objOf op)))) 0 [] :=
  cr_val _ (.int .i64 (objOf op)) (fun _ => rfl) (fun E a w hs => by
    rw [hP]
    refine (mObject op w).mono ?_
    rintro e w' ⟨rfl, rfl⟩
    exact ⟨rfl, Below.refl _ _⟩)
theorem robj_cr {op : Int} (hP : C.P = Try.prog) : CR C 17 [.c (.v (.int .i64 op))] S (.c (.v (.int .i64 (objOf op)))) 0 [] :=
  cr_val _ (.int .i64 (objOf op)) (fun _ => rfl) (fun E a w hs => by
    rw [hP]
    refine (rObject op w).mono ?_
    rintro e w' ⟨rfl, rfl⟩
    exact ⟨rfl, Below.refl _ _⟩)
theorem same_rule {l l' : List SC} {m m' : MC} (hP : C.P = Try.prog) (h : ContS C S l m) (h' : ContS C S l' m')
    (hk : K ⟨S.nt, S.putT dst (.c (.bo (decide (m = m')))), S.own, S.arrs, S.facts, S.nid⟩) :
    CallVC C 19 [.agg l, .agg l'] dst S K := call_intro (same_cr hP h h') hk
theorem rsame_rule {l l' : List SC} {m m' : MC} (hP : C.P = Try.prog) (h : ContS C S l m) (h' : ContS C S l' m')
    (hk : K ⟨S.nt, S.putT dst (.c (.bo (decide (m = m')))), S.own, S.arrs, S.facts, S.nid⟩) :
    CallVC C 21 [.agg l, .agg l'] dst S K := call_intro (rsame_cr hP h h') hk
theorem may_rule {l : List SC} {m : MC} (hP : C.P = Try.prog) (h : ContS C S l m)
    (hk : K ⟨S.nt, S.putT dst (.c (.bo (mayB m))), S.own, S.arrs, S.facts, S.nid⟩) : CallVC C 18 [.agg l] dst S K := call_intro (may_cr hP h) hk
theorem rmay_rule {l : List SC} {m : MC} (hP : C.P = Try.prog) (h : ContS C S l m)
    (hk : K ⟨S.nt, S.putT dst (.c (.bo (mayB m))), S.own, S.arrs, S.facts, S.nid⟩) : CallVC C 20 [.agg l] dst S K := call_intro (rmay_cr hP h) hk

/-- contents in memory that is newer than the call -/
def FreshC (w w' : World) (v : Value) (m : MC) : Prop := ∀ w'', (∀ n, w.heap.size ≤ n → n < w'.heap.size → w''.heap[n]? = w'.heap[n]?) → Cont w'' v m
def RetN (w : World) (m : MC) (e : Ending) (w' : World) : Prop := ∃ v, e = .returned v ∧ Below w.heap.size w w' ∧ FreshC w w' v m

theorem freshC_own {w w' : World} {v : Value} {m : MC} (h : OwnD w' w.heap.size v m) : FreshC w w' v m := by
  obtain ⟨_, _, _, _, _, rfl, g0, g1, g2, g3, g4⟩ := h
  intro w'' hb
  exact ⟨_, _, _, _, _, rfl, (g0.stays hb).arr eI_ok, (g1.stays hb).arr eI_ok, (g2.stays hb).arr eI_ok, (g3.stays hb).arr eI_ok, (g4.stays hb).arr eP_ok⟩
theorem ownC_D {w : World} {base : Nat} {v : Value} {m : MC} (h : OwnC w base v m) : OwnD w base v m := by
  obtain ⟨a, b, c, d, e, rfl, h1, h2, h3, h4, h5, _⟩ := h
  exact ⟨a, b, c, d, e, rfl, Or.inr h1, Or.inr h2, Or.inr h3, Or.inr h4, Or.inr h5⟩

theorem arr_one' {α : Type} {w : World} {enc : α → List Value} {s : Nat} {v : Value} {xs : List α} (h : Arr w enc s v xs) : v.oneCell' = true := by
  obtain ⟨_, _, rfl, _⟩ := h
  rfl

theorem freshC_arrs {fr : Bool} {w w' : World} {a b c d e : Value} {m : MC} (h : FreshC w w' (.agg #[a, b, c, d, e]) m) {E : Env} {i : Nat} (h0 : E.χ i = a) (h1 : E.χ (i + 1) = b) (h2 : E.χ (i + 2) = c) (h3 : E.χ (i + 3) = d) (h4 : E.χ (i + 4) = e)
    {w'' : World} (hb : ∀ n, w.heap.size ≤ n → n < w'.heap.size → w''.heap[n]? = w'.heap[n]?) : ∀ j A, look (arrsC fr i m) j = some A → ArrAt E w'' j A := by
  obtain ⟨_, _, _, _, _, hv, g0, g1, g2, g3, g4⟩ := h w'' hb
  cases hv
  subst h0 h1 h2 h3 h4
  exact look_arrsC g0 g1 g2 g3 g4

theorem cont_one5 {w : World} {a b c d e : Value} {m : MC} (h : Cont w (.agg #[a, b, c, d, e]) m) : ∀ i, (five a b c d e i).oneCell' = true := by
  obtain ⟨_, _, _, _, _, hv, g0, g1, g2, g3, g4⟩ := h
  cases hv
  intro i
  unfold five
  split
  · exact arr_one' g0
  · exact arr_one' g1
  · exact arr_one' g2
  · exact arr_one' g3
  · exact arr_one' g4

/-- a call that answers contents in new memory -/
theorem new_cr {f : Nat} {vs : List SV} (m : MC) (h : ∀ E a w, Sat C.B C.w0 E S a w → Calls C.P f (vs.map (SV.den E)).toArray w (RetN w m)) : CR C f vs S (.agg (xs5 S.nid)) 5 (arrsC true S.nid m) := by
  intro E a w hs
  refine (h E a w hs).mono ?_
  rintro e w' ⟨v, rfl, hb, hf⟩
  have hc := hf w' (fun _ _ _ => rfl)
  have hc0 := hc
  obtain ⟨x0, x1, x2, x3, x4, rfl, _⟩ := hc
  refine ⟨five x0 x1 x2 x3 x4, cont_one5 hc0, hb, fun E2 _ hn => ?_⟩
  have e0 := hn 0 (by omega)
  have e1 := hn 1 (by omega)
  have e2 := hn 2 (by omega)
  have e3 := hn 3 (by omega)
  have e4 := hn 4 (by omega)
  rw [Nat.add_zero] at e0
  refine ⟨?_, fun w'' hw'' i A hA _ => freshC_arrs hf e0 e1 e2 e3 e4 hw'' i A hA⟩
  simp only [SV.den, List.map_cons, List.map_nil, xs5, SC.den, e0, e1, e2, e3, e4, five]
theorem keys_arrsC {fr : Bool} {i : Nat} {m : MC} : ∀ k ∈ keysA (arrsC fr i m), i ≤ k ∧ k < i + 5 := by
  intro k hk
  simp only [arrsC, keysA, List.mem_cons, List.not_mem_nil, or_false] at hk
  omega
theorem new_rule {f : Nat} {vs : List SV} (m : MC) (h : ∀ E a w, Sat C.B C.w0 E S a w → Calls C.P f (vs.map (SV.den E)).toArray w (RetN w m))
    (hk : K ⟨S.nt, S.putT dst (.agg (xs5 S.nid)), S.own, arrsC true S.nid m ++ S.arrs, S.facts, S.nid + 5⟩) : CallVC C f vs dst S K := call_intro (new_cr m h) hk

theorem rcopy_cr {l : List SC} {m : MC} (hP : C.P = Try.prog) (h : ContS C S l m) (hok : m.ok 0) : CR C 22 [.agg l] S (.agg (xs5 S.nid)) 5 (arrsC true S.nid m) :=
  new_cr m (fun E a w hs => by
    rw [hP]
    exact (rCopy (h.cont hs) hok).mono fun e w' ⟨v, he, ho, hb⟩ => ⟨v, he, hb, freshC_own (ownC_D ho)⟩)
theorem rcopy_rule {l : List SC} {m : MC} (hP : C.P = Try.prog) (h : ContS C S l m) (hok : m.ok 0)
    (hk : K ⟨S.nt, S.putT dst (.agg (xs5 S.nid)), S.own, arrsC true S.nid m ++ S.arrs, S.facts, S.nid + 5⟩) : CallVC C 22 [.agg l] dst S K :=
  new_rule m (fun E a w hs => by
    rw [hP]
    exact (rCopy (h.cont hs) hok).mono fun e w' ⟨v, he, ho, hb⟩ => ⟨v, he, hb, freshC_own (ownC_D ho)⟩) hk

/-- the end: contents in new memory -/
theorem retN_x {P : Program} {w : World} {rs : List RS} {i : Nat} {m : MC} (h0 : look S.arrs i = some (arrI true m.cell)) (h1 : look S.arrs (i + 1) = some (arrI true m.stack)) (h2 : look S.arrs (i + 2) = some (arrI true m.queue)) (h3 : look S.arrs (i + 3) = some (arrI true m.set)) (h4 : look S.arrs (i + 4) = some (arrP true m.table)) :
    RetVC (mkC P w rs (RetN w m)) (.agg [.xv i, .xv (i + 1), .xv (i + 2), .xv (i + 3), .xv (i + 4)]) S := by
  intro E a w' hs
  obtain ⟨F, _, hF2, _, hF⟩ := hs.sat.foot
  refine ⟨_, rfl, hs.sat.below, fun w'' hw'' => ?_⟩
  have hN := hF w'' (fun n hf hB => hw'' n hB (hF2 n hf))
  exact ⟨_, _, _, _, _, rfl, arrI_arr (hN _ _ h0 rfl), arrI_arr (hN _ _ h1 rfl), arrI_arr (hN _ _ h2 rfl), arrI_arr (hN _ _ h3 rfl), arrP_arr (hN _ _ h4 rfl)⟩
theorem retN_z {P : Program} {w : World} {rs : List RS} : RetVC (mkC P w rs (RetN w ⟨[], [], [], [], []⟩)) (.agg [.v (.slice none 0 0), .v (.slice none 0 0), .v (.slice none 0 0), .v (.slice none 0 0), .v (.slice none 0 0)]) S := by
  intro E a w' hs
  exact ⟨_, rfl, hs.sat.below, fun w'' _ => ⟨_, _, _, _, _, rfl, Arr.nil _ _ _, Arr.nil _ _ _, Arr.nil _ _ _, Arr.nil _ _ _, Arr.nil _ _ _⟩⟩

end

/-- how a function is entered whose first argument is contents -/
theorem enter_c {w : World} {a b c d e : Value} {m : MC} (h : Cont w (.agg #[a, b, c, d, e]) m) (E' : Env) (hE : ∀ i, i < 5 → E'.χ i = (⟨fun _ => 0, five a b c d e⟩ : Env).χ i) (w' : World) (hw : ∀ n, n < w.heap.size → w'.heap[n]? = w.heap[n]?) :
    (∀ i A, look (arrsC false 0 m) i = some A → ArrAt E' w' i A) ∧ ∀ φ ∈ ([] : List (Env → World → Prop)), φ E' w' := by
  have hk : ∀ p u, w.cell? p = some u → w'.cell? p = some u := by
    intro p u hu
    have hlt := World.block_lt_of_cell? w p hu
    have := hw p.block hlt
    unfold World.cell? at hu ⊢
    rw [this]
    exact hu
  obtain ⟨_, _, _, _, _, hv, g0, g1, g2, g3, g4⟩ := h
  cases hv
  have e0 := hE 0 (by omega)
  have e1 := hE 1 (by omega)
  have e2 := hE 2 (by omega)
  have e3 := hE 3 (by omega)
  have e4 := hE 4 (by omega)
  simp only [five] at e0 e1 e2 e3 e4
  refine ⟨look_arrsC (by rw [e0]; exact g0.keep hk) (by rw [e1]; exact g1.keep hk) (by rw [e2]; exact g2.keep hk) (by rw [e3]; exact g3.keep hk) (by rw [e4]; exact g4.keep hk), fun φ hφ => (by cases hφ)⟩
theorem enter_old {m : MC} : ∀ i A, look (arrsC false 0 m) i = some A → A.fr = false := by
  intro i A h
  simp only [arrsC, look_cons] at h
  (repeat' split at h) <;> first | (cases h; rfl) | cases h
theorem five_den {a b c d e : Value} (E' : Env) (hE : ∀ i, i < 5 → E'.χ i = (⟨fun _ => 0, five a b c d e⟩ : Env).χ i) : (SV.agg (xs5 0)).den E' = .agg #[a, b, c, d, e] := by
  have e0 := hE 0 (by omega)
  have e1 := hE 1 (by omega)
  have e2 := hE 2 (by omega)
  have e3 := hE 3 (by omega)
  have e4 := hE 4 (by omega)
  simp only [five] at e0 e1 e2 e3 e4
  simp only [SV.den, List.map_cons, List.map_nil, xs5, SC.den, e0, e1, e2, e3, e4]
end Go.Proofs.Ytgljbdcamagdbaa
