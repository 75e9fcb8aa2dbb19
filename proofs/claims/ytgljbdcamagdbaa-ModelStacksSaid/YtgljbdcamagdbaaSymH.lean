/- A call in a symbolic run, by the callee's contract. No statement of the program. -/
import Derived.Test.YtgljbdcamagdbaaSymG
import Derived.Test.YtgljbdcamagdbaaStable
namespace Go.Proofs.Ytgljbdcamagdbaa
open Go.RowKit

section
variable {C : Ctx} {S : St} {f : Nat} {vs : List SV} {dst : Option Nat} {K : St → Prop}

/-- a call makes memory of its own at most, and answers by a pattern, whose new names lie from the state's next one on -/
def CR (C : Ctx) (f : Nat) (vs : List SV) (S : St) (tmpl : SV) (nx : Nat) (arrs' : List (Nat × ArrF)) : Prop :=
  ∀ E a w, Sat C.B C.w0 E S a w → Calls C.P f (vs.map (SV.den E)).toArray w fun e w' => ∃ χ : Nat → Value, (∀ i, (χ i).oneCell' = true) ∧ Below w.heap.size w w' ∧
    ∀ E2 : Env, Sat C.B C.w0 E2 S a w → (∀ i, i < nx → E2.χ (S.nid + i) = χ i) → e = .returned (tmpl.den E2) ∧
      ∀ w'', (∀ n, w.heap.size ≤ n → n < w'.heap.size → w''.heap[n]? = w'.heap[n]?) → ∀ i A, look arrs' i = some A → A.fr = true ∨ Holds E2 S w'' → ArrAt E2 w'' i A

theorem look_app {α : Type} : ∀ (l l' : List (Nat × α)) (i : Nat), look (l ++ l') i = (look l i).or (look l' i)
  | [], l', i => rfl
  | (k, v) :: l, l', i => by
    rw [List.cons_append, look_cons, look_cons]
    split
    · rfl
    · exact look_app l l' i

theorem look_app_or {α : Type} {l l' : List (Nat × α)} {i : Nat} {A : α} (h : look (l ++ l') i = some A) : look l i = some A ∨ look l' i = some A := by
  rw [look_app] at h
  cases hl : look l i with
  | none => rw [hl] at h; exact Or.inr h
  | some x => rw [hl] at h; exact Or.inl h

/-- the state behind a call -/
theorem sat_call {S' : St} {w' : World} {E2 : Env} {a : Act} {w : World} {tmpl : SV} {arrs' : List (Nat × ArrF)} (hs2 : Sat C.B C.w0 E2 S' a w) (hb : Below w.heap.size w w') (nid : Nat)
    (hf2 : ∀ w'', (∀ n, w.heap.size ≤ n → n < w'.heap.size → w''.heap[n]? = w'.heap[n]?) → ∀ i A, look arrs' i = some A → A.fr = true ∨ Holds E2 S' w'' → ArrAt E2 w'' i A) :
    Sat C.B C.w0 E2 ⟨S'.nt, S'.putT dst tmpl, S'.own, arrs' ++ S'.arrs, S'.facts, nid⟩ (a.put dst (tmpl.den E2)) w' := by
  obtain ⟨F, hF1, hF2, hF3, hF4⟩ := hs2.foot
  have hlt : ∀ id cs ty, look S'.own id = some (cs, ty) → E2.ρ id < w.heap.size := fun id cs ty h => (Array.getElem?_eq_some_iff.1 (hs2.own id cs ty h).2).1
  refine ⟨by rw [put_size']; exact hs2.size, by rw [put_defers']; exact hs2.defers, hs2.one, sat_put hs2 dst tmpl, ?_, hs2.hB, ?_, hs2.inj, fun n => F n ∨ (w.heap.size ≤ n ∧ n < w'.heap.size), ?_, ?_, ?_⟩
  · exact hs2.below.trans (hb.mono (Nat.le_trans hs2.hB hs2.below.size))
  · intro id cs ty h
    obtain ⟨g2, g3⟩ := hs2.own id cs ty h
    exact ⟨g2, (hb.block _ (hlt _ _ _ h)).trans g3⟩
  · rintro id ⟨cs, ty⟩ h (hf | ⟨hf, _⟩)
    · exact hF1 id _ h hf
    · have := hlt id cs ty h
      omega
  · rintro n (hf | ⟨_, hf⟩)
    · exact Nat.lt_of_lt_of_le (hF2 n hf) hb.size
    · exact hf
  · refine ⟨fun w'' hw'' => ?_, fun w'' hw'' i A hA hfr => ?_⟩
    · have hold := hF3 w'' (fun n hf => (hw'' n (Or.inl hf)).trans (hb.block n (hF2 n hf)))
      have hnw := hf2 w'' (fun n h1 h2 => hw'' n (Or.inr ⟨h1, h2⟩))
      refine ⟨fun i A hA => ?_, hold.2⟩
      rcases look_app_or hA with h | h
      · exact hnw i A h (Or.inr hold)
      · exact hold.1 i A h
    · have hBw : C.B ≤ w.heap.size := Nat.le_trans hs2.hB hs2.below.size
      rcases look_app_or hA with h | h
      · exact hf2 w'' (fun n h1 h2 => hw'' n (Or.inr ⟨h1, h2⟩) (by omega)) i A h (Or.inl hfr)
      · exact hF4 w'' (fun n hf hB => (hw'' n (Or.inl hf) hB).trans (hb.block n (hF2 n hf))) i A h hfr

theorem call_intro {tmpl : SV} {nx : Nat} {arrs' : List (Nat × ArrF)} (hrule : CR C f vs S tmpl nx arrs')
    (hk : K ⟨S.nt, S.putT dst tmpl, S.own, arrs' ++ S.arrs, S.facts, S.nid + nx⟩) : CallVC C f vs dst S K := by
  intro E a w hs
  refine (hrule E a w hs.sat).mono ?_
  rintro e w' ⟨χ, h1, hb, h2⟩
  let E' : Env := ⟨E.ρ, fun i => if i < S.nid then E.χ i else if i < S.nid + nx then χ (i - S.nid) else E.χ i⟩
  have hlow : ∀ i, i < S.nid → E'.ρ i = E.ρ i ∧ E'.χ i = E.χ i := fun i hi => ⟨rfl, by simp only [E']; rw [if_pos hi]⟩
  have hnew : ∀ i, i < nx → E'.χ (S.nid + i) = χ i := fun i hi => by
    simp only [E']
    rw [if_neg (by omega), if_pos (by omega), show S.nid + i - S.nid = i by omega]
  have hone : ∀ i, (E'.χ i).oneCell' = true := fun i => by
    simp only [E']
    split
    · exact hs.sat.one i
    · split
      · exact h1 _
      · exact hs.sat.one i
  have hs1 := hs E' ⟨hlow, fun _ => hone⟩
  refine ⟨tmpl.den E', (h2 E' hs1 hnew).1, E', _, ?_, hk⟩
  intro E2 hE2
  have hlow2 : ∀ i, i < S.nid → E2.ρ i = E.ρ i ∧ E2.χ i = E.χ i := fun i hi => by
    have := hE2.1 i (by simp only; omega)
    exact ⟨this.1.trans (hlow i hi).1, this.2.trans (hlow i hi).2⟩
  have hnew2 : ∀ i, i < nx → E2.χ (S.nid + i) = χ i := fun i hi => ((hE2.1 (S.nid + i) (by simp only; omega)).2).trans (hnew i hi)
  have hs2 := hs E2 ⟨hlow2, fun _ => hE2.2 hone⟩
  obtain ⟨e2, hf2⟩ := h2 E2 hs2 hnew2
  have ev : tmpl.den E' = tmpl.den E2 := by
    have := (h2 E' hs1 hnew).1
    rw [e2] at this
    simp only [Ending.returned.injEq] at this
    exact this.symm
  rw [ev]
  exact sat_call hs2 hb _ hf2

/-- a call whose answer is known -/
theorem cr_val (tmpl : SV) (v : Value) (hv : ∀ E, tmpl.den E = v)
    (hrule : ∀ E a w, Sat C.B C.w0 E S a w → Calls C.P f (vs.map (SV.den E)).toArray w fun e w' => e = .returned v ∧ Below w.heap.size w w') : CR C f vs S tmpl 0 [] := by
  intro E a w hs
  refine (hrule E a w hs).mono ?_
  rintro e w' ⟨rfl, hb⟩
  exact ⟨fun _ => .bool true, fun _ => rfl, hb, fun E2 _ _ => ⟨by rw [hv], fun w'' _ i A h => (by cases h)⟩⟩
theorem call_val (tmpl : SV) (v : Value) (hv : ∀ E, tmpl.den E = v)
    (hrule : ∀ E a w, Sat C.B C.w0 E S a w → Calls C.P f (vs.map (SV.den E)).toArray w fun e w' => e = .returned v ∧ Below w.heap.size w w')
    (hk : K ⟨S.nt, S.putT dst tmpl, S.own, S.arrs, S.facts, S.nid⟩) : CallVC C f vs dst S K := call_intro (cr_val tmpl v hv hrule) hk
end

/-! ### slices of integers, of pairs -/
def arrI (fr : Bool) (xs : List Int) : ArrF := ⟨xs.length, 1, fun k => [.int .i64 (xs.getD k 0)], fr⟩
def arrP (fr : Bool) (xs : List (Int × Int)) : ArrF := ⟨xs.length, 2, fun k => [.int .i64 (xs.getD k (0, 0)).1, .int .i64 (xs.getD k (0, 0)).2], fr⟩

theorem arrI_len (fr : Bool) (xs : List Int) : (arrI fr xs).len = xs.length := rfl
theorem arrI_size (fr : Bool) (xs : List Int) : (arrI fr xs).size = 1 := rfl
theorem arrI_at (fr : Bool) (xs : List Int) (k : Nat) : (arrI fr xs).at_ k = [.int .i64 (xs.getD k 0)] := rfl
theorem arrP_len (fr : Bool) (xs : List (Int × Int)) : (arrP fr xs).len = xs.length := rfl
theorem arrP_size (fr : Bool) (xs : List (Int × Int)) : (arrP fr xs).size = 2 := rfl
theorem arrP_at (fr : Bool) (xs : List (Int × Int)) (k : Nat) : (arrP fr xs).at_ k = [.int .i64 (xs.getD k (0, 0)).1, .int .i64 (xs.getD k (0, 0)).2] := rfl

theorem arrAt_gen {α : Type} {fr : Bool} {E : Env} {w : World} {i s : Nat} {enc : α → List Value} {xs : List α} {d : α} (hs : ∀ x, (enc x).length = s) (h : Arr w enc s (E.χ i) xs) : ArrAt E w i ⟨xs.length, s, fun k => enc (xs.getD k d), fr⟩ := by
  obtain ⟨ba, cap, hv, hl, hm, hc⟩ := h
  refine ⟨ba, cap, hv, hl, hm, ?_⟩
  rcases hc with h | ⟨b, off, hb, hc⟩
  · left; rw [h]; rfl
  · right
    refine ⟨b, off, hb, fun k hk => ⟨hs _, fun j u hu => ?_⟩⟩
    have hx : xs[k]? = some (xs.getD k d) := by rw [List.getD_eq_getElem?_getD, List.getElem?_eq_getElem hk]; rfl
    exact hc k _ hx j u hu
theorem arr_gen {α : Type} {fr : Bool} {E : Env} {w : World} {i s : Nat} {enc : α → List Value} {xs : List α} {d : α} (h : ArrAt E w i ⟨xs.length, s, fun k => enc (xs.getD k d), fr⟩) : Arr w enc s (E.χ i) xs := by
  obtain ⟨ba, cap, hv, hl, hm, hc⟩ := h
  refine ⟨ba, cap, hv, hl, hm, ?_⟩
  rcases hc with h | ⟨b, off, hb, hc⟩
  · left; exact List.eq_nil_of_length_eq_zero h
  · right
    refine ⟨b, off, hb, fun k x hx j u hu => ?_⟩
    have hk : k < xs.length := (List.getElem?_eq_some_iff.1 hx).1
    have he : xs.getD k d = x := by rw [List.getD_eq_getElem?_getD, hx]; rfl
    exact (hc k hk).2 j u (by simp only [he]; exact hu)

theorem arrAtI {fr : Bool} {E : Env} {w : World} {i : Nat} {xs : List Int} (h : Arr w eI 1 (E.χ i) xs) : ArrAt E w i (arrI fr xs) := arrAt_gen (enc := eI) (s := 1) (d := 0) (fun _ => rfl) h
theorem arrAtP {fr : Bool} {E : Env} {w : World} {i : Nat} {xs : List (Int × Int)} (h : Arr w eP 2 (E.χ i) xs) : ArrAt E w i (arrP fr xs) := arrAt_gen (enc := eP) (s := 2) (d := (0, 0)) (fun _ => rfl) h
theorem arrI_arr {fr : Bool} {E : Env} {w : World} {i : Nat} {xs : List Int} (h : ArrAt E w i (arrI fr xs)) : Arr w eI 1 (E.χ i) xs := arr_gen (enc := eI) (d := 0) h
theorem arrP_arr {fr : Bool} {E : Env} {w : World} {i : Nat} {xs : List (Int × Int)} (h : ArrAt E w i (arrP fr xs)) : Arr w eP 2 (E.χ i) xs := arr_gen (enc := eP) (d := (0, 0)) h

section
variable {B : Nat} {w0 : World} {E : Env} {S : St} {a : Act} {w : World}
theorem Sat.arr (hs : Sat B w0 E S a w) {i : Nat} {A : ArrF} (h : look S.arrs i = some A) : ArrAt E w i A := by
  obtain ⟨F, _, _, hF, _⟩ := hs.foot
  exact (hF w (fun _ _ => rfl)).1 i A h
theorem Sat.fact (hs : Sat B w0 E S a w) {φ : Env → World → Prop} (h : φ ∈ S.facts) : φ E w := by
  obtain ⟨F, _, _, hF, _⟩ := hs.foot
  exact (hF w (fun _ _ => rfl)).2 φ h
end

/-- in every world that the state tells of, the value reads so -/
def Rd (C : Ctx) (S : St) (c : SC) {α : Type} (enc : α → List Value) (s : Nat) (xs : List α) : Prop := ∀ E a w, Sat C.B C.w0 E S a w → Arr w enc s (c.den E) xs
section
variable {C : Ctx} {S : St}
theorem rd_nil {α : Type} {enc : α → List Value} {s : Nat} : Rd C S (.v (.slice none 0 0)) enc s ([] : List α) := fun _ _ w _ => Arr.nil w enc s
theorem rd_I {fr : Bool} {i : Nat} {xs : List Int} (h : look S.arrs i = some (arrI fr xs)) : Rd C S (.xv i) eI 1 xs := fun _ _ _ hs => arrI_arr (hs.arr h)
theorem rd_P {fr : Bool} {i : Nat} {xs : List (Int × Int)} (h : look S.arrs i = some (arrP fr xs)) : Rd C S (.xv i) eP 2 xs := fun _ _ _ hs => arrP_arr (hs.arr h)
theorem rd_ownI {id n ty : Nat} {cs : List SC} (xs : List Int) (h : look S.own id = some (cs, ty)) (hc : cs = xs.map fun x => SC.v (.int .i64 x)) (hn : n = xs.length) (hm : n ≤ maxLen) : Rd C S (.sl id 0 n n) eI 1 xs := by
  intro E a w hs
  subst hn
  refine ⟨_, _, rfl, Nat.le_refl _, hm, Or.inr ⟨E.ρ id, 0, rfl, fun k x hk j u hu => ?_⟩⟩
  have hj : j = 0 := by have := (List.getElem?_eq_some_iff.1 hu).1; simpa [eI] using this
  subst hj
  simp only [eI, List.getElem?_cons_zero, Option.some.injEq] at hu
  subst hu
  rw [Nat.zero_add, Nat.mul_one, Nat.add_zero, own_cell hs h, hc]
  simp [hk, SC.den]
end

/-! ### how a function is entered -/
def enumT : Nat → List SV → List (Nat × SV)
  | _, [] => []
  | i, v :: r => (i, v) :: enumT (i + 1) r

theorem look_enumT : ∀ (vs : List SV) (i t : Nat) (v : SV), look (enumT i vs) t = some v → ∃ j, t = i + j ∧ vs[j]? = some v
  | [], i, t, v, h => by cases h
  | x :: r, i, t, v, h => by
    simp only [enumT, look_cons] at h
    split at h
    · next e =>
      subst e
      simp only [Option.some.injEq] at h
      subst h
      exact ⟨0, rfl, rfl⟩
    · obtain ⟨j, e, hj⟩ := look_enumT r (i + 1) t v h
      exact ⟨j + 1, by omega, hj⟩

theorem calls_sym {C : Ctx} {f : Nat} {fn : Func} {x : Code} {c : IR} {w : World} (n : Nat) (vs : List SV) (E : Env) (arrs : List (Nat × ArrF)) (facts : List (Env → World → Prop)) (nid nt : Nat) (args : Array Value)
    (hT : C.tab.Ok C.P) (hf : C.P.funcs[f]? = some fn) (hb : fn.body = some x) (hc : compC C.tab x = some c.strip) (hr : compR C.tab.T fn.results.toList = some C.rs) (hn : fn.ntmps = nt)
    (hB : C.B = w.heap.size) (hw : C.w0 = w) (hone : ∀ i, (E.χ i).oneCell' = true)
    (hargs : ∀ E' : Env, (∀ i, i < nid → E'.χ i = E.χ i) → (vs.map (SV.den E')).toArray = args) (hnt : vs.length ≤ nt)
    (hold : ∀ i A, look arrs i = some A → A.fr = false)
    (hfacts : ∀ E' : Env, (∀ i, i < nid → E'.χ i = E.χ i) → ∀ w' : World, (∀ n, n < w.heap.size → w'.heap[n]? = w.heap[n]?) → (∀ i A, look arrs i = some A → ArrAt E' w' i A) ∧ ∀ φ ∈ facts, φ E' w')
    (hex : exec C n [.code c] ⟨nt, enumT 0 vs, [], arrs, facts, nid⟩) : Calls C.P f args w C.R := by
  subst hn
  have e0 := hargs E (fun _ _ => rfl)
  have el : args = (vs.map (SV.den E)).toArray := e0.symm
  rw [el]
  refine calls_of_exec (E := E) n hT hf hb hc hr ?_ hex
  intro E' hE'
  have hag : ∀ i, i < nid → E'.χ i = E.χ i := fun i hi => (hE'.1 i hi).2
  have e1 := hargs E' hag
  refine ⟨?_, rfl, hE'.2 hone, ?_, ?_, ?_, ?_, ?_, fun n => n < w.heap.size, ?_, fun _ h => h, ?_⟩
  · simp
    omega
  · intro t v ht
    obtain ⟨j, rfl, hj⟩ := look_enumT vs 0 t v ht
    have hjl : j < vs.length := (List.getElem?_eq_some_iff.1 hj).1
    refine ⟨by simp only; omega, ?_⟩
    have e2 : vs.map (SV.den E) = vs.map (SV.den E') := by
      have := e0.trans e1.symm
      simpa using this
    simp only [e2, Nat.zero_add, Array.getD_eq_getD_getElem?]
    rw [Array.getElem?_append_left (by simpa using hjl)]
    simp [hj]
  · rw [hB, hw]; exact Below.refl _ _
  · rw [hB, hw]; exact Nat.le_refl _
  · intro id cs ty h; cases h
  · intro id id' o o' h; cases h
  · intro id o h; cases h
  · exact ⟨fun w' hw' => hfacts E' hag w' hw', fun w' _ i A hA hfr => by rw [hold i A hA] at hfr; cases hfr⟩

def mkC (P : Program) (w : World) (rs : List RS) (R : Ending → World → Prop) : Ctx := ⟨P, mkTab P, w.heap.size, w, rs, R⟩
theorem mkC_rs (P : Program) (w : World) (rs : List RS) (R : Ending → World → Prop) : (mkC P w rs R).rs = rs := rfl
/-- nothing but a bool -/
def RetT (b : Bool) (w : World) (e : Ending) (w' : World) : Prop := e = .returned (.bool b) ∧ Below w.heap.size w w'
theorem retT {P : Program} {w : World} {rs : List RS} {b : Bool} {v : SV} {S : St} (hv : ∀ E, v.den E = .bool b) : RetVC (mkC P w rs (RetT b w)) v S := by
  intro E a w' hs
  exact ⟨by rw [hv], hs.sat.below⟩
end Go.Proofs.Ytgljbdcamagdbaa
