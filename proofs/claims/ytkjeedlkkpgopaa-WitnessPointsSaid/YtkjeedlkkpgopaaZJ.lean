
/- The table of a program's types and functions; calls by contract; how a function is entered and left. No statement of the program. -/
import Derived.Test.YtkjeedlkkpgopaaZI
namespace Go.Proofs.Ytkjeedlkkpgopaa.Z
open Go Go.RowKit
set_option linter.unusedSimpArgs false
set_option linter.unusedVariables false

section
variable (P : Program)

def flatOf (t : Nat) (d : TypeDesc) : List Bool := if isAggD d = true ∧ P.eqGuardType P.depth t = false then (flatTy P 8 t).getD [] else []

/-- the types in A are arrays that are told element by element -/
def tiOf (A : List Nat) (t : Nat) : Option (Nat × TI) :=
  match P.underlying t, P.info? t with
  | some d, some i => match i.zero with
    | some z => some (t, ⟨d, z, i.size, i.bytes, flatOf P t d, memB A t⟩)
    | none => none
  | _, _ => none

def fnOkB (f : Nat) : Bool := match P.funcs[f]? with
  | some fn => !(fn.name == "runtime.NumGoroutine") && !fn.body.isNone
  | none => false

def mkTab (A : List Nat) : Tab := ⟨(List.range P.types.size).filterMap (tiOf P A), (List.range P.funcs.size).filter (fnOkB P)⟩

theorem fnOk_of {f : Nat} (h : fnOkB P f = true) : FnOk P f := by
  unfold fnOkB at h
  split at h
  · next fn hfn =>
    simp only [Bool.and_eq_true, Bool.not_eq_true'] at h
    exact ⟨fn, hfn, h.1, h.2⟩
  · cases h

theorem look_filterMap {f : Nat → Option (Nat × TI)} (hf : ∀ t p, f t = some p → p.1 = t) : ∀ (l : List Nat) (t : Nat) (ti : TI), look (l.filterMap f) t = some ti → f t = some (t, ti)
  | [], t, ti, h => by cases h
  | x :: l, t, ti, h => by
    rw [List.filterMap_cons] at h
    split at h
    · exact look_filterMap hf l t ti h
    · next p hp =>
      obtain ⟨k, v⟩ := p
      have := hf x _ hp
      simp only at this
      subst this
      rw [look_cons] at h
      split at h
      · next e =>
        subst e
        simp only [Option.some.injEq] at h
        subst h
        exact hp
      · exact look_filterMap hf l t ti h

theorem mkTab_ok (A : List Nat) : (mkTab P A).Ok P := by
  refine ⟨?_, ?_⟩
  · intro t ti h
    have h1 := look_filterMap (f := tiOf P A) (fun t p hp => by
      unfold tiOf at hp
      split at hp
      · split at hp
        · simp only [Option.some.injEq] at hp
          subst hp
          rfl
        · cases hp
      · cases hp) _ t ti h
    unfold tiOf at h1
    split at h1
    · next d i hu hi =>
      split at h1
      · next z hz =>
        simp only [Option.some.injEq, Prod.mk.injEq, true_and] at h1
        subst h1
        refine ⟨hu, by simp [hi, hz], ?_⟩
        intro hfl
        simp only at hfl ⊢
        unfold flatOf at hfl ⊢
        split at hfl
        · next hc =>
          rw [if_pos hc]
          cases hk : flatTy P 8 t with
          | none => rw [hk] at hfl; exact absurd rfl hfl
          | some ks => exact ⟨hc.2, rfl⟩
        · exact absurd rfl hfl
      · cases h1
    · cases h1
  · intro f hf
    exact fnOk_of P (List.mem_filter.1 hf).2
end

/-! ### calls by contract -/
section
variable {C : Ctx} {S : St} {f : Nat} {vs : List SV} {dst : Option Nat} {K : St → Prop}

/-- a call answers by a pattern, and leaves entries; ι: what the pattern hangs on -/
def CR (C : Ctx) (f : Nat) (vs : List SV) (S : St) (ks : List Nat) (tmpl : SV) (nx : Nat) (eff : Own) (arrs' : List (Nat × Fm ArrF)) : Prop :=
  ∀ E a w, Sat C.B C.W C.w0 E S a w → Calls C.P f (vs.map (SV.den E)).toArray w fun e w' => ∃ v, e = .returned v ∧ After C.B C.W C.w0 E ks S a w tmpl nx eff arrs' v w'
def CRX (C : Ctx) (f : Nat) (vs : List SV) (S : St) (ks : List Nat) {ι : Type} (q : ι → Prop) (tmpl : ι → SV) (nx : ι → Nat) (eff : ι → Own) (arrs' : ι → List (Nat × Fm ArrF)) : Prop :=
  ∀ E a w, Sat C.B C.W C.w0 E S a w → Calls C.P f (vs.map (SV.den E)).toArray w fun e w' => ∃ v, e = .returned v ∧ ∃ i, q i ∧ After C.B C.W C.w0 E ks S a w (tmpl i) (nx i) (eff i) (arrs' i) v w'

/-- the state behind a call -/
def St.call (S : St) (dst : Option Nat) (tmpl : SV) (nx : Nat) (eff : Own) (arrs' : List (Nat × Fm ArrF)) : St :=
  ⟨S.nt, S.putT dst tmpl, mergeL eff S.own, mergeL arrs' S.arrs, S.facts, S.nid + nx⟩

theorem call_intro {ks : List Nat} {tmpl : SV} {nx : Nat} {eff : Own} {arrs' : List (Nat × Fm ArrF)} (hrule : CR C f vs S ks tmpl nx eff arrs') (hks : ∀ i ∈ ks, i < S.nid) (hk : K (S.call dst tmpl nx eff arrs')) : CallVC C f vs dst S K := by
  intro E a w hs
  refine (hrule E a w hs.sat).mono ?_
  rintro e w' ⟨v, rfl, h⟩
  obtain ⟨E', h'⟩ := satA_after hs hks h dst
  exact ⟨v, rfl, E', _, h', hk⟩
theorem callx_intro {ι : Type} {q : ι → Prop} {tmpl : ι → SV} {nx : ι → Nat} {eff : ι → Own} {arrs' : ι → List (Nat × Fm ArrF)} {ks : List Nat} (hrule : CRX C f vs S ks q tmpl nx eff arrs') (hks : ∀ i ∈ ks, i < S.nid) (hk : ∀ i, q i → K (S.call dst (tmpl i) (nx i) (eff i) (arrs' i))) : CallVC C f vs dst S K := by
  intro E a w hs
  refine (hrule E a w hs.sat).mono ?_
  rintro e w' ⟨v, rfl, i, hi, h⟩
  obtain ⟨E', h'⟩ := satA_after hs hks h dst
  exact ⟨v, rfl, E', _, h', hk i hi⟩
end

/-- memory is left as it was, but for new blocks -/
theorem effOk_below {E : Env} {own : Own} {H : Nm → PH} {w w' : World} (h : Below w.heap.size w w') : EffOk E own H w w' [] :=
  ⟨h.os, h.tape, h.output, h.size, fun n hn _ => h.block n hn, fun _ => emp, fun x b h => by simp [atN, look] at h, fun x y b c h => by simp [atN, look] at h, fun x b h => by simp [atN, look] at h⟩

section
variable {C : Ctx} {S : St} {f : Nat} {vs : List SV}
/-- a call whose answer is known -/
theorem cr_val (tmpl : SV) (v : Value) (hv : ∀ E, tmpl.den E = v)
    (hrule : ∀ E a w, Sat C.B C.W C.w0 E S a w → Calls C.P f (vs.map (SV.den E)).toArray w fun e w' => e = .returned v ∧ Below w.heap.size w w') : CR C f vs S [] tmpl 0 [] [] := by
  intro E a w hs
  refine (hrule E a w hs).mono ?_
  rintro e w' ⟨rfl, hb⟩
  exact ⟨v, rfl, E, hs.one, fun E2 _ _ _ => ⟨(hv E2).symm, Fits.G ⟨fun H _ => effOk_below hb, fun _ _ x A h => by simp [atN, look] at h⟩⟩⟩
end

/-- in every world that the state tells of, the value is a slice whose elements are so -/
def RdS (C : Ctx) (S : St) (c : SC) (s m : Nat) (g : Nat → List SC) : Prop := ∀ E a w, Sat C.B C.W C.w0 E S a w → RdAt E w (c.den E) s m g
theorem rdS_src {C : Ctx} {S : St} {c : SC} {s m : Nat} {g : Nat → List SC} {q : Prop} (h : slSrc S s (.c c) = some (q, m, g)) (hq : q) : RdS C S c s m g := fun E a w hs => slSrc_ok h hq hs

/-- .. as a list, each element's cells told by enc -/
def Rd (C : Ctx) (S : St) (c : SC) {α : Type} (enc : α → List Value) (s : Nat) (xs : List α) : Prop := ∀ E a w, Sat C.B C.W C.w0 E S a w → Arr w enc s (c.den E) xs

theorem Arr.lenM {α : Type} {w : World} {enc : α → List Value} {s : Nat} {v : Value} {xs : List α} (h : Arr w enc s v xs) : xs.length ≤ maxLen := by
  obtain ⟨_, cap, _, h1, h2, _⟩ := h
  omega

/-- a list as an array that is only read -/
def arrOf {α : Type} (enc : α → List Value) (s : Nat) (xs : List α) (d : α) (low : Nat := 0) : ArrF := ⟨xs.length, s, fun k => (enc (xs.getD k d)).map .v, low⟩
theorem arrAt_of {α : Type} {E : Env} {w : World} {x : Nm} {s : Nat} {enc : α → List Value} {xs : List α} {d : α} (T : EncT enc s) (h : Arr w enc s (E.χ x) xs) : ArrAt E w x (arrOf enc s xs d) := by
  obtain ⟨ba, cap, hv, hl, hm, hc⟩ := h
  refine ⟨ba, cap, hv, hl, hm, ?_⟩
  rcases hc with h | ⟨b, off, hb, hc⟩
  · left; rw [h]; rfl
  · right
    refine ⟨b, off, hb, Nat.zero_le _, fun k hk => ⟨by simp only [arrOf, List.length_map]; exact T.len _, fun j u hu => ?_⟩⟩
    have hx : xs[k]? = some (xs.getD k d) := by rw [List.getD_eq_getElem?_getD, List.getElem?_eq_getElem hk]; rfl
    simp only [arrOf, List.getElem?_map, Option.map_eq_some_iff] at hu
    obtain ⟨u', hu', rfl⟩ := hu
    rw [den_v]
    exact ⟨hc k _ hx j u' hu', T.one _ u' (List.mem_of_getElem? hu')⟩
theorem arr_of {α : Type} {E : Env} {w : World} {x : Nm} {s : Nat} {enc : α → List Value} {xs : List α} {d : α} {low : Nat} (h : ArrAt E w x (arrOf enc s xs d low)) : Arr w enc s (E.χ x) xs := by
  obtain ⟨ba, cap, hv, hl, hm, hc⟩ := h
  refine ⟨ba, cap, hv, hl, hm, ?_⟩
  rcases hc with h | ⟨b, off, hb, _, hc⟩
  · left; exact List.eq_nil_of_length_eq_zero h
  · right
    refine ⟨b, off, hb, fun k y hy j u hu => ?_⟩
    have hk : k < xs.length := (List.getElem?_eq_some_iff.1 hy).1
    have he : xs.getD k d = y := by rw [List.getD_eq_getElem?_getD, hy]; rfl
    have := ((hc k hk).2 j (.v u) (by simp only [arrOf, he, List.getElem?_map, hu]; rfl)).1
    rw [den_v] at this
    exact this

/-! ### how a function is entered -/
def enumT : Nat → List SV → List (Nat × SV)
  | _, [] => []
  | i, v :: r => (i, v) :: enumT (i + 1) r
theorem look_enumT : ∀ (vs : List SV) (i t : Nat) (v : SV), look (enumT i vs) t = some v → ∃ j, t = i + j ∧ vs[j]? = some v
  | [], i, t, v, h => by cases h
  | x :: r, i, t, v, h => by
    simp only [enumT, look_cons] at h
    split at h
    · next e =>
      subst e
      simp only [Option.some.injEq] at h
      subst h
      exact ⟨0, rfl, rfl⟩
    · obtain ⟨j, e, hj⟩ := look_enumT r (i + 1) t v h
      exact ⟨j + 1, by omega, hj⟩

/-- what a call hands over, as entries: memory, and what lies beside it -/
def InOk (C : Ctx) (E : Env) (own : Own) (arrs : List (Nat × Fm ArrF)) (facts : List (Env → World → Prop)) (w : World) : Prop :=
  ∃ H : Nm → PH, (∀ x b, atN own x = some b → b.den E x (H x)) ∧ (∀ x y b c, atN own x = some b → atN own y = some c → x ≠ y → ∀ n, H x n = none ∨ H y n = none) ∧
    (∀ x b, atN own x = some b → ∀ n o, H x n = some o → w.heap[n]? = some o ∧ C.W n) ∧
    ∀ w' : World, (∀ n, n < w.heap.size → Free own H n → w'.heap[n]? = w.heap[n]?) → (∀ x A, atN arrs x = some A → ArrAt E w' x A) ∧ ∀ φ ∈ facts, φ E w'

theorem calls_sym {C : Ctx} {f : Nat} {fn : Func} {x : Code} {c : IR} {w : World} (n : Nat) (vs : List SV) (E : Env) (own : Own) (arrs : List (Nat × Fm ArrF)) (facts : List (Env → World → Prop)) (nid nt : Nat) (args : Array Value)
    (hT : C.tab.Ok C.P) (hf : C.P.funcs[f]? = some fn) (hb : fn.body = some x) (hc : compC C.tab x = some c.strip) (hr : compR C.tab.T fn.results.toList = some C.rs) (hn : fn.ntmps = nt)
    (hB : C.B = w.heap.size) (hw : C.w0 = w) (hone : OneC E)
    (hargs : ∀ E' : Env, AgreeD (· < nid) E E' → (vs.map (SV.den E')).toArray = args) (hnt : vs.length ≤ nt)
    (hin : ∀ E' : Env, AgreeD (· < nid) E E' → InOk C E' own arrs facts w)
    (hex : exec C n [.code c] ⟨nt, enumT 0 vs, own, arrs, facts, nid⟩) : Calls C.P f args w C.R := by
  subst hn
  have e0 := hargs E (.refl _ _)
  have el : args = (vs.map (SV.den E)).toArray := e0.symm
  rw [el]
  refine calls_of_exec (E := E) n hT hf hb hc hr ⟨hone, ?_⟩ hex
  intro E' hE' ho'
  have e1 := hargs E' hE'
  obtain ⟨H, h1, h2, h3, h4⟩ := hin E' hE'
  refine ⟨?_, rfl, ho', ?_, ?_, H, ⟨h1, h2, fun x b hb n o hn => ⟨(h3 x b hb n o hn).1, Or.inr (h3 x b hb n o hn).2⟩⟩, h4⟩
  · simp
    omega
  · intro t v ht
    obtain ⟨j, rfl, hj⟩ := look_enumT vs 0 t v ht
    have hjl : j < vs.length := (List.getElem?_eq_some_iff.1 hj).1
    refine ⟨by simp only; omega, ?_⟩
    have e2 : vs.map (SV.den E) = vs.map (SV.den E') := by
      have := e0.trans e1.symm
      simpa using this
    simp only [e2, Nat.zero_add, Array.getD_eq_getD_getElem?]
    rw [Array.getElem?_append_left (by simpa using hjl)]
    simp [hj]
  · rw [hB, hw]
    exact ⟨rfl, rfl, rfl, Nat.le_refl _, fun _ _ _ => rfl⟩
end Go.Proofs.Ytkjeedlkkpgopaa.Z
