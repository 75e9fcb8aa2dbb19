
/- Tools for walks by contract: Bool formulas as props, loops, borrowed lists, lists in new memory. No statement of the program. -/
import Derived.Test.YtkjeedlkkpgopaaZL
import Derived.IntWalk
namespace Go.Proofs.Ytkjeedlkkpgopaa.Z
open Go Go.RowKit
set_option linter.unusedSimpArgs false
set_option linter.unusedVariables false

/-! Bool formulas as props -/
theorem bt_ite {p : Prop} [Decidable p] {a b : Bool} : ((if p then a else b) = true) = ((p ∧ a = true) ∨ (¬ p ∧ b = true)) := by by_cases h : p <;> simp [h]
theorem bf_ite {p : Prop} [Decidable p] {a b : Bool} : ((if p then a else b) = false) = ((p ∧ a = false) ∨ (¬ p ∧ b = false)) := by by_cases h : p <;> simp [h]
theorem bt_dec {p : Prop} [Decidable p] : (decide p = true) = p := by simp
theorem bf_dec {p : Prop} [Decidable p] : (decide p = false) = ¬ p := by simp
theorem bt_int {a b : Int} : ((a == b) = true) = (a = b) := by simp
theorem bf_int {a b : Int} : ((a == b) = false) = (¬ a = b) := by simp
theorem bt_nint {a b : Int} : ((a != b) = true) = (¬ a = b) := by simp
theorem bf_nint {a b : Int} : ((a != b) = false) = (a = b) := by simp
theorem bt_bool {a b : Bool} : ((a == b) = true) = (a = true ↔ b = true) := by cases a <;> cases b <;> simp
theorem bf_bool {a b : Bool} : ((a == b) = false) = (¬ (a = true ↔ b = true)) := by cases a <;> cases b <;> simp
theorem bt_nbool {a b : Bool} : ((a != b) = true) = (¬ (a = true ↔ b = true)) := by cases a <;> cases b <;> simp
theorem bf_nbool {a b : Bool} : ((a != b) = false) = (a = true ↔ b = true) := by cases a <;> cases b <;> simp
theorem bt_not {a : Bool} : ((!a) = true) = (¬ a = true) := by cases a <;> simp
theorem bf_not {a : Bool} : ((!a) = false) = (a = true) := by cases a <;> simp
theorem bt_and {a b : Bool} : ((a && b) = true) = (a = true ∧ b = true) := by simp
theorem bf_and {a b : Bool} : ((a && b) = false) = (¬ (a = true ∧ b = true)) := by cases a <;> cases b <;> simp
theorem bt_or {a b : Bool} : ((a || b) = true) = (a = true ∨ b = true) := by simp
theorem bf_or {a b : Bool} : ((a || b) = false) = (¬ (a = true ∨ b = true)) := by cases a <;> cases b <;> simp
theorem b_decR {a : Bool} {p : Prop} [Decidable p] : (a = decide p) = (a = true ↔ p) := by cases a <;> simp
theorem b_decL {a : Bool} {p : Prop} [Decidable p] : (decide p = a) = (p ↔ a = true) := by cases a <;> simp

theorem le_refl {C : Ctx} (S : St) : Le C S S := fun E a w h => ⟨E, h⟩
theorem wr64 {n : Int} (h : -9223372036854775808 ≤ n) (h' : n ≤ 9223372036854775807) : IntKind.i64.wrap n = n := IntWalk.i64_in n ⟨h, h'⟩
theorem wr_lit {n : Nat} (h : n ≤ 9223372036854775807) : IntKind.i64.wrap (no_index (OfNat.ofNat n)) = OfNat.ofNat n := wr64 (by show (-9223372036854775808 : Int) ≤ (n : Int); omega) (by show ((n : Nat) : Int) ≤ 9223372036854775807; omega)
theorem wrU {n : Int} (h : 0 ≤ n ∧ n ≤ 18446744073709551615) : IntKind.u64.wrap n = n := by
  have : IntKind.u64.wrap n = n % 18446744073709551616 := by simp [IntKind.wrap, IntKind.bits, IntKind.signed]
  rw [this]; omega
theorem wr_litu {n : Nat} (h : n ≤ 18446744073709551615) : IntKind.u64.wrap (no_index (OfNat.ofNat n)) = OfNat.ofNat n := wrU ⟨by show (0 : Int) ≤ (n : Int); omega, by show ((n : Nat) : Int) ≤ 18446744073709551615; omega⟩
theorem wr_succ {n : Nat} (h : n < 9223372036854775807) : IntKind.i64.wrap ((n : Int) + 1) = ((n + 1 : Nat) : Int) := by rw [wr64 (by omega) (by omega)]; omega

theorem arrOf_len {α : Type} (enc : α → List Value) (s : Nat) (xs : List α) (d : α) (l : Nat) : (arrOf enc s xs d l).len = xs.length := rfl
theorem arrOf_size {α : Type} (enc : α → List Value) (s : Nat) (xs : List α) (d : α) (l : Nat) : (arrOf enc s xs d l).size = s := rfl
theorem arrOf_at {α : Type} (enc : α → List Value) (s : Nat) (xs : List α) (d : α) (l k : Nat) : (arrOf enc s xs d l).at_ k = (enc (xs.getD k d)).map .v := rfl
/-- a loop: its states, what grows less, where it begins -/
theorem loopI {C : Ctx} {c : IR} {k : List KI} {S : St} {ex : List KI → St → Prop} {ι : Type} (I : ι → St) (μ : ι → Nat) (i : ι) (h : Le C S (I i)) (h' : ∀ i, ex (.code c :: .back ι I μ i :: k) (I i)) : LoopVC C c k S ex := ⟨ι, I, μ, i, h, h'⟩
theorem backI {C : Ctx} {ι : Type} {I : ι → St} {μ : ι → Nat} {i : ι} {S : St} (j : ι) (hj : μ j < μ i) (h : Le C S (I j)) : BackVC C ι I μ i S := ⟨j, hj, h⟩
theorem backR {C : Ctx} {ι : Type} {I : ι → St} {μ : ι → Nat} {i : ι} {S : St} (j : ι) (hj : μ j < μ i) (h : S = I j) : BackVC C ι I μ i S := ⟨j, hj, h ▸ le_refl _⟩

/-- a list that is borrowed, among a call's memory -/
theorem inOk_arrs {P : Program} {A : List Nat} {w : World} {rs : List RS} {R : Ending → World → Prop} {E : Env} {arrs : List (Nat × Fm ArrF)} (h : ∀ w' : World, (∀ n, n < w.heap.size → w'.heap[n]? = w.heap[n]?) → ∀ x A, atN arrs x = some A → ArrAt E w' x A) : InOk (mkC P A w rs R) E [] arrs [] w :=
  ⟨fun _ => emp, fun x b h => by simp [atN, look] at h, fun x y b c h => by simp [atN, look] at h, fun x b h => by simp [atN, look] at h, fun w' hw' => ⟨h w' fun n hn => hw' n hn fun x b hb => rfl, fun φ h => by cases h⟩⟩
theorem arr_keep {α : Type} {w w' : World} {enc : α → List Value} {s : Nat} {v : Value} {xs : List α} (h : Arr w enc s v xs) (hk : ∀ n, n < w.heap.size → w'.heap[n]? = w.heap[n]?) : Arr w' enc s v xs := by
  refine h.keep fun a u hu => ?_
  have hb : a.block < w.heap.size := by
    unfold World.cell? at hu
    cases he : w.heap[a.block]? with
    | none => rw [he] at hu; simp at hu
    | some o => exact (Array.getElem?_eq_some_iff.1 he).1
  unfold World.cell? at hu ⊢
  rw [hk _ hb]
  exact hu
/-- slots that are known by another state too -/
def TmpsSub (tmps : List (Nat × SV)) : List (Nat × SV) → Prop
  | [] => True
  | (t, v) :: r => look tmps t = some v ∧ TmpsSub tmps r
theorem tmpsSub_at {tmps : List (Nat × SV)} : ∀ {l : List (Nat × SV)}, TmpsSub tmps l → ∀ {t : Nat} {v : SV}, look l t = some v → look tmps t = some v
  | [], _, t, v, h => by cases h
  | (k, u) :: r, hl, t, v, h => by
    rw [look_cons] at h
    split at h
    · next e => subst e; cases h; exact hl.1
    · exact tmpsSub_at hl.2 h
/-- less is known of the slots -/
theorem le_tmps {C : Ctx} {nt : Nat} {t t' : List (Nat × SV)} {own : Own} {arrs : List (Nat × Fm ArrF)} {facts : List (Env → World → Prop)} {nid : Nat} (h : TmpsSub t t') : Le C ⟨nt, t, own, arrs, facts, nid⟩ ⟨nt, t', own, arrs, facts, nid⟩ := by
  intro E a w hs
  refine ⟨E, hs.1, fun E' hE' ho' => ?_⟩
  have hs := hs.2 E' hE' ho'
  exact sat_sub (S := ⟨nt, t, own, arrs, facts, nid⟩) (S' := ⟨nt, t', own, arrs, facts, nid⟩) ⟨rfl, fun k v hk => tmpsSub_at h hk, fun _ _ h => h, fun _ _ h => h, fun _ h => h⟩ hs
/-- a borrowed list, one name -/
theorem arr1 {α : Type} {w : World} {enc : α → List Value} {s : Nat} {xs : List α} {d : α} (T : EncT enc s) {i : Nat} {E : Env} {v : Value} (hv : E.χ (i, 0, 0) = v) (h : Arr w enc s v xs) {w' : World} (hk : ∀ n, n < w.heap.size → w'.heap[n]? = w.heap[n]?) : ArrAt E w' (i, 0, 0) (arrOf enc s xs d) :=
  arrAt_of T (by rw [hv]; exact arr_keep h hk)
theorem atN_one {α : Type} {i : Nat} {F : α} {r : List (Nat × Fm α)} {x : Nm} {A : α} (h : atN ((i, .one F) :: r) x = some A) : (x = (i, 0, 0) ∧ A = F) ∨ atN r x = some A := by
  obtain ⟨a, b, c⟩ := x
  simp only [atN, look_cons] at h
  split at h
  · next e =>
    split at e
    · next e2 =>
      subst e2
      cases e
      simp only [Fm.get] at h
      split at h
      · next e3 => left; obtain ⟨rfl, rfl⟩ := e3; cases h; exact ⟨rfl, rfl⟩
      · cases h
    · next e2 =>
      right
      simp only [atN, e]
      exact h
  · cases h
theorem atN_nil {α : Type} {x : Nm} {A : α} (h : atN ([] : List (Nat × Fm α)) x = some A) : False := by simp [atN, look] at h
theorem arr_one {α : Type} {w : World} {enc : α → List Value} {s : Nat} {v : Value} {xs : List α} (h : Arr w enc s v xs) : v.oneCell' = true := by
  obtain ⟨ba, cap, rfl, _⟩ := h
  rfl

/-- how a list is borrowed at a call -/
def E1 (v : Value) : Env := ⟨fun _ => 0, fun _ => 0, fun _ => false, fun _ => v⟩
theorem E1_one {v : Value} (h : v.oneCell' = true) : OneC (E1 v) := fun _ => h
/-- the cells of a list's elements -/
def ats {α : Type} (enc : α → List Value) (xs : List α) (d : α) (e : Nat) : List SC := (enc (xs.getD e d)).map .v
theorem arrOf_ats {α : Type} (enc : α → List Value) (s : Nat) (xs : List α) (d : α) (l : Nat) : (arrOf enc s xs d l).at_ = ats enc xs d := rfl

/-- a list in new memory, of n elements of which the first ones are told -/
def lsT (s n b : Nat) : SV := .c (.sl (b, 0, 0) s 0 n none)
def lsO {α : Type} (ty s : Nat) (enc : α → List Value) (xs : List α) (d : α) (b : Nat) : Own := [(b, .one (.ar xs.length s (ats enc xs d) ty))]
theorem renL_v (σ : Nm → Nm) : ∀ l : List Value, SC.renL σ (l.map .v) = l.map .v
  | [] => rfl
  | x :: l => by simp only [List.map_cons, SC.renL, SC.ren, renL_v σ l]
theorem okL_v (p : Nat → Prop) : ∀ l : List Value, SC.okL p (l.map .v)
  | [] => trivial
  | x :: l => ⟨trivial, okL_v p l⟩
theorem arrLe_of {α : Type} {p : Nat → Prop} {σ : Nm → Nm} {enc : α → List Value} {s : Nat} {xs : List α} {d : α} {l : Nat} : ArrLe p σ (arrOf enc s xs d l) (arrOf enc s xs d l) :=
  ⟨rfl, rfl, fun e _ => ⟨(renL_v _ _).symm, okL_v _ _⟩, Nat.le_refl _⟩
theorem arrLe_lo {α : Type} {p : Nat → Prop} {σ : Nm → Nm} {enc : α → List Value} {s : Nat} {xs : List α} {d : α} {l l' : Nat} (h : l' ≤ l) : ArrLe p σ (arrOf enc s xs d l) (arrOf enc s xs d l') :=
  ⟨rfl, rfl, fun e _ => ⟨(renL_v _ _).symm, okL_v _ _⟩, h⟩
theorem arrLe_0 {α : Type} {p : Nat → Prop} {σ : Nm → Nm} {enc : α → List Value} {s : Nat} {xs : List α} {d : α} {l : Nat} : ArrLe p σ (arrOf enc s xs d l) (arrOf enc s xs d) := arrLe_lo (Nat.zero_le _)
theorem arLe_of {α : Type} {p : Nat → Prop} {σ : Nm → Nm} {enc : α → List Value} {m n s ty : Nat} {xs : List α} {d : α} {at_ : Nat → List SC} (hn : n ≤ m) (h : ∀ e, e < n → at_ e = ats enc xs d e) : BlkLe p σ (.ar m s at_ ty) (.ar n s (ats enc xs d) ty) :=
  ⟨hn, rfl, rfl, fun e he => by rw [h e he]; exact ⟨(renL_v _ _).symm, okL_v _ _⟩⟩
theorem retList {P : Program} {A : List Nat} {w : World} {rs : List RS} {α : Type} {ty s n : Nat} {enc : α → List Value} {xs : List α} {d : α} {S : St} (i k : Nat) (at_ : Nat → List SC)
    (hi : look S.own i = some (.one (.ar k s at_ ty))) (hk : xs.length ≤ k) (ha : ∀ e, e < xs.length → at_ e = ats enc xs d e) : RetVC (mkC P A w rs (RetN w 1 (lsT s n) (lsO ty s enc xs d))) (.c (.sl (i, 0, 0) s 0 n none)) S := by
  refine retN (fun _ => i) (fun b => ?_) (fun b => ?_) (fun b => ?_)
  · simp [lsT, SV.ren, SC.ren, fromσ, SV.okN, SC.okN, NewIds]
  · refine ⟨⟨⟨Nat.le_refl _, by omega⟩, ?_⟩, trivial⟩
    simp only [fromσ, atN, hi, Fm.get, and_self, if_true]
    refine ⟨hk, rfl, rfl, fun e he => ?_⟩
    rw [ha e he]
    exact ⟨(renL_v _ _).symm, okL_v _ _⟩
  · exact injN_from fun i hi j hj _ => by simp [lsO, keysL] at hi hj; omega
/-- none -/
theorem retNil {P : Program} {A : List Nat} {w : World} {rs : List RS} {α : Type} {ty s : Nat} {enc : α → List Value} {d : α} {S : St} : RetVC (mkC P A w rs (RetN w 1 (lsT s 0) (lsO ty s enc [] d))) (.c (.v (.slice none 0 0))) S := by
  intro E a w' hs
  refine ⟨_, rfl, below_of hs.sat, fun b => ⟨⟨fun _ => 0, fun _ => 0, fun _ => true, fun _ => .bool true⟩, fun _ => rfl, fun E2 hE2 => ?_⟩⟩
  obtain ⟨h1, h2, h3, h4⟩ := hE2 (b, 0, 0) ⟨Nat.le_refl _, Nat.lt_succ_self _⟩
  refine ⟨?_, fun _ => emp, ?_, fun _ _ _ _ _ _ _ n => Or.inl rfl, fun x c _ n o hn => by cases hn⟩
  · simp [lsT, SV.den, SC.den, h2, h3]
  · intro x c hx
    rcases atN_one hx with ⟨rfl, rfl⟩ | hx
    · exact Or.inl ⟨h3, h2, rfl, rfl⟩
    · exact (atN_nil hx).elim
/-! calls by contract, where only a value comes back -/
theorem dcallV {C : Ctx} {bs f : Nat} {vs : List SV} {dst : Option Nat} {U : List Nat} {Si S : St} {done : List Rec} {ex : List Rec → St → Prop} (tmpl : SV) (u : Value) (hv : ∀ E, tmpl.den E = u) (hc : ∀ E a w, Sat C.B C.W C.w0 E Si a w → Calls C.P f (vs.map (SV.den E)).toArray w (RetV w u))
    (h : ex (done ++ [⟨dst, tmpl, [], [], Si.nid, 0, keysL Si.own, [], []⟩]) (S.appN ⟨dst, tmpl, [], [], Si.nid, 0, keysL Si.own, [], []⟩)) : DCallVC C bs f vs dst U Si done S ex :=
  dcall_intro (cr_retV tmpl u hv hc) rfl trivial trivial (fun k hk => by cases hk) h
theorem callV {C : Ctx} {f : Nat} {vs : List SV} {dst : Option Nat} {S : St} {K : St → Prop} (tmpl : SV) (u : Value) (hv : ∀ E, tmpl.den E = u) (hc : ∀ E a w, Sat C.B C.W C.w0 E S a w → Calls C.P f (vs.map (SV.den E)).toArray w (RetV w u)) (h : K (S.call dst tmpl 0 [] [])) : CallVC C f vs dst S K :=
  call_intro (cr_retV tmpl u hv hc) (fun i hi => by cases hi) h
theorem callN {C : Ctx} {f : Nat} {vs : List SV} {dst : Option Nat} {S : St} {K : St → Prop} (nx : Nat) (T : Nat → SV) (O : Nat → Own) (hc : ∀ E a w, Sat C.B C.W C.w0 E S a w → Calls C.P f (vs.map (SV.den E)).toArray w (RetN w nx T O)) (h : K (S.call dst (T S.nid) nx (O S.nid) [])) : CallVC C f vs dst S K :=
  call_intro (cr_retN nx T O hc) (fun i hi => by cases hi) h
end Go.Proofs.Ytkjeedlkkpgopaa.Z
