
/- More tools for walks: lists that grow, guards, lists that are read. No statement of the program. -/
import Derived.Test.YtkjeedlkkpgopaaZN
namespace Go.Proofs.Ytkjeedlkkpgopaa.Z
open Go Go.RowKit
set_option linter.unusedSimpArgs false
set_option linter.unusedVariables false

theorem le_tr {C : Ctx} {S S' S'' : St} (h : Le C S S') (h' : Le C S' S'') : Le C S S'' := fun E a w hs => by
  obtain ⟨E', hs'⟩ := h E a w hs
  exact h' E' a w hs'
/-- a list with one more behind it -/
theorem ats_push {α : Type} {enc : α → List Value} {xs ys : List α} {d x : α} {n : Nat} {f g : Nat → List SC} (hy : ys = xs ++ [x]) (hn : n = xs.length) (hf : ∀ e, e < xs.length → f e = ats enc xs d e) (hg : g 0 = (enc x).map .v) : ∀ e, e < ys.length → appAt n f g e = ats enc ys d e := fun e he => by
  subst hy
  subst hn
  unfold appAt
  by_cases h : e < xs.length
  · rw [if_pos h, hf e h]
    simp [ats, List.getD_eq_getElem?_getD, List.getElem?_append_left h]
  · have : e = xs.length := by simp at he; omega
    subst this
    rw [if_neg h, Nat.sub_self, hg]
    simp [ats]
/-- a list with another behind it -/
theorem ats_app {α : Type} {enc : α → List Value} {xs ys zs : List α} {d : α} {n : Nat} {f g : Nat → List SC} (hz : zs = xs ++ ys) (hn : n = xs.length) (hf : ∀ e, e < xs.length → f e = ats enc xs d e) (hg : ∀ e, e < ys.length → g e = ats enc ys d e) : ∀ e, e < zs.length → appAt n f g e = ats enc zs d e := fun e he => by
  subst hz
  subst hn
  unfold appAt
  by_cases h : e < xs.length
  · rw [if_pos h, hf e h]
    simp [ats, List.getD_eq_getElem?_getD, List.getElem?_append_left h]
  · rw [if_neg h, hg _ (by simp at he; omega)]
    simp [ats, List.getD_eq_getElem?_getD, List.getElem?_append_right (show xs.length ≤ e by omega)]
theorem arr_at {C : Ctx} {E : Env} {S : St} {a : Act} {w : World} {α : Type} {enc : α → List Value} {s : Nat} {xs : List α} {d : α} {l : Nat} (hs : Sat C.B C.W C.w0 E S a w) (i : Nat) (h : atN S.arrs (i, 0, 0) = some (arrOf enc s xs d l)) : Arr w enc s (E.χ (i, 0, 0)) xs := arr_of (d := d) ((holds_of hs).1 (i, 0, 0) _ h)
/-- an own list, read -/
theorem own_at {C : Ctx} {E : Env} {S : St} {a : Act} {w : World} (hs : Sat C.B C.W C.w0 E S a w) {α : Type} {ty s : Nat} {enc : α → List Value} {ys : List α} {d : α} (i n : Nat) (hi : look S.own i = some (.one (.ar ys.length s (ats enc ys d) ty))) (hn : n = ys.length) : Arr w enc s ((SC.sl (i, 0, 0) s 0 n none).den E) ys :=
  arr_own hs i _ n _ hi hn (Nat.le_refl _) fun _ _ => rfl
/-- a guarded call that answers a value alone -/
theorem guardW {C : Ctx} {ex : List KI → St → Prop} {f : Nat} {vs : List SV} {r : List IO1} {k : List KI} {S S' : St} {d : Option Nat} {g : Nat} {want e : Bool} {Z Z' : Prop} (tmpl : SV) (u : Value) (hv : ∀ E, tmpl.den E = u) (hc : ∀ E a w, Sat C.B C.W C.w0 E S' a w → Calls C.P f (vs.map (SV.den E)).toArray w (RetV w u))
    (hk : ex (.ops r :: k) ⟨S.nt, S.putT d (.gd g want e tmpl), S.own, S.arrs, S.facts, S.nid⟩) : CallG C ex f vs r k S S' d g want e Z ∨ Z' :=
  Or.inl (Or.inl ⟨tmpl, fun _ => crv_retV tmpl u hv hc, hk⟩)
/-- a call in a region that draws, that answers new memory -/
theorem dcallN {C : Ctx} {bs f : Nat} {vs : List SV} {dst : Option Nat} {U : List Nat} {Si S : St} {done : List Rec} {ex : List Rec → St → Prop} (nx : Nat) (T : Nat → SV) (O : Nat → Own) (hc : ∀ E a w, Sat C.B C.W C.w0 E Si a w → Calls C.P f (vs.map (SV.den E)).toArray w (RetN w nx T O))
    (hkeys : newOk Si.nid nx (keysL (O Si.nid)))
    (h : ex (done ++ [⟨dst, T Si.nid, O Si.nid, [], Si.nid, nx, keysL Si.own, [], []⟩]) (S.appN ⟨dst, T Si.nid, O Si.nid, [], Si.nid, nx, keysL Si.own, [], []⟩)) : DCallVC C bs f vs dst U Si done S ex :=
  dcall_intro (cr_retN nx T O hc) rfl trivial (by
    have : ∀ l : Own, newOk Si.nid nx (keysL l) → wrOk U done Si.nid nx l := by
      intro l
      induction l with
      | nil => intro _; trivial
      | cons a l ih =>
        obtain ⟨k, b⟩ := a
        intro h; exact ⟨Or.inl h.1, ih h.2⟩
    exact this _ hkeys) (fun k hk hlt => absurd (newOk_mem hkeys k hk).1 (by omega)) h
theorem wrI {n : Int} (h : -9223372036854775808 ≤ n ∧ n ≤ 9223372036854775807) : IntKind.i64.wrap n = n := wr64 h.1 h.2
/-- a list, and an error -/
def leT (s n : Nat) (e : Int) (b : Nat) : SV := .tup [(false, [.sl (b, 0, 0) s 0 n none]), (false, [.v (.int .i64 e)])]
theorem retLE {P : Program} {A : List Nat} {w : World} {rs : List RS} {α : Type} {ty s n : Nat} {enc : α → List Value} {xs : List α} {d : α} {S : St} {q : Int} (i k : Nat) (at_ : Nat → List SC)
    (hi : look S.own i = some (.one (.ar k s at_ ty))) (hn : n = xs.length) (hk : xs.length ≤ k) (ha : ∀ e, e < xs.length → at_ e = ats enc xs d e) : RetVC (mkC P A w rs (RetN w 1 (leT s xs.length q) (lsO ty s enc xs d))) (.tup [(false, [.sl (i, 0, 0) s 0 n none]), (false, [.v (.int .i64 q)])]) S := by
  subst hn
  refine retN (fun _ => i) (fun b => ?_) (fun b => ?_) (fun b => ?_)
  · simp [leT, SV.ren, ren1L, ren1, SC.renL, SC.ren, fromσ, SV.okN, ok1L, SC.okL, SC.okN, NewIds]
  · refine ⟨⟨⟨Nat.le_refl _, by omega⟩, ?_⟩, trivial⟩
    simp only [fromσ, atN, hi, Fm.get, and_self, if_true]
    refine ⟨hk, rfl, rfl, fun e he => ?_⟩
    rw [ha e he]
    exact ⟨(renL_v _ _).symm, okL_v _ _⟩
  · exact injN_from fun i hi j hj _ => by simp [lsO, keysL] at hi hj; omega
theorem retNE {P : Program} {A : List Nat} {w : World} {rs : List RS} {α : Type} {ty s : Nat} {enc : α → List Value} {d : α} {S : St} {q : Int} : RetVC (mkC P A w rs (RetN w 1 (leT s 0 q) (lsO ty s enc [] d))) (.tup [(false, [.v (.slice none 0 0)]), (false, [.v (.int .i64 q)])]) S := by
  intro E a w' hs
  refine ⟨_, rfl, below_of hs.sat, fun b => ⟨⟨fun _ => 0, fun _ => 0, fun _ => true, fun _ => .bool true⟩, fun _ => rfl, fun E2 hE2 => ?_⟩⟩
  obtain ⟨h1, h2, h3, h4⟩ := hE2 (b, 0, 0) ⟨Nat.le_refl _, Nat.lt_succ_self _⟩
  refine ⟨?_, fun _ => emp, ?_, fun _ _ _ _ _ _ _ n => Or.inl rfl, fun x c _ n o hn => by cases hn⟩
  · simp [leT, SV.den, den1, SC.den, h2, h3]
  · intro x c hx
    rcases atN_one hx with ⟨rfl, rfl⟩ | hx
    · exact Or.inl ⟨h3, h2, rfl, rfl⟩
    · exact (atN_nil hx).elim

theorem retList' {P : Program} {A : List Nat} {w : World} {rs : List RS} {α : Type} {ty s n : Nat} {enc : α → List Value} {xs : List α} {d : α} {S : St} (i k : Nat) (at_ : Nat → List SC)
    (hi : look S.own i = some (.one (.ar k s at_ ty))) (hn : n = xs.length) (hk : xs.length ≤ k) (ha : ∀ e, e < xs.length → at_ e = ats enc xs d e) : RetVC (mkC P A w rs (RetN w 1 (lsT s xs.length) (lsO ty s enc xs d))) (.c (.sl (i, 0, 0) s 0 n none)) S := by
  subst hn
  exact retList i k at_ hi hk ha
/-! ### a loop, run off turn by turn -/
def Unr (C : Ctx) (c : IR) (k : List KI) (ex : List KI → St → Prop) : Nat → St → Prop
  | 0, _ => False
  | n + 1, S => ∀ (ι : Type) (I : ι → St) (μ : ι → Nat) (i : ι), (∀ S', Unr C c k ex n S' → BackVC C ι I μ i S') → ex (.code c :: .back ι I μ i :: k) S
theorem loop_unr {C : Ctx} {S : St} {c : IR} {k : List KI} {ex : List KI → St → Prop} (n : Nat) (h : Unr C c k ex n S) : LoopVC C c k S ex := by
  refine ⟨{ p : Nat × St // Unr C c k ex p.1 p.2 }, fun p => p.1.2, fun p => p.1.1, ⟨(n, S), h⟩, fun E a w hs => ⟨E, hs⟩, ?_⟩
  rintro ⟨⟨m, S'⟩, h'⟩
  cases m with
  | zero => exact h'.elim
  | succ m => exact h' _ _ _ _ (fun S'' h'' => ⟨⟨(m, S''), h''⟩, Nat.lt_succ_self m, fun E a w hs => ⟨E, hs⟩⟩)
/-! ### what is no longer asked for is let go -/
def keepL' {α : Type} (l : List (Nat × α)) : List Nat → List (Nat × α)
  | [] => []
  | k :: ks => match look l k with
    | some v => (k, v) :: keepL' l ks
    | none => keepL' l ks
theorem look_keep {α : Type} {l : List (Nat × α)} : ∀ {ks : List Nat} {t : Nat} {v : α}, look (keepL' l ks) t = some v → look l t = some v
  | [], t, v, h => by cases h
  | k :: ks, t, v, h => by
    simp only [keepL'] at h
    split at h
    · next u hl =>
      rw [look_cons] at h
      split at h
      · next e => subst e; rw [hl]; exact h
      · exact look_keep h
    · exact look_keep h
def St.keep (S : St) (kt ko ka : List Nat) : St := ⟨S.nt, keepL' S.tmps kt, keepL' S.own ko, keepL' S.arrs ka, S.facts, S.nid⟩
theorem sub_keep (S : St) (kt ko ka : List Nat) : Sub (S.keep kt ko ka) S := ⟨rfl, fun _ _ h => look_keep h, fun _ _ h => look_keep h, fun _ _ h => look_keep h, fun _ h => h⟩
theorem le_keep {C : Ctx} (S : St) (kt ko ka : List Nat) : Le C S (S.keep kt ko ka) := fun E a w hs => ⟨E, hs.1, fun E' h1 h2 => sat_sub (sub_keep S kt ko ka) (hs.2 E' h1 h2)⟩
theorem back_le {C : Ctx} {ι : Type} {I : ι → St} {μ : ι → Nat} {i : ι} {S S' : St} (hle : Le C S S') (h : BackVC C ι I μ i S') : BackVC C ι I μ i S := by
  obtain ⟨j, h1, h2⟩ := h
  exact ⟨j, h1, le_tr hle h2⟩
theorem call_le {C : Ctx} {S : St} {f : Nat} {vs : List SV} {dst : Option Nat} {K : St → Prop} (kt ko ka : List Nat) (h : CallVC C f vs dst (S.keep kt ko ka) K) : CallVC C f vs dst S K := fun E a w hs =>
  h E a w ⟨hs.1, fun E' h1 h2 => sat_sub (sub_keep S kt ko ka) (hs.2 E' h1 h2)⟩
theorem loop_le {C : Ctx} {S S' : St} {c : IR} {k : List KI} {ex : List KI → St → Prop} (hle : Le C S S') (h : LoopVC C c k S' ex) : LoopVC C c k S ex := by
  obtain ⟨ι, I, μ, i, h1, h2⟩ := h
  exact ⟨ι, I, μ, i, le_tr hle h1, h2⟩
end Go.Proofs.Ytkjeedlkkpgopaa.Z
