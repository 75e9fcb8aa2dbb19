/- More tools for walks: lists that grow, guards, lists that are read. No statement of the program. -/
import Derived.Test.YtpjdcbofngcdbaaZN
namespace Go.Proofs.Ytpjdcbofngcdbaa.Z
open Go Go.RowKit
set_option linter.unusedSimpArgs false
set_option linter.unusedVariables false

theorem le_tr {C : Ctx} {S S' S'' : St} (h : Le C S S') (h' : Le C S' S'') : Le C S S'' := fun E a w hs => by
  obtain ⟨E', hs'⟩ := h E a w hs
  exact h' E' a w hs'
/-- a list with one more behind it -/
theorem ats_push {α : Type} {enc : α → List Value} {xs ys : List α} {d x : α} {n : Nat} {f g : Nat → List SC} (hy : ys = xs ++ [x]) (hn : n = xs.length) (hf : ∀ e, e < xs.length → f e = ats enc xs d e) (hg : g 0 = (enc x).map .v) : ∀ e, e < ys.length → appAt n f g e = ats enc ys d e := fun e he => by
  subst hy
  subst hn
  unfold appAt
  by_cases h : e < xs.length
  · rw [if_pos h, hf e h]
    simp [ats, List.getD_eq_getElem?_getD, List.getElem?_append_left h]
  · have : e = xs.length := by simp at he; omega
    subst this
    rw [if_neg h, Nat.sub_self, hg]
    simp [ats]
/-- a list with another behind it -/
theorem ats_app {α : Type} {enc : α → List Value} {xs ys zs : List α} {d : α} {n : Nat} {f g : Nat → List SC} (hz : zs = xs ++ ys) (hn : n = xs.length) (hf : ∀ e, e < xs.length → f e = ats enc xs d e) (hg : ∀ e, e < ys.length → g e = ats enc ys d e) : ∀ e, e < zs.length → appAt n f g e = ats enc zs d e := fun e he => by
  subst hz
  subst hn
  unfold appAt
  by_cases h : e < xs.length
  · rw [if_pos h, hf e h]
    simp [ats, List.getD_eq_getElem?_getD, List.getElem?_append_left h]
  · rw [if_neg h, hg _ (by simp at he; omega)]
    simp [ats, List.getD_eq_getElem?_getD, List.getElem?_append_right (show xs.length ≤ e by omega)]
theorem arr_at {C : Ctx} {E : Env} {S : St} {a : Act} {w : World} {α : Type} {enc : α → List Value} {s : Nat} {xs : List α} {d : α} (hs : Sat C.B C.W C.w0 E S a w) (i : Nat) (h : atN S.arrs (i, 0, 0) = some (arrOf enc s xs d)) : Arr w enc s (E.χ (i, 0, 0)) xs := arr_of (d := d) ((holds_of hs).1 (i, 0, 0) _ h)
/-- an own list, read -/
theorem own_at {C : Ctx} {E : Env} {S : St} {a : Act} {w : World} (hs : Sat C.B C.W C.w0 E S a w) {α : Type} {ty s : Nat} {enc : α → List Value} {ys : List α} {d : α} (i n : Nat) (hi : look S.own i = some (.one (.ar ys.length s (ats enc ys d) ty))) (hn : n = ys.length) : Arr w enc s ((SC.sl (i, 0, 0) s 0 n none).den E) ys :=
  arr_own hs i _ n _ hi hn (Nat.le_refl _) fun _ _ => rfl
/-- a guarded call that answers a value alone -/
theorem guardW {C : Ctx} {ex : List KI → St → Prop} {f : Nat} {vs : List SV} {r : List IO1} {k : List KI} {S S' : St} {d : Option Nat} {g : Nat} {want e : Bool} {Z Z' : Prop} (tmpl : SV) (u : Value) (hv : ∀ E, tmpl.den E = u) (hc : ∀ E a w, Sat C.B C.W C.w0 E S' a w → Calls C.P f (vs.map (SV.den E)).toArray w (RetV w u))
    (hk : ex (.ops r :: k) ⟨S.nt, S.putT d (.gd g want e tmpl), S.own, S.arrs, S.facts, S.nid⟩) : CallG C ex f vs r k S S' d g want e Z ∨ Z' :=
  Or.inl (Or.inl ⟨tmpl, fun _ => crv_retV tmpl u hv hc, hk⟩)
/-- a call in a region that draws, that answers new memory -/
theorem dcallN {C : Ctx} {bs f : Nat} {vs : List SV} {dst : Option Nat} {U : List Nat} {Si S : St} {done : List Rec} {ex : List Rec → St → Prop} (nx : Nat) (T : Nat → SV) (O : Nat → Own) (hc : ∀ E a w, Sat C.B C.W C.w0 E Si a w → Calls C.P f (vs.map (SV.den E)).toArray w (RetN w nx T O))
    (hkeys : newOk Si.nid nx (keysL (O Si.nid)))
    (h : ex (done ++ [⟨dst, T Si.nid, O Si.nid, [], Si.nid, nx, keysL Si.own, []⟩]) (S.appN ⟨dst, T Si.nid, O Si.nid, [], Si.nid, nx, keysL Si.own, []⟩)) : DCallVC C bs f vs dst U Si done S ex :=
  dcall_intro (cr_retN nx T O hc) rfl trivial (by
    have : ∀ l, newOk Si.nid nx l → wrOk U done Si.nid nx l := by
      intro l
      induction l with
      | nil => intro _; trivial
      | cons a l ih => intro h; exact ⟨Or.inl h.1, ih h.2⟩
    exact this _ hkeys) (fun k hk hlt => absurd (newOk_mem hkeys k hk).1 (by omega)) h
theorem wrI {n : Int} (h : -9223372036854775808 ≤ n ∧ n ≤ 9223372036854775807) : IntKind.i64.wrap n = n := wr64 h.1 h.2
end Go.Proofs.Ytpjdcbofngcdbaa.Z
