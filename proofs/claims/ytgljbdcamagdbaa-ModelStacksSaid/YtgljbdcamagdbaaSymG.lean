/- The table of a program's types and functions, as the symbolic run reads it. No statement of the program. -/
import Derived.Test.YtgljbdcamagdbaaSymF
namespace Go.Proofs.Ytgljbdcamagdbaa
open Go.RowKit

section
variable (P : Program)

/-- which fields of a struct are integers, which bools; none where it is no flat struct -/
def flatKinds : List Field → Nat → Option (List Bool)
  | [], _ => some []
  | f :: r, i => if f.name = "_" then none else if f.offset = i then match P.underlying f.type with
    | some (.int _) => (flatKinds r (i + 1)).map (true :: ·)
    | some .bool => (flatKinds r (i + 1)).map (false :: ·)
    | _ => none
    else none

def flatOf (t : Nat) : TypeDesc → List Bool
  | .struct fs => if P.stoodInHeld t = false ∧ P.eqGuardType P.depth t = false then (flatKinds P fs.toList 0).getD [] else []
  | _ => []

def tiOf (t : Nat) : Option (Nat × TI) :=
  match P.underlying t, P.info? t with
  | some d, some i => match i.zero with
    | some z => some (t, ⟨d, z, i.size, i.bytes, flatOf P t d⟩)
    | none => none
  | _, _ => none

def fnOkB (f : Nat) : Bool := match P.funcs[f]? with
  | some fn => !(fn.name == "runtime.NumGoroutine") && !fn.body.isNone
  | none => false

def mkTab : Tab := ⟨(List.range P.types.size).filterMap (tiOf P), (List.range P.funcs.size).filter (fnOkB P)⟩

theorem flatKinds_ok : ∀ (fs : List Field) (i : Nat) (ks : List Bool), flatKinds P fs i = some ks → flatFields P ks fs i
  | [], i, ks, h => by
    simp only [flatKinds, Option.some.injEq] at h
    subst h
    trivial
  | f :: r, i, ks, h => by
    simp only [flatKinds] at h
    split at h
    · cases h
    · next hn =>
      split at h
      · next ho =>
        split at h
        · next k hk =>
          simp only [Option.map_eq_some_iff] at h
          obtain ⟨ks', h', rfl⟩ := h
          exact ⟨hn, ho, ⟨k, hk⟩, flatKinds_ok r (i + 1) ks' h'⟩
        · next hk =>
          simp only [Option.map_eq_some_iff] at h
          obtain ⟨ks', h', rfl⟩ := h
          exact ⟨hn, ho, hk, flatKinds_ok r (i + 1) ks' h'⟩
        · cases h
      · cases h

theorem look_filterMap {f : Nat → Option (Nat × TI)} (hf : ∀ t p, f t = some p → p.1 = t) : ∀ (l : List Nat) (t : Nat) (ti : TI), look (l.filterMap f) t = some ti → f t = some (t, ti)
  | [], t, ti, h => by cases h
  | x :: l, t, ti, h => by
    rw [List.filterMap_cons] at h
    split at h
    · exact look_filterMap hf l t ti h
    · next p hp =>
      obtain ⟨k, v⟩ := p
      have := hf x _ hp
      simp only at this
      subst this
      rw [look_cons] at h
      split at h
      · next e =>
        subst e
        simp only [Option.some.injEq] at h
        subst h
        exact hp
      · exact look_filterMap hf l t ti h

theorem mkTab_ok : (mkTab P).Ok P := by
  refine ⟨?_, ?_⟩
  · intro t ti h
    have h1 := look_filterMap (f := tiOf P) (fun t p hp => by
      unfold tiOf at hp
      split at hp
      · split at hp
        · simp only [Option.some.injEq] at hp
          subst hp
          rfl
        · cases hp
      · cases hp) _ t ti h
    unfold tiOf at h1
    split at h1
    · next d i hu hi =>
      split at h1
      · next z hz =>
        simp only [Option.some.injEq, Prod.mk.injEq, true_and] at h1
        subst h1
        refine ⟨hu, by simp [hi, hz], ?_⟩
        intro hfl
        simp only at hfl ⊢
        unfold flatOf at hfl ⊢
        split
        · next fs =>
          simp only at hfl
          split at hfl
          · next hc =>
            rw [if_pos hc]
            cases hk : flatKinds P fs.toList 0 with
            | none => rw [hk] at hfl; exact absurd rfl hfl
            | some ks => exact ⟨hc.1, hc.2, fs, rfl, flatKinds_ok P _ _ _ hk⟩
          · exact absurd rfl hfl
        · next hne =>
          exfalso
          cases d <;> simp_all
      · cases h1
    · cases h1
  · intro f hf
    have h := (List.mem_filter.1 hf).2
    unfold fnOkB at h
    split at h
    · next fn hfn =>
      simp only [Bool.and_eq_true, Bool.not_eq_true'] at h
      exact ⟨fn, hfn, h.1, h.2⟩
    · cases h
end
end Go.Proofs.Ytgljbdcamagdbaa
