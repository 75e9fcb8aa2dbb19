/- A loop's states with names of their own: a state told by other names. No statement of the program. -/
import Derived.Test.YtgljbdcamagdbaaSymK
namespace Go.Proofs.Ytgljbdcamagdbaa
open Go.RowKit

def SC.ren (σ : Nat → Nat) : SC → SC
  | .xv i => .xv (σ i)
  | .ptr id off => .ptr (σ id) off
  | .sl id off len cap => .sl (σ id) off len cap
  | .ep i s k j => .ep (σ i) s k j
  | .v x => .v x
  | .bo e => .bo e
def ren1 (σ : Nat → Nat) : Bool × List SC → Bool × List SC
  | (b, l) => (b, l.map (SC.ren σ))
def SV.ren (σ : Nat → Nat) : SV → SV
  | .c x => .c (x.ren σ)
  | .agg l => .agg (l.map (SC.ren σ))
  | .tup l => .tup (l.map (ren1 σ))
/-- names below a bound -/
def SC.lt (n : Nat) : SC → Bool
  | .xv i => Nat.blt i n
  | .ptr id _ => Nat.blt id n
  | .sl id _ _ _ => Nat.blt id n
  | .ep i _ _ _ => Nat.blt i n
  | _ => true
def SV.lt (n : Nat) : SV → Bool
  | .c x => x.lt n
  | .agg l => l.all (SC.lt n)
  | .tup l => l.all fun p => p.2.all (SC.lt n)

def Env.via (E : Env) (σ : Nat → Nat) : Env := ⟨fun i => E.ρ (σ i), fun i => E.χ (σ i)⟩

theorem blt_lt {a b : Nat} (h : Nat.blt a b = true) : a < b := by
  rw [Nat.blt_eq] at h
  exact h

section
variable {E E' : Env} {σ : Nat → Nat} {n : Nat}
theorem SC.den_ren (hρ : ∀ i, i < n → E'.ρ i = E.ρ (σ i)) (hχ : ∀ i, i < n → E'.χ i = E.χ (σ i)) : ∀ (c : SC), c.lt n = true → c.den E' = (c.ren σ).den E
  | .v _, _ => rfl
  | .bo _, _ => rfl
  | .xv i, h => hχ i (blt_lt h)
  | .ptr id off, h => by simp only [SC.den, SC.ren]; rw [hρ id (blt_lt h)]
  | .sl id off len cap, h => by simp only [SC.den, SC.ren]; rw [hρ id (blt_lt h)]
  | .ep i s k j, h => by simp only [SC.den, SC.ren]; rw [hχ i (blt_lt h)]
theorem list_den_ren (hρ : ∀ i, i < n → E'.ρ i = E.ρ (σ i)) (hχ : ∀ i, i < n → E'.χ i = E.χ (σ i)) (l : List SC) (h : l.all (SC.lt n) = true) : l.map (SC.den E') = (l.map (SC.ren σ)).map (SC.den E) := by
  rw [List.map_map]
  refine List.map_congr_left fun c hc => ?_
  exact SC.den_ren hρ hχ c (List.all_eq_true.1 h c hc)
theorem SV.den_ren (hρ : ∀ i, i < n → E'.ρ i = E.ρ (σ i)) (hχ : ∀ i, i < n → E'.χ i = E.χ (σ i)) : ∀ (v : SV), v.lt n = true → v.den E' = (v.ren σ).den E
  | .c x, h => SC.den_ren hρ hχ x h
  | .agg l, h => by simp only [SV.den, SV.ren]; rw [list_den_ren hρ hχ l h]
  | .tup l, h => by
    simp only [SV.den, SV.ren]
    rw [List.map_map]
    congr 2
    refine List.map_congr_left fun p hp => ?_
    have h1 := List.all_eq_true.1 h p hp
    obtain ⟨b, l'⟩ := p
    cases b
    · cases l' with
      | nil => rfl
      | cons x r =>
        simp only [List.all_cons, Bool.and_eq_true] at h1
        exact SC.den_ren hρ hχ x h1.1
    · simp only [Function.comp, ren1, den1]
      rw [list_den_ren hρ hχ l' h1]
end

/-- each entry, one behind the other -/
def AllL {α : Type} (P : Nat → α → Prop) : List (Nat × α) → Prop
  | [] => True
  | (k, v) :: r => P k v ∧ AllL P r
theorem allL_look {α : Type} {P : Nat → α → Prop} : ∀ {l : List (Nat × α)} {i : Nat} {v : α}, AllL P l → look l i = some v → P i v
  | [], _, _, _, h => by cases h
  | (k, u) :: r, i, v, hP, h => by
    simp only [look] at h
    split at h
    · next e => subst e; cases h; exact hP.1
    · exact allL_look hP.2 h

def injL (σ : Nat → Nat) (l : List Nat) : Bool := l.all fun a => l.all fun b => !(Nat.beq (σ a) (σ b)) || Nat.beq a b
theorem injL_ok {σ : Nat → Nat} {l : List Nat} (h : injL σ l = true) {a b : Nat} (ha : a ∈ l) (hb : b ∈ l) (e : σ a = σ b) : a = b := by
  have h1 := List.all_eq_true.1 (List.all_eq_true.1 h a ha) b hb
  simp only [Bool.or_eq_true, Bool.not_eq_true'] at h1
  rcases h1 with h1 | h1
  · rw [e] at h1
    have := Nat.beq_refl (σ b)
    rw [this] at h1
    cases h1
  · exact Nat.eq_of_beq_eq_true h1

/-- a state told by other names -/
structure Ren (σ : Nat → Nat) (S S' : St) : Prop where
  nt : S'.nt = S.nt
  facts : S'.facts = []
  tmps : AllL (fun t v => v.lt S'.nid = true ∧ look S.tmps t = some (v.ren σ)) S'.tmps
  own : AllL (fun id b => Nat.blt id S'.nid = true ∧ b.1.all (SC.lt S'.nid) = true ∧ look S.own (σ id) = some (b.1.map (SC.ren σ), b.2)) S'.own
  arrs : AllL (fun i A => Nat.blt i S'.nid = true ∧ look S.arrs (σ i) = some A) S'.arrs
  inj : injL σ (keysO S'.own) = true

theorem le_ren {C : Ctx} {S S' : St} (σ : Nat → Nat) (h : Ren σ S S') : Le C S S' := by
  intro E a w hs
  refine ⟨E.via σ, fun E2 hE2 => ?_⟩
  have hs := hs.sat
  have hρ : ∀ i, i < S'.nid → E2.ρ i = E.ρ (σ i) := fun i hi => (hE2.1 i hi).1
  have hχ : ∀ i, i < S'.nid → E2.χ i = E.χ (σ i) := fun i hi => (hE2.1 i hi).2
  have harr : ∀ {w' : World} {i : Nat} {A : ArrF}, look S'.arrs i = some A → ArrAt E w' (σ i) A → ArrAt E2 w' i A := by
    intro w' i A hA hx
    have h1 := allL_look h.arrs hA
    unfold ArrAt
    rw [hχ i (blt_lt h1.1)]
    exact hx
  have hown : ∀ id o, look S'.own id = some o → look S.own (σ id) = some (o.1.map (SC.ren σ), o.2) := fun id o ho => (allL_look h.own ho).2.2
  have hid : ∀ id o, look S'.own id = some o → id < S'.nid := fun id o ho => blt_lt (allL_look h.own ho).1
  obtain ⟨F, hF1, hF2, hF3, hF4⟩ := hs.foot
  refine ⟨hs.size.trans h.nt.symm, hs.defers, hE2.2 (fun i => hs.one _), ?_, hs.below, hs.hB, ?_, ?_, F, ?_, hF2, ?_, ?_⟩
  · intro t v ht
    have h1 := allL_look h.tmps ht
    have h2 := hs.tmps t _ h1.2
    exact ⟨by rw [h.nt]; exact h2.1, by rw [h2.2, SV.den_ren hρ hχ v h1.1]⟩
  · intro id cs ty ho
    have h1 := allL_look h.own ho
    have h2 := hs.own (σ id) _ _ h1.2.2
    rw [hρ id (blt_lt h1.1), list_den_ren hρ hχ cs h1.2.1]
    exact h2
  · intro id id' o o' ho ho' e
    rw [hρ id (hid _ _ ho), hρ id' (hid _ _ ho')] at e
    exact injL_ok h.inj (look_keysO ho) (look_keysO ho') (hs.inj _ _ _ _ (hown _ _ ho) (hown _ _ ho') e)
  · intro id o ho
    rw [hρ id (hid _ _ ho)]
    exact hF1 _ _ (hown _ _ ho)
  · intro w' hw'
    refine ⟨fun i A hA => harr hA ((hF3 w' hw').1 _ _ (allL_look h.arrs hA).2), fun φ hφ => ?_⟩
    rw [h.facts] at hφ
    cases hφ
  · intro w' hw' i A hA hfr
    exact harr hA (hF4 w' hw' _ _ (allL_look h.arrs hA).2 hfr)
end Go.Proofs.Ytgljbdcamagdbaa
