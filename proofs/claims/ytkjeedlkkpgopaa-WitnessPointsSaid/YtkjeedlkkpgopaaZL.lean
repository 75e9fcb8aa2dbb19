
/- A state told by other names; what a function comes to, as its callers use it. No statement of the program. -/
import Derived.Test.YtkjeedlkkpgopaaZK
namespace Go.Proofs.Ytkjeedlkkpgopaa.Z
open Go Go.RowKit
set_option linter.unusedSimpArgs false
set_option linter.unusedVariables false

mutual
def SC.ren (σ : Nm → Nm) : SC → SC
  | .v x => .v x
  | .bo e => .bo e
  | .xv x => .xv (σ x)
  | .ptr x off => .ptr (σ x) off
  | .sl x s o n c => .sl (σ x) s o n c
  | .pe x s e j => .pe (σ x) s e j
  | .xs x s o n c => .xs (σ x) s o n c
  | .ep x s e j => .ep (σ x) s e j
  | .mp x => .mp (σ x)
  | .ifc t c => .ifc t (SC.ren σ c)
  | .fn f l r => .fn f (SC.renL σ l) (SC.renL σ r)
def SC.renL (σ : Nm → Nm) : List SC → List SC
  | [] => []
  | c :: r => SC.ren σ c :: SC.renL σ r
end
def ren1 (σ : Nm → Nm) : Bool × List SC → Bool × List SC
  | (b, l) => (b, SC.renL σ l)
def ren1L (σ : Nm → Nm) : List (Bool × List SC) → List (Bool × List SC)
  | [] => []
  | p :: l => ren1 σ p :: ren1L σ l
def SV.ren (σ : Nm → Nm) : SV → SV
  | .c x => .c (x.ren σ)
  | .agg l => .agg (SC.renL σ l)
  | .tup l => .tup (ren1L σ l)
  | .gd g w e v => .gd g w e (v.ren σ)

mutual
/-- all names in it are such -/
def SC.okN (p : Nat → Prop) : SC → Prop
  | .v _ => True
  | .bo _ => True
  | .xv x => p x.1
  | .ptr x _ => p x.1
  | .sl x _ _ _ _ => p x.1
  | .pe x _ _ _ => p x.1
  | .xs x _ _ _ _ => p x.1
  | .ep x _ _ _ => p x.1
  | .mp x => p x.1
  | .ifc _ c => SC.okN p c
  | .fn _ l r => SC.okL p l ∧ SC.okL p r
def SC.okL (p : Nat → Prop) : List SC → Prop
  | [] => True
  | c :: r => SC.okN p c ∧ SC.okL p r
end
def ok1L (p : Nat → Prop) : List (Bool × List SC) → Prop
  | [] => True
  | q :: l => SC.okL p q.2 ∧ ok1L p l
def SV.okN (p : Nat → Prop) : SV → Prop
  | .c x => x.okN p
  | .agg l => SC.okL p l
  | .tup l => ok1L p l
  | .gd _ _ _ v => v.okN p

theorem renL_eq (σ : Nm → Nm) : ∀ l, SC.renL σ l = l.map (SC.ren σ)
  | [] => by simp [SC.renL]
  | c :: r => by simp [SC.renL, renL_eq σ r]

/-- x in E2 stands for what σ x stands for in E -/
def SameR (σ : Nm → Nm) (E E2 : Env) (x : Nm) : Prop := E2.ρ x = E.ρ (σ x) ∧ E2.κ x = E.κ (σ x) ∧ E2.ν x = E.ν (σ x) ∧ E2.χ x = E.χ (σ x)

section
variable {p : Nat → Prop} {σ : Nm → Nm} {E E2 : Env}
mutual
theorem den_ren (h : ∀ x : Nm, p x.1 → SameR σ E E2 x) : ∀ (c : SC), c.okN p → c.den E2 = (c.ren σ).den E
  | .v x, _ => by simp [SC.den, SC.ren]
  | .bo x, _ => by simp [SC.den, SC.ren]
  | .xv x, hc => by simp only [SC.den, SC.ren]; exact (h x hc).2.2.2
  | .ptr x off, hc => by simp only [SC.den, SC.ren]; rw [(h x hc).1]
  | .sl x s o n c, hc => by simp only [SC.den, SC.ren]; rw [(h x hc).1, (h x hc).2.1, (h x hc).2.2.1]
  | .pe x s e j, hc => by simp only [SC.den, SC.ren]; rw [(h x hc).1]
  | .xs x s o n c, hc => by simp only [SC.den, SC.ren]; rw [(h x hc).2.2.2]
  | .ep x s e j, hc => by simp only [SC.den, SC.ren]; rw [(h x hc).2.2.2]
  | .mp x, hc => by simp only [SC.den, SC.ren]; rw [(h x hc).1]
  | .ifc t c, hc => by simp only [SC.den, SC.ren]; rw [den_ren h c hc]
  | .fn f l r, hc => by simp only [SC.den, SC.ren]; rw [denL_ren h l hc.1, denL_ren h r hc.2]
theorem denL_ren (h : ∀ x : Nm, p x.1 → SameR σ E E2 x) : ∀ (l : List SC), SC.okL p l → SC.denL E2 l = SC.denL E (SC.renL σ l)
  | [], _ => by simp [SC.denL, SC.renL]
  | c :: r, hc => by simp only [SC.denL, SC.renL]; rw [den_ren h c hc.1, denL_ren h r hc.2]
end
theorem map_ren (h : ∀ x : Nm, p x.1 → SameR σ E E2 x) (l : List SC) (hl : SC.okL p l) : l.map (SC.den E2) = (SC.renL σ l).map (SC.den E) := by
  rw [← denL_eq, ← denL_eq]; exact denL_ren h l hl
theorem den1_ren (h : ∀ x : Nm, p x.1 → SameR σ E E2 x) (q : Bool × List SC) (hq : SC.okL p q.2) : den1 E2 q = den1 E (ren1 σ q) := by
  obtain ⟨b, l⟩ := q
  cases b with
  | true => simp only [den1, ren1]; rw [map_ren h l hq]
  | false =>
    cases l with
    | nil => rfl
    | cons x r => exact den_ren h x hq.1
theorem tup_ren (h : ∀ x : Nm, p x.1 → SameR σ E E2 x) : ∀ (l : List (Bool × List SC)), ok1L p l → l.map (den1 E2) = (ren1L σ l).map (den1 E)
  | [], _ => rfl
  | q :: l, hl => by simp only [List.map_cons, ren1L]; rw [den1_ren h q hl.1, tup_ren h l hl.2]
theorem sv_ren (h : ∀ x : Nm, p x.1 → SameR σ E E2 x) : ∀ (v : SV), v.okN p → v.den E2 = (v.ren σ).den E
  | .c x, hv => den_ren h x hv
  | .agg l, hv => by simp only [SV.den, SV.ren]; rw [map_ren h l hv]
  | .tup l, hv => by simp only [SV.den, SV.ren]; rw [tup_ren h l hv]
  | .gd g w e v, hv => by simp only [SV.den, SV.ren]; rw [sv_ren h v hv]
end

/-- an entry told by other names (b' of b) -/
def BlkLe (p : Nat → Prop) (σ : Nm → Nm) (b b' : Blk) : Prop := match b', b with
  | .no, .no => True
  | .bk cs' ty', .bk cs ty => cs = SC.renL σ cs' ∧ ty = ty' ∧ SC.okL p cs'
  | .ar n' s' at' ty', .ar n s at_ ty => n' ≤ n ∧ s = s' ∧ ty = ty' ∧ ∀ e, e < n' → at_ e = SC.renL σ (at' e) ∧ SC.okL p (at' e)
  | .mp kk' kd' f', .mp kk kd f => kk = kk' ∧ kd = kd' ∧ ∀ a, f a = f' a
  | .pr φ', .pr φ => ∀ E E2, (∀ x : Nm, p x.1 → SameR σ E E2 x) → ∀ h, φ E h → φ' E2 h
  | _, _ => False

theorem mem_renL {σ : Nm → Nm} {l : List SC} {j : Nat} {u : SC} (h : l[j]? = some u) : (SC.renL σ l)[j]? = some (u.ren σ) := by
  rw [renL_eq, List.getElem?_map, h]; rfl
theorem okL_mem {p : Nat → Prop} : ∀ {l : List SC} {j : Nat} {u : SC}, SC.okL p l → l[j]? = some u → u.okN p
  | [], j, u, _, h => by simp at h
  | c :: r, 0, u, hl, h => by
    simp only [List.getElem?_cons_zero, Option.some.injEq] at h
    subst h
    exact hl.1
  | c :: r, j + 1, u, hl, h => okL_mem hl.2 (by simpa using h)

theorem blk_le {p : Nat → Prop} {σ : Nm → Nm} {E E2 : Env} (h : ∀ x : Nm, p x.1 → SameR σ E E2 x) {x : Nm} (hx : p x.1) {b b' : Blk} (hb : BlkLe p σ b b') {hp : PH} (hd : b.den E (σ x) hp) : b'.den E2 x hp := by
  have hs := h x hx
  unfold BlkLe at hb
  split at hb
  · exact hd
  · obtain ⟨h1, rfl, h3⟩ := hb
    simp only [Blk.den] at hd ⊢
    rw [hd, hs.1, h1, map_ren h _ h3]
  · obtain ⟨h1, rfl, rfl, h4⟩ := hb
    simp only [Blk.den] at hd ⊢
    rw [hs.1, hs.2.1, hs.2.2.1]
    rcases hd with ⟨g1, g2, g3, g4⟩ | ⟨g1, g2, g3, cells, g4, g5, g6⟩
    · exact Or.inl ⟨g1, g2, by omega, g4⟩
    · refine Or.inr ⟨g1, by omega, g3, cells, g4, g5, fun e he => ?_⟩
      obtain ⟨h5, h6⟩ := h4 e he
      obtain ⟨f1, f2⟩ := g6 e (by omega)
      rw [h5] at f1 f2
      refine ⟨by rw [renL_eq, List.length_map] at f1; exact f1, fun j u hu => ?_⟩
      have := f2 j _ (mem_renL hu)
      rw [den_ren h u (okL_mem h6 hu)]
      exact this
  · obtain ⟨rfl, rfl, h2⟩ := hb
    simp only [Blk.den] at hd ⊢
    rw [hs.1]
    obtain ⟨es, clock, g1, L, g2, g3, g4, g5⟩ := hd
    exact ⟨es, clock, g1, L, g2, g3, g4, fun a ha => by rw [← h2]; exact g5.1 a ha, g5.2⟩
  · exact hb E E2 h hp hd
  · exact hb.elim

def BlkLeO (p : Nat → Prop) (σ : Nm → Nm) : Option Blk → Blk → Prop
  | some b, b' => BlkLe p σ b b'
  | none, _ => False
/-- entries told by other names -/
def OwnLe (p : Nat → Prop) (σ : Nm → Nm) (own : Own) : Own → Prop
  | [] => True
  | (i, F) :: r => (p i ∧ match F with
    | .one b' => BlkLeO p σ (atN own (σ (i, 0, 0))) b'
    | .fam n f => ∀ k, k < n → BlkLeO p σ (atN own (σ (i, k, 0))) (f k)
    | .fam2 n m f => ∀ k l, k < n → l < m k → BlkLeO p σ (atN own (σ (i, k, l))) (f k l)) ∧ OwnLe p σ own r
theorem ownLe_at {p : Nat → Prop} {σ : Nm → Nm} {own : Own} : ∀ {own' : Own}, OwnLe p σ own own' → ∀ {x : Nm} {b' : Blk}, atN own' x = some b' → p x.1 ∧ ∃ b, atN own (σ x) = some b ∧ BlkLe p σ b b'
  | [], _, x, b', h => by simp [atN, look] at h
  | (i, F) :: r, hl, x, b', h => by
    obtain ⟨⟨hp, hF⟩, hr⟩ := hl
    have get : ∀ {o : Option Blk} {b' : Blk}, BlkLeO p σ o b' → ∃ b, o = some b ∧ BlkLe p σ b b' := by
      intro o b' h
      cases o with
      | none => exact h.elim
      | some b => exact ⟨b, rfl, h⟩
    obtain ⟨j, k, l⟩ := x
    simp only [atN, look_cons] at h
    by_cases e : i = j
    · subst e
      rw [if_pos rfl] at h
      cases F with
      | one c =>
        simp only [Fm.get] at h
        split at h
        · next e =>
          obtain ⟨rfl, rfl⟩ := e
          cases h
          exact ⟨hp, get hF⟩
        · cases h
      | fam n f =>
        simp only [Fm.get] at h
        split at h
        · next e =>
          obtain ⟨hk, rfl⟩ := e
          cases h
          exact ⟨hp, get (hF k hk)⟩
        · cases h
      | fam2 n m f =>
        simp only [Fm.get] at h
        split at h
        · next e =>
          cases h
          exact ⟨hp, get (hF k l e.1 e.2)⟩
        · cases h
    · rw [if_neg e] at h
      exact ownLe_at hr (x := (j, k, l)) h

def ArrLe (p : Nat → Prop) (σ : Nm → Nm) (A A' : ArrF) : Prop := A.len = A'.len ∧ A.size = A'.size ∧ (∀ e, e < A'.len → A.at_ e = SC.renL σ (A'.at_ e) ∧ SC.okL p (A'.at_ e)) ∧ A'.low ≤ A.low
def ArrLeO (p : Nat → Prop) (σ : Nm → Nm) : Option ArrF → ArrF → Prop
  | some b, b' => ArrLe p σ b b'
  | none, _ => False
def ArrsLe (p : Nat → Prop) (σ : Nm → Nm) (arrs : List (Nat × Fm ArrF)) : List (Nat × Fm ArrF) → Prop
  | [] => True
  | (i, F) :: r => (p i ∧ match F with
    | .one b' => ArrLeO p σ (atN arrs (σ (i, 0, 0))) b'
    | .fam n f => ∀ k, k < n → ArrLeO p σ (atN arrs (σ (i, k, 0))) (f k)
    | .fam2 n m f => ∀ k l, k < n → l < m k → ArrLeO p σ (atN arrs (σ (i, k, l))) (f k l)) ∧ ArrsLe p σ arrs r
theorem arrsLe_at {p : Nat → Prop} {σ : Nm → Nm} {own : List (Nat × Fm ArrF)} : ∀ {own' : List (Nat × Fm ArrF)}, ArrsLe p σ own own' → ∀ {x : Nm} {b' : ArrF}, atN own' x = some b' → p x.1 ∧ ∃ b, atN own (σ x) = some b ∧ ArrLe p σ b b'
  | [], _, x, b', h => by simp [atN, look] at h
  | (i, F) :: r, hl, x, b', h => by
    obtain ⟨⟨hp, hF⟩, hr⟩ := hl
    have get : ∀ {o : Option ArrF} {b' : ArrF}, ArrLeO p σ o b' → ∃ b, o = some b ∧ ArrLe p σ b b' := by
      intro o b' h
      cases o with
      | none => exact h.elim
      | some b => exact ⟨b, rfl, h⟩
    obtain ⟨j, k, l⟩ := x
    simp only [atN, look_cons] at h
    by_cases e : i = j
    · subst e
      rw [if_pos rfl] at h
      cases F with
      | one c =>
        simp only [Fm.get] at h
        split at h
        · next e =>
          obtain ⟨rfl, rfl⟩ := e
          cases h
          exact ⟨hp, get hF⟩
        · cases h
      | fam n f =>
        simp only [Fm.get] at h
        split at h
        · next e =>
          obtain ⟨hk, rfl⟩ := e
          cases h
          exact ⟨hp, get (hF k hk)⟩
        · cases h
      | fam2 n m f =>
        simp only [Fm.get] at h
        split at h
        · next e =>
          cases h
          exact ⟨hp, get (hF k l e.1 e.2)⟩
        · cases h
    · rw [if_neg e] at h
      exact arrsLe_at hr (x := (j, k, l)) h

def TmpsLe (p : Nat → Prop) (σ : Nm → Nm) (tmps : List (Nat × SV)) : List (Nat × SV) → Prop
  | [] => True
  | (t, v) :: r => (look tmps t = some (v.ren σ) ∧ v.okN p) ∧ TmpsLe p σ tmps r
theorem tmpsLe_at {p : Nat → Prop} {σ : Nm → Nm} {tmps : List (Nat × SV)} : ∀ {l : List (Nat × SV)}, TmpsLe p σ tmps l → ∀ {t : Nat} {v : SV}, look l t = some v → look tmps t = some (v.ren σ) ∧ v.okN p
  | [], _, t, v, h => by cases h
  | (k, u) :: r, hl, t, v, h => by
    rw [look_cons] at h
    split at h
    · next e => subst e; cases h; exact hl.1
    · exact tmpsLe_at hl.2 h

/-- names by their numbers alone -/
def idσ (τ : Nat → Nat) (x : Nm) : Nm := (τ x.1, x.2)
def injL (τ : Nat → Nat) (l : List Nat) : Bool := l.all fun a => l.all fun b => !(Nat.beq (τ a) (τ b)) || Nat.beq a b
theorem injL_ok {τ : Nat → Nat} {l : List Nat} (h : injL τ l = true) {a b : Nat} (ha : a ∈ l) (hb : b ∈ l) (e : τ a = τ b) : a = b := by
  have h1 := List.all_eq_true.1 (List.all_eq_true.1 h a ha) b hb
  simp only [Bool.or_eq_true, Bool.not_eq_true'] at h1
  rcases h1 with h1 | h1
  · rw [e] at h1
    have := Nat.beq_refl (τ b)
    rw [this] at h1
    cases h1
  · exact Nat.eq_of_beq_eq_true h1
def InjN (σ : Nm → Nm) (own : Own) : Prop := ∀ x y b c, atN own x = some b → atN own y = some c → σ x = σ y → x = y
theorem injN_id {τ : Nat → Nat} {own : Own} (h : injL τ (keysL own) = true) : InjN (idσ τ) own := by
  intro x y b c hx hy e
  obtain ⟨F, hF, _⟩ := atN_some hx
  obtain ⟨G, hG, _⟩ := atN_some hy
  unfold idσ at e
  simp only [Prod.mk.injEq] at e
  have := injL_ok h (look_keysL hF) (look_keysL hG) e.1
  exact Prod.ext this e.2

/-- a state told by other names -/
structure Ren (σ : Nm → Nm) (S S' : St) : Prop where
  nt : S'.nt = S.nt
  facts : S'.facts = []
  tmps : TmpsLe (· < S'.nid) σ S.tmps S'.tmps
  own : OwnLe (· < S'.nid) σ S.own S'.own
  arrs : ArrsLe (· < S'.nid) σ S.arrs S'.arrs
  inj : InjN σ S'.own

def Env.via (E : Env) (σ : Nm → Nm) : Env := ⟨fun x => E.ρ (σ x), fun x => E.κ (σ x), fun x => E.ν (σ x), fun x => E.χ (σ x)⟩

theorem le_nm {C : Ctx} {S S' : St} (σ : Nm → Nm) (h : Ren σ S S') : Le C S S' := by
  intro E a w hs
  refine ⟨E.via σ, fun x => hs.1 _, fun E2 hE2 ho2 => ?_⟩
  have hs := hs.sat
  have hR : ∀ x : Nm, x.1 < S'.nid → SameR σ E E2 x := fun x hx => hE2 x hx
  obtain ⟨H, hH, hF⟩ := hs.mem
  have hat : ∀ x b', atN S'.own x = some b' → x.1 < S'.nid ∧ ∃ b, atN S.own (σ x) = some b ∧ BlkLe (· < S'.nid) σ b b' := fun x b' hx => ownLe_at h.own hx
  refine ⟨hs.size.trans h.nt.symm, hs.defers, ho2, ?_, hs.frame, fun x => H (σ x), ⟨?_, ?_, ?_⟩, ?_⟩
  · intro t v ht
    obtain ⟨h1, h2⟩ := tmpsLe_at h.tmps ht
    obtain ⟨g1, g2⟩ := hs.tmps t _ h1
    exact ⟨by rw [h.nt]; exact g1, by rw [g2, sv_ren hR v h2]⟩
  · intro x b' hx
    obtain ⟨h1, b, h2, h3⟩ := hat x b' hx
    exact blk_le hR h1 h3 (hH.den _ _ h2)
  · intro x y b' c' hx hy hne n
    obtain ⟨_, b, h2, _⟩ := hat x b' hx
    obtain ⟨_, c, g2, _⟩ := hat y c' hy
    exact hH.disj _ _ b c h2 g2 (fun e => hne (h.inj x y b' c' hx hy e)) n
  · intro x b' hx n o hn
    obtain ⟨_, b, h2, _⟩ := hat x b' hx
    exact hH.sub _ b h2 n o hn
  · intro w' hw'
    have hold := hF w' (fun n hn hfr => hw' n hn (fun x b' hx => let ⟨_, b, h2, _⟩ := hat x b' hx; hfr _ b h2))
    refine ⟨fun x A' hA => ?_, fun φ hφ => by rw [h.facts] at hφ; cases hφ⟩
    obtain ⟨h1, A, h2, h3, h4, h5, h6⟩ := arrsLe_at h.arrs hA
    obtain ⟨ba, cap, g1, g2, g3, g4⟩ := hold.1 _ A h2
    refine ⟨ba, cap, by rw [(hR x h1).2.2.2, g1, h3], by omega, g3, ?_⟩
    rcases g4 with g4 | ⟨b, off, rfl, gl, g4⟩
    · exact Or.inl (by omega)
    · refine Or.inr ⟨b, off, rfl, Nat.le_trans h6 gl, fun k hk => ?_⟩
      obtain ⟨f1, f2⟩ := g4 k (by omega)
      obtain ⟨e1, e2⟩ := h5 k hk
      rw [e1] at f1 f2
      refine ⟨by rw [renL_eq, List.length_map] at f1; omega, fun j u hu => ?_⟩
      have := f2 j _ (mem_renL hu)
      rw [den_ren hR u (okL_mem e2 hu), ← h4]
      exact this
theorem le_ren {C : Ctx} {S S' : St} (τ : Nat → Nat) (h1 : S'.nt = S.nt) (h2 : S'.facts = []) (h3 : TmpsLe (· < S'.nid) (idσ τ) S.tmps S'.tmps) (h4 : OwnLe (· < S'.nid) (idσ τ) S.own S'.own) (h5 : ArrsLe (· < S'.nid) (idσ τ) S.arrs S'.arrs) (h6 : injL τ (keysL S'.own) = true) : Le C S S' :=
  le_nm (idσ τ) ⟨h1, h2, h3, h4, h5, injN_id h6⟩

/-! ### what a function comes to -/
/-- a function that hands nothing in for writing -/
def mkC (P : Program) (A : List Nat) (w : World) (rs : List RS) (R : Ending → World → Prop) : Ctx := ⟨P, mkTab P A, w.heap.size, fun _ => False, w, rs, R⟩
theorem mkC_rs (P : Program) (A : List Nat) (w : World) (rs : List RS) (R : Ending → World → Prop) : (mkC P A w rs R).rs = rs := rfl
theorem below_of {P : Program} {A : List Nat} {w w' : World} {rs : List RS} {R : Ending → World → Prop} {E : Env} {S : St} {a : Act} (hs : Sat (mkC P A w rs R).B (mkC P A w rs R).W (mkC P A w rs R).w0 E S a w') : Below w.heap.size w w' :=
  ⟨hs.frame.os, hs.frame.tape, hs.frame.output, hs.frame.size, fun n hn => hs.frame.keep n hn (fun h => h)⟩

theorem inOk_nil {P : Program} {A : List Nat} {w : World} {rs : List RS} {R : Ending → World → Prop} {E : Env} : InOk (mkC P A w rs R) E [] [] [] w :=
  ⟨fun _ => emp, fun x b h => by simp [atN, look] at h, fun x y b c h => by simp [atN, look] at h, fun x b h => by simp [atN, look] at h, fun w' _ => ⟨fun x A h => by simp [atN, look] at h, fun φ h => by cases h⟩⟩
/-- a value alone -/
def RetV (w : World) (v : Value) (e : Ending) (w' : World) : Prop := e = .returned v ∧ Below w.heap.size w w'
theorem retV {P : Program} {A : List Nat} {w : World} {rs : List RS} {u : Value} {v : SV} {S : St} (hv : ∀ E, v.den E = u) : RetVC (mkC P A w rs (RetV w u)) v S := by
  intro E a w' hs
  exact ⟨by rw [hv], below_of hs.sat⟩
theorem cr_retV {C : Ctx} {S : St} {f : Nat} {vs : List SV} (tmpl : SV) (u : Value) (hv : ∀ E, tmpl.den E = u) (h : ∀ E a w, Sat C.B C.W C.w0 E S a w → Calls C.P f (vs.map (SV.den E)).toArray w (RetV w u)) : CR C f vs S [] tmpl 0 [] [] :=
  cr_val tmpl u hv h

/-- a value with new memory of its own; T, O: the pattern and the entries, from a first name on -/
def RetN (w : World) (nx : Nat) (T : Nat → SV) (O : Nat → Own) (e : Ending) (w' : World) : Prop :=
  ∃ v, e = .returned v ∧ Below w.heap.size w w' ∧ ∀ b, ∃ N : Env, OneC N ∧ ∀ E2, AgreeD (NewIds b nx) N E2 → v = (T b).den E2 ∧
    ∃ H : Nm → PH, (∀ x c, atN (O b) x = some c → c.den E2 x (H x)) ∧ (∀ x y c d, atN (O b) x = some c → atN (O b) y = some d → x ≠ y → ∀ n, H x n = none ∨ H y n = none) ∧
      ∀ x c, atN (O b) x = some c → ∀ n o, H x n = some o → w'.heap[n]? = some o ∧ w.heap.size ≤ n

theorem cr_retN {C : Ctx} {S : St} {f : Nat} {vs : List SV} (nx : Nat) (T : Nat → SV) (O : Nat → Own) (h : ∀ E a w, Sat C.B C.W C.w0 E S a w → Calls C.P f (vs.map (SV.den E)).toArray w (RetN w nx T O)) : CR C f vs S [] (T S.nid) nx (O S.nid) [] := by
  intro E a w hs
  refine (h E a w hs).mono ?_
  rintro e w' ⟨v, rfl, hb, hN⟩
  obtain ⟨N, hN1, hN2⟩ := hN S.nid
  refine ⟨v, rfl, N, hN1, fun E2 _ _ hag => ?_⟩
  obtain ⟨h1, H, h2, h3, h4⟩ := hN2 E2 hag
  exact ⟨h1, Fits.G ⟨fun _ _ => ⟨hb.os, hb.tape, hb.output, hb.size, fun n hn _ => hb.block n hn, H, h2, h3, fun x c hc n o hn => ⟨(h4 x c hc n o hn).1, Or.inl (h4 x c hc n o hn).2⟩⟩, fun _ _ x A hA => by simp [atN, look] at hA⟩⟩

/-- from b on: the names of a list of a state's numbers -/
def fromσ (b : Nat) (σ : Nat → Nat) (x : Nm) : Nm := (σ (x.1 - b), x.2)
theorem retN {P : Program} {A : List Nat} {w : World} {rs : List RS} {nx : Nat} {T : Nat → SV} {O : Nat → Own} {v : SV} {S : St} (σ : Nat → Nat) (hv : ∀ b, v = (T b).ren (fromσ b σ) ∧ (T b).okN (NewIds b nx))
    (ho : ∀ b, OwnLe (NewIds b nx) (fromσ b σ) S.own (O b)) (hi : ∀ b, InjN (fromσ b σ) (O b)) : RetVC (mkC P A w rs (RetN w nx T O)) v S := by
  intro E a w' hs
  have hs := hs.sat
  refine ⟨_, rfl, below_of hs, fun b => ⟨E.via (fromσ b σ), fun x => hs.one _, fun E2 hE2 => ?_⟩⟩
  have hR : ∀ x : Nm, NewIds b nx x.1 → SameR (fromσ b σ) E E2 x := fun x hx => hE2 x hx
  obtain ⟨H, hH, _⟩ := hs.mem
  have hat : ∀ x c, atN (O b) x = some c → NewIds b nx x.1 ∧ ∃ d, atN S.own (fromσ b σ x) = some d ∧ BlkLe (NewIds b nx) (fromσ b σ) d c := fun x c hx => ownLe_at (ho b) hx
  refine ⟨?_, fun x => H (fromσ b σ x), ?_, ?_, ?_⟩
  · rw [sv_ren hR _ (hv b).2, ← (hv b).1]
  · intro x c hx
    obtain ⟨h1, d, h2, h3⟩ := hat x c hx
    exact blk_le hR h1 h3 (hH.den _ _ h2)
  · intro x y c d hx hy hne n
    obtain ⟨_, c', h2, _⟩ := hat x c hx
    obtain ⟨_, d', g2, _⟩ := hat y d hy
    exact hH.disj _ _ c' d' h2 g2 (fun e => hne (hi b x y c d hx hy e)) n
  · intro x c hx n o hn
    obtain ⟨_, c', h2, _⟩ := hat x c hx
    obtain ⟨h3, h4⟩ := hH.sub _ c' h2 n o hn
    refine ⟨h3, ?_⟩
    rcases h4 with h4 | h4
    · exact h4
    · exact h4.elim
theorem injN_from {b : Nat} {σ : Nat → Nat} {own : Own} (h : ∀ i ∈ keysL own, ∀ j ∈ keysL own, σ (i - b) = σ (j - b) → i = j) : InjN (fromσ b σ) own := by
  intro x y c d hx hy e
  obtain ⟨F, hF, _⟩ := atN_some hx
  obtain ⟨G, hG, _⟩ := atN_some hy
  unfold fromσ at e
  simp only [Prod.mk.injEq] at e
  exact Prod.ext (h _ (look_keysL hF) _ (look_keysL hG) e.1) e.2

/-- both ways -/
theorem both {b : Bool} {A B : Prop} (hA : b = true → A) (hB : b = false → B) : (b = true → A) ∧ (b = false → B) := ⟨hA, hB⟩
/-! ### a way that is not gone (ahead of what stands in it) -/
theorem imp_ft (q : Prop) : (false = true → q) = True := by simp
theorem imp_tf (q : Prop) : (true = false → q) = True := by simp
theorem imp_tt (q : Prop) : (true = true → q) = q := by simp
theorem imp_ff (q : Prop) : (false = false → q) = q := by simp
theorem imp_fn (q : Prop) : (false = (!false) → q) = True := by simp
theorem imp_tn (q : Prop) : (true = (!true) → q) = True := by simp
theorem imp_fy (q : Prop) : (true = (!false) → q) = q := by simp
theorem imp_ty (q : Prop) : (false = (!true) → q) = q := by simp
end Go.Proofs.Ytkjeedlkkpgopaa.Z
