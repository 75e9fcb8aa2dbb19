/- SplitLooksSaid: what its proof is made of. No condition. -/
import Derived.Test.YtpjdcbofngcdbaaPkSSplitLooksAF
set_option linter.unusedSimpArgs false
set_option linter.unusedVariables false
namespace Go.Proofs.Ytpjdcbofngcdbaa.Z
open Go Go.RowKit
mutual
def SC.ren (σ : Nm → Nm) : SC → SC
 | .v x => .v x
 | .bo e => .bo e
 | .xv x => .xv (σ x)
 | .ptr x off => .ptr (σ x) off
 | .sl x s o n c => .sl (σ x) s o n c
 | .pe x s e j => .pe (σ x) s e j
 | .xs x s o n c => .xs (σ x) s o n c
 | .ep x s e j => .ep (σ x) s e j
 | .mp x => .mp (σ x)
 | .ifc t c => .ifc t (SC.ren σ c)
 | .fn f l r => .fn f (SC.renL σ l) (SC.renL σ r)
def SC.renL (σ : Nm → Nm) : List SC → List SC
 | [] => []
 | c :: r => SC.ren σ c :: SC.renL σ r
end
def ren1 (σ : Nm → Nm) : Bool × List SC → Bool × List SC
 | (b, l) => (b, SC.renL σ l)
def ren1L (σ : Nm → Nm) : List (Bool × List SC) → List (Bool × List SC)
 | [] => []
 | p :: l => ren1 σ p :: ren1L σ l
def SV.ren (σ : Nm → Nm) : SV → SV
 | .c x => .c (x.ren σ)
 | .agg l => .agg (SC.renL σ l)
 | .tup l => .tup (ren1L σ l)
 | .gd g w e v => .gd g w e (v.ren σ)
mutual
def SC.okN (p : Nat → Prop) : SC → Prop
 | .v _ => True
 | .bo _ => True
 | .xv x => p x.1
 | .ptr x _ => p x.1
 | .sl x _ _ _ _ => p x.1
 | .pe x _ _ _ => p x.1
 | .xs x _ _ _ _ => p x.1
 | .ep x _ _ _ => p x.1
 | .mp x => p x.1
 | .ifc _ c => SC.okN p c
 | .fn _ l r => SC.okL p l ∧ SC.okL p r
def SC.okL (p : Nat → Prop) : List SC → Prop
 | [] => True
 | c :: r => SC.okN p c ∧ SC.okL p r
end
def ok1L (p : Nat → Prop) : List (Bool × List SC) → Prop
 | [] => True
 | q :: l => SC.okL p q.2 ∧ ok1L p l
def SV.okN (p : Nat → Prop) : SV → Prop
 | .c x => x.okN p
 | .agg l => SC.okL p l
 | .tup l => ok1L p l
 | .gd _ _ _ v => v.okN p
theorem renL_eq (σ : Nm → Nm) : ∀ l, SC.renL σ l = l.map (SC.ren σ)
 | [] => by simp [SC.renL]
 | c :: r => by simp [SC.renL, renL_eq σ r]
def SameR (σ : Nm → Nm) (E E2 : Env) (x : Nm) : Prop := E2.ρ x = E.ρ (σ x) ∧ E2.κ x = E.κ (σ x) ∧ E2.ν x = E.ν (σ x) ∧ E2.χ x = E.χ (σ x)
section
variable {p : Nat → Prop} {σ : Nm → Nm} {E E2 : Env}
mutual
theorem den_ren (h : ∀ x : Nm, p x.1 → SameR σ E E2 x) : ∀ (c : SC), c.okN p → c.den E2 = (c.ren σ).den E
 | .v x, _ => by simp [SC.den, SC.ren]
 | .bo x, _ => by simp [SC.den, SC.ren]
 | .xv x, hc => by simp only [SC.den, SC.ren]; exact (h x hc).2.2.2
 | .ptr x off, hc => by simp only [SC.den, SC.ren]; rw [(h x hc).1]
 | .sl x s o n c, hc => by simp only [SC.den, SC.ren]; rw [(h x hc).1, (h x hc).2.1, (h x hc).2.2.1]
 | .pe x s e j, hc => by simp only [SC.den, SC.ren]; rw [(h x hc).1]
 | .xs x s o n c, hc => by simp only [SC.den, SC.ren]; rw [(h x hc).2.2.2]
 | .ep x s e j, hc => by simp only [SC.den, SC.ren]; rw [(h x hc).2.2.2]
 | .mp x, hc => by simp only [SC.den, SC.ren]; rw [(h x hc).1]
 | .ifc t c, hc => by simp only [SC.den, SC.ren]; rw [den_ren h c hc]
 | .fn f l r, hc => by simp only [SC.den, SC.ren]; rw [denL_ren h l hc.1, denL_ren h r hc.2]
theorem denL_ren (h : ∀ x : Nm, p x.1 → SameR σ E E2 x) : ∀ (l : List SC), SC.okL p l → SC.denL E2 l = SC.denL E (SC.renL σ l)
 | [], _ => by simp [SC.denL, SC.renL]
 | c :: r, hc => by simp only [SC.denL, SC.renL]; rw [den_ren h c hc.1, denL_ren h r hc.2]
end
theorem map_ren (h : ∀ x : Nm, p x.1 → SameR σ E E2 x) (l : List SC) (hl : SC.okL p l) : l.map (SC.den E2) = (SC.renL σ l).map (SC.den E) := by
 rw [← denL_eq, ← denL_eq]; exact denL_ren h l hl
theorem den1_ren (h : ∀ x : Nm, p x.1 → SameR σ E E2 x) (q : Bool × List SC) (hq : SC.okL p q.2) : den1 E2 q = den1 E (ren1 σ q) := by
 obtain ⟨b, l⟩ := q
 cases b with
 | true => simp only [den1, ren1]; rw [map_ren h l hq]
 | false =>
  cases l with
  | nil => rfl
  | cons x r => exact den_ren h x hq.1
theorem tup_ren (h : ∀ x : Nm, p x.1 → SameR σ E E2 x) : ∀ (l : List (Bool × List SC)), ok1L p l → l.map (den1 E2) = (ren1L σ l).map (den1 E)
 | [], _ => rfl
 | q :: l, hl => by simp only [List.map_cons, ren1L]; rw [den1_ren h q hl.1, tup_ren h l hl.2]
theorem sv_ren (h : ∀ x : Nm, p x.1 → SameR σ E E2 x) : ∀ (v : SV), v.okN p → v.den E2 = (v.ren σ).den E
 | .c x, hv => den_ren h x hv
 | .agg l, hv => by simp only [SV.den, SV.ren]; rw [map_ren h l hv]
 | .tup l, hv => by simp only [SV.den, SV.ren]; rw [tup_ren h l hv]
 | .gd g w e v, hv => by simp only [SV.den, SV.ren]; rw [sv_ren h v hv]
end
def BlkLe (p : Nat → Prop) (σ : Nm → Nm) (b b' : Blk) : Prop := match b', b with
 | .no, .no => True
 | .bk cs' ty', .bk cs ty => cs = SC.renL σ cs' ∧ ty = ty' ∧ SC.okL p cs'
 | .ar n' s' at' ty', .ar n s at_ ty => n' ≤ n ∧ s = s' ∧ ty = ty' ∧ ∀ e, e < n' → at_ e = SC.renL σ (at' e) ∧ SC.okL p (at' e)
 | .mp kk' kd' f', .mp kk kd f => kk = kk' ∧ kd = kd' ∧ ∀ a, f a = f' a
 | .pr φ', .pr φ => ∀ E E2, (∀ x : Nm, p x.1 → SameR σ E E2 x) → ∀ h, φ E h → φ' E2 h
 | _, _ => False
theorem mem_renL {σ : Nm → Nm} {l : List SC} {j : Nat} {u : SC} (h : l[j]? = some u) : (SC.renL σ l)[j]? = some (u.ren σ) := by
 rw [renL_eq, List.getElem?_map, h]; rfl
theorem okL_mem {p : Nat → Prop} : ∀ {l : List SC} {j : Nat} {u : SC}, SC.okL p l → l[j]? = some u → u.okN p
 | [], j, u, _, h => by simp at h
 | c :: r, 0, u, hl, h => by
  simp only [List.getElem?_cons_zero, Option.some.injEq] at h
  subst h
  exact hl.1
 | c :: r, j + 1, u, hl, h => okL_mem hl.2 (by simpa using h)
theorem blk_le {p : Nat → Prop} {σ : Nm → Nm} {E E2 : Env} (h : ∀ x : Nm, p x.1 → SameR σ E E2 x) {x : Nm} (hx : p x.1) {b b' : Blk} (hb : BlkLe p σ b b') {hp : PH} (hd : b.den E (σ x) hp) : b'.den E2 x hp := by
 have hs := h x hx
 unfold BlkLe at hb
 split at hb
 ·exact hd
 ·obtain ⟨h1, rfl, h3⟩ := hb
  simp only [Blk.den] at hd ⊢
  rw [hd, hs.1, h1, map_ren h _ h3]
 ·obtain ⟨h1, rfl, rfl, h4⟩ := hb
  simp only [Blk.den] at hd ⊢
  rw [hs.1, hs.2.1, hs.2.2.1]
  rcases hd with ⟨g1, g2, g3, g4⟩ | ⟨g1, g2, g3, cells, g4, g5, g6⟩
  ·exact Or.inl ⟨g1, g2, by omega, g4⟩
  ·refine Or.inr ⟨g1, by omega, g3, cells, g4, g5, fun e he => ?_⟩
   obtain ⟨h5, h6⟩ := h4 e he
   obtain ⟨f1, f2⟩ := g6 e (by omega)
   rw [h5] at f1 f2
   refine ⟨by rw [renL_eq, List.length_map] at f1; exact f1, fun j u hu => ?_⟩
   have := f2 j _ (mem_renL hu)
   rw [den_ren h u (okL_mem h6 hu)]
   exact this
 ·obtain ⟨rfl, rfl, h2⟩ := hb
  simp only [Blk.den] at hd ⊢
  rw [hs.1]
  obtain ⟨es, clock, g1, L, g2, g3, g4, g5⟩ := hd
  exact ⟨es, clock, g1, L, g2, g3, g4, fun a ha => by rw [← h2]; exact g5.1 a ha, g5.2⟩
 ·exact hb E E2 h hp hd
 ·exact hb.elim
def BlkLeO (p : Nat → Prop) (σ : Nm → Nm) : Option Blk → Blk → Prop
 | some b, b' => BlkLe p σ b b'
 | none, _ => False
def OwnLe (p : Nat → Prop) (σ : Nm → Nm) (own : Own) : Own → Prop
 | [] => True
 | (i, F) :: r => (p i ∧ match F with
  | .one b' => BlkLeO p σ (atN own (σ (i, 0, 0))) b'
  | .fam n f => ∀ k, k < n → BlkLeO p σ (atN own (σ (i, k, 0))) (f k)
  | .fam2 n m f => ∀ k l, k < n → l < m k → BlkLeO p σ (atN own (σ (i, k, l))) (f k l)) ∧ OwnLe p σ own r
theorem ownLe_at {p : Nat → Prop} {σ : Nm → Nm} {own : Own} : ∀ {own' : Own}, OwnLe p σ own own' → ∀ {x : Nm} {b' : Blk}, atN own' x = some b' → p x.1 ∧ ∃ b, atN own (σ x) = some b ∧ BlkLe p σ b b'
 | [], _, x, b', h => by simp [atN, look] at h
 | (i, F) :: r, hl, x, b', h => by
  obtain ⟨⟨hp, hF⟩, hr⟩ := hl
  have get : ∀ {o : Option Blk} {b' : Blk}, BlkLeO p σ o b' → ∃ b, o = some b ∧ BlkLe p σ b b' := by
   intro o b' h
   cases o with
   | none => exact h.elim
   | some b => exact ⟨b, rfl, h⟩
  obtain ⟨j, k, l⟩ := x
  simp only [atN, look_cons] at h
  by_cases e : i = j
  ·subst e
   rw [if_pos rfl] at h
   cases F with
   | one c =>
    simp only [Fm.get] at h
    split at h
    ·next e =>
     obtain ⟨rfl, rfl⟩ := e
     cases h
     exact ⟨hp, get hF⟩
    ·cases h
   | fam n f =>
    simp only [Fm.get] at h
    split at h
    ·next e =>
     obtain ⟨hk, rfl⟩ := e
     cases h
     exact ⟨hp, get (hF k hk)⟩
    ·cases h
   | fam2 n m f =>
    simp only [Fm.get] at h
    split at h
    ·next e =>
     cases h
     exact ⟨hp, get (hF k l e.1 e.2)⟩
    ·cases h
  ·rw [if_neg e] at h
   exact ownLe_at hr (x := (j, k, l)) h
def ArrLe (p : Nat → Prop) (σ : Nm → Nm) (A A' : ArrF) : Prop := A.len = A'.len ∧ A.size = A'.size ∧ (∀ e, e < A'.len → A.at_ e = SC.renL σ (A'.at_ e) ∧ SC.okL p (A'.at_ e)) ∧ A'.low ≤ A.low
def ArrLeO (p : Nat → Prop) (σ : Nm → Nm) : Option ArrF → ArrF → Prop
 | some b, b' => ArrLe p σ b b'
 | none, _ => False
def ArrsLe (p : Nat → Prop) (σ : Nm → Nm) (arrs : List (Nat × Fm ArrF)) : List (Nat × Fm ArrF) → Prop
 | [] => True
 | (i, F) :: r => (p i ∧ match F with
  | .one b' => ArrLeO p σ (atN arrs (σ (i, 0, 0))) b'
  | .fam n f => ∀ k, k < n → ArrLeO p σ (atN arrs (σ (i, k, 0))) (f k)
  | .fam2 n m f => ∀ k l, k < n → l < m k → ArrLeO p σ (atN arrs (σ (i, k, l))) (f k l)) ∧ ArrsLe p σ arrs r
theorem arrsLe_at {p : Nat → Prop} {σ : Nm → Nm} {own : List (Nat × Fm ArrF)} : ∀ {own' : List (Nat × Fm ArrF)}, ArrsLe p σ own own' → ∀ {x : Nm} {b' : ArrF}, atN own' x = some b' → p x.1 ∧ ∃ b, atN own (σ x) = some b ∧ ArrLe p σ b b'
 | [], _, x, b', h => by simp [atN, look] at h
 | (i, F) :: r, hl, x, b', h => by
  obtain ⟨⟨hp, hF⟩, hr⟩ := hl
  have get : ∀ {o : Option ArrF} {b' : ArrF}, ArrLeO p σ o b' → ∃ b, o = some b ∧ ArrLe p σ b b' := by
   intro o b' h
   cases o with
   | none => exact h.elim
   | some b => exact ⟨b, rfl, h⟩
  obtain ⟨j, k, l⟩ := x
  simp only [atN, look_cons] at h
  by_cases e : i = j
  ·subst e
   rw [if_pos rfl] at h
   cases F with
   | one c =>
    simp only [Fm.get] at h
    split at h
    ·next e =>
     obtain ⟨rfl, rfl⟩ := e
     cases h
     exact ⟨hp, get hF⟩
    ·cases h
   | fam n f =>
    simp only [Fm.get] at h
    split at h
    ·next e =>
     obtain ⟨hk, rfl⟩ := e
     cases h
     exact ⟨hp, get (hF k hk)⟩
    ·cases h
   | fam2 n m f =>
    simp only [Fm.get] at h
    split at h
    ·next e =>
     cases h
     exact ⟨hp, get (hF k l e.1 e.2)⟩
    ·cases h
  ·rw [if_neg e] at h
   exact arrsLe_at hr (x := (j, k, l)) h
def TmpsLe (p : Nat → Prop) (σ : Nm → Nm) (tmps : List (Nat × SV)) : List (Nat × SV) → Prop
 | [] => True
 | (t, v) :: r => (look tmps t = some (v.ren σ) ∧ v.okN p) ∧ TmpsLe p σ tmps r
theorem tmpsLe_at {p : Nat → Prop} {σ : Nm → Nm} {tmps : List (Nat × SV)} : ∀ {l : List (Nat × SV)}, TmpsLe p σ tmps l → ∀ {t : Nat} {v : SV}, look l t = some v → look tmps t = some (v.ren σ) ∧ v.okN p
 | [], _, t, v, h => by cases h
 | (k, u) :: r, hl, t, v, h => by
  rw [look_cons] at h
  split at h
  ·next e => subst e; cases h; exact hl.1
  ·exact tmpsLe_at hl.2 h
def idσ (τ : Nat → Nat) (x : Nm) : Nm := (τ x.1, x.2)
def injL (τ : Nat → Nat) (l : List Nat) : Bool := l.all fun a => l.all fun b => !(Nat.beq (τ a) (τ b)) || Nat.beq a b
theorem injL_ok {τ : Nat → Nat} {l : List Nat} (h : injL τ l = true) {a b : Nat} (ha : a ∈ l) (hb : b ∈ l) (e : τ a = τ b) : a = b := by
 have h1 := List.all_eq_true.1 (List.all_eq_true.1 h a ha) b hb
 simp only [Bool.or_eq_true, Bool.not_eq_true'] at h1
 rcases h1 with h1 | h1
 ·rw [e] at h1
  have := Nat.beq_refl (τ b)
  rw [this] at h1
  cases h1
 ·exact Nat.eq_of_beq_eq_true h1
def InjN (σ : Nm → Nm) (own : Own) : Prop := ∀ x y b c, atN own x = some b → atN own y = some c → σ x = σ y → x = y
theorem injN_id {τ : Nat → Nat} {own : Own} (h : injL τ (keysL own) = true) : InjN (idσ τ) own := by
 intro x y b c hx hy e
 obtain ⟨F, hF, _⟩ := atN_some hx
 obtain ⟨G, hG, _⟩ := atN_some hy
 unfold idσ at e
 simp only [Prod.mk.injEq] at e
 have := injL_ok h (look_keysL hF) (look_keysL hG) e.1
 exact Prod.ext this e.2
structure Ren (σ : Nm → Nm) (S S' : St) : Prop where
 nt : S'.nt = S.nt
 facts : S'.facts = []
 tmps : TmpsLe (· < S'.nid) σ S.tmps S'.tmps
 own : OwnLe (· < S'.nid) σ S.own S'.own
 arrs : ArrsLe (· < S'.nid) σ S.arrs S'.arrs
 inj : InjN σ S'.own
def Env.via (E : Env) (σ : Nm → Nm) : Env := ⟨fun x => E.ρ (σ x), fun x => E.κ (σ x), fun x => E.ν (σ x), fun x => E.χ (σ x)⟩
theorem le_nm {C : Ctx} {S S' : St} (σ : Nm → Nm) (h : Ren σ S S') : Le C S S' := by
 intro E a w hs
 refine ⟨E.via σ, fun x => hs.1 _, fun E2 hE2 ho2 => ?_⟩
 have hs := hs.sat
 have hR : ∀ x : Nm, x.1 < S'.nid → SameR σ E E2 x := fun x hx => hE2 x hx
 obtain ⟨H, hH, hF⟩ := hs.mem
 have hat : ∀ x b', atN S'.own x = some b' → x.1 < S'.nid ∧ ∃ b, atN S.own (σ x) = some b ∧ BlkLe (· < S'.nid) σ b b' := fun x b' hx => ownLe_at h.own hx
 refine ⟨hs.size.trans h.nt.symm, hs.defers, ho2, ?_, hs.frame, fun x => H (σ x), ⟨?_, ?_, ?_⟩, ?_⟩
 ·intro t v ht
  obtain ⟨h1, h2⟩ := tmpsLe_at h.tmps ht
  obtain ⟨g1, g2⟩ := hs.tmps t _ h1
  exact ⟨by rw [h.nt]; exact g1, by rw [g2, sv_ren hR v h2]⟩
 ·intro x b' hx
  obtain ⟨h1, b, h2, h3⟩ := hat x b' hx
  exact blk_le hR h1 h3 (hH.den _ _ h2)
 ·intro x y b' c' hx hy hne n
  obtain ⟨_, b, h2, _⟩ := hat x b' hx
  obtain ⟨_, c, g2, _⟩ := hat y c' hy
  exact hH.disj _ _ b c h2 g2 (fun e => hne (h.inj x y b' c' hx hy e)) n
 ·intro x b' hx n o hn
  obtain ⟨_, b, h2, _⟩ := hat x b' hx
  exact hH.sub _ b h2 n o hn
 ·intro w' hw'
  have hold := hF w' (fun n hn hfr => hw' n hn (fun x b' hx => let ⟨_, b, h2, _⟩ := hat x b' hx; hfr _ b h2))
  refine ⟨fun x A' hA => ?_, fun φ hφ => by rw [h.facts] at hφ; cases hφ⟩
  obtain ⟨h1, A, h2, h3, h4, h5, h6⟩ := arrsLe_at h.arrs hA
  obtain ⟨ba, cap, g1, g2, g3, g4⟩ := hold.1 _ A h2
  refine ⟨ba, cap, by rw [(hR x h1).2.2.2, g1, h3], by omega, g3, ?_⟩
  rcases g4 with g4 | ⟨b, off, rfl, gl, g4⟩
  ·exact Or.inl (by omega)
  ·refine Or.inr ⟨b, off, rfl, Nat.le_trans h6 gl, fun k hk => ?_⟩
   obtain ⟨f1, f2⟩ := g4 k (by omega)
   obtain ⟨e1, e2⟩ := h5 k hk
   rw [e1] at f1 f2
   refine ⟨by rw [renL_eq, List.length_map] at f1; omega, fun j u hu => ?_⟩
   have := f2 j _ (mem_renL hu)
   rw [den_ren hR u (okL_mem e2 hu), ← h4]
   exact this
theorem le_ren {C : Ctx} {S S' : St} (τ : Nat → Nat) (h1 : S'.nt = S.nt) (h2 : S'.facts = []) (h3 : TmpsLe (· < S'.nid) (idσ τ) S.tmps S'.tmps) (h4 : OwnLe (· < S'.nid) (idσ τ) S.own S'.own) (h5 : ArrsLe (· < S'.nid) (idσ τ) S.arrs S'.arrs) (h6 : injL τ (keysL S'.own) = true) : Le C S S' :=
 le_nm (idσ τ) ⟨h1, h2, h3, h4, h5, injN_id h6⟩
def mkC (P : Program) (A : List Nat) (w : World) (rs : List RS) (R : Ending → World → Prop) : Ctx := ⟨P, mkTab P A, w.heap.size, fun _ => False, w, rs, R⟩
theorem mkC_rs (P : Program) (A : List Nat) (w : World) (rs : List RS) (R : Ending → World → Prop) : (mkC P A w rs R).rs = rs := rfl
theorem below_of {P : Program} {A : List Nat} {w w' : World} {rs : List RS} {R : Ending → World → Prop} {E : Env} {S : St} {a : Act} (hs : Sat (mkC P A w rs R).B (mkC P A w rs R).W (mkC P A w rs R).w0 E S a w') : Below w.heap.size w w' :=
 ⟨hs.frame.os, hs.frame.tape, hs.frame.output, hs.frame.size, fun n hn => hs.frame.keep n hn (fun h => h)⟩
theorem inOk_nil {P : Program} {A : List Nat} {w : World} {rs : List RS} {R : Ending → World → Prop} {E : Env} : InOk (mkC P A w rs R) E [] [] [] w :=
 ⟨fun _ => emp, fun x b h => by simp [atN, look] at h, fun x y b c h => by simp [atN, look] at h, fun x b h => by simp [atN, look] at h, fun w' _ => ⟨fun x A h => by simp [atN, look] at h, fun φ h => by cases h⟩⟩
def RetV (w : World) (v : Value) (e : Ending) (w' : World) : Prop := e = .returned v ∧ Below w.heap.size w w'
theorem retV {P : Program} {A : List Nat} {w : World} {rs : List RS} {u : Value} {v : SV} {S : St} (hv : ∀ E, v.den E = u) : RetVC (mkC P A w rs (RetV w u)) v S := by
 intro E a w' hs
 exact ⟨by rw [hv], below_of hs.sat⟩
theorem cr_retV {C : Ctx} {S : St} {f : Nat} {vs : List SV} (tmpl : SV) (u : Value) (hv : ∀ E, tmpl.den E = u) (h : ∀ E a w, Sat C.B C.W C.w0 E S a w → Calls C.P f (vs.map (SV.den E)).toArray w (RetV w u)) : CR C f vs S [] tmpl 0 [] [] :=
 cr_val tmpl u hv h
def RetN (w : World) (nx : Nat) (T : Nat → SV) (O : Nat → Own) (e : Ending) (w' : World) : Prop :=
 ∃ v, e = .returned v ∧ Below w.heap.size w w' ∧ ∀ b, ∃ N : Env, OneC N ∧ ∀ E2, AgreeD (NewIds b nx) N E2 → v = (T b).den E2 ∧
  ∃ H : Nm → PH, (∀ x c, atN (O b) x = some c → c.den E2 x (H x)) ∧ (∀ x y c d, atN (O b) x = some c → atN (O b) y = some d → x ≠ y → ∀ n, H x n = none ∨ H y n = none) ∧
   ∀ x c, atN (O b) x = some c → ∀ n o, H x n = some o → w'.heap[n]? = some o ∧ w.heap.size ≤ n
theorem cr_retN {C : Ctx} {S : St} {f : Nat} {vs : List SV} (nx : Nat) (T : Nat → SV) (O : Nat → Own) (h : ∀ E a w, Sat C.B C.W C.w0 E S a w → Calls C.P f (vs.map (SV.den E)).toArray w (RetN w nx T O)) : CR C f vs S [] (T S.nid) nx (O S.nid) [] := by
 intro E a w hs
 refine (h E a w hs).mono ?_
 rintro e w' ⟨v, rfl, hb, hN⟩
 obtain ⟨N, hN1, hN2⟩ := hN S.nid
 refine ⟨v, rfl, N, hN1, fun E2 _ _ hag => ?_⟩
 obtain ⟨h1, H, h2, h3, h4⟩ := hN2 E2 hag
 exact ⟨h1, Fits.G ⟨fun _ _ => ⟨hb.os, hb.tape, hb.output, hb.size, fun n hn _ => hb.block n hn, H, h2, h3, fun x c hc n o hn => ⟨(h4 x c hc n o hn).1, Or.inl (h4 x c hc n o hn).2⟩⟩, fun _ _ x A hA => by simp [atN, look] at hA⟩⟩
def fromσ (b : Nat) (σ : Nat → Nat) (x : Nm) : Nm := (σ (x.1 - b), x.2)
theorem retN {P : Program} {A : List Nat} {w : World} {rs : List RS} {nx : Nat} {T : Nat → SV} {O : Nat → Own} {v : SV} {S : St} (σ : Nat → Nat) (hv : ∀ b, v = (T b).ren (fromσ b σ) ∧ (T b).okN (NewIds b nx))
  (ho : ∀ b, OwnLe (NewIds b nx) (fromσ b σ) S.own (O b)) (hi : ∀ b, InjN (fromσ b σ) (O b)) : RetVC (mkC P A w rs (RetN w nx T O)) v S := by
 intro E a w' hs
 have hs := hs.sat
 refine ⟨_, rfl, below_of hs, fun b => ⟨E.via (fromσ b σ), fun x => hs.one _, fun E2 hE2 => ?_⟩⟩
 have hR : ∀ x : Nm, NewIds b nx x.1 → SameR (fromσ b σ) E E2 x := fun x hx => hE2 x hx
 obtain ⟨H, hH, _⟩ := hs.mem
 have hat : ∀ x c, atN (O b) x = some c → NewIds b nx x.1 ∧ ∃ d, atN S.own (fromσ b σ x) = some d ∧ BlkLe (NewIds b nx) (fromσ b σ) d c := fun x c hx => ownLe_at (ho b) hx
 refine ⟨?_, fun x => H (fromσ b σ x), ?_, ?_, ?_⟩
 ·rw [sv_ren hR _ (hv b).2, ← (hv b).1]
 ·intro x c hx
  obtain ⟨h1, d, h2, h3⟩ := hat x c hx
  exact blk_le hR h1 h3 (hH.den _ _ h2)
 ·intro x y c d hx hy hne n
  obtain ⟨_, c', h2, _⟩ := hat x c hx
  obtain ⟨_, d', g2, _⟩ := hat y d hy
  exact hH.disj _ _ c' d' h2 g2 (fun e => hne (hi b x y c d hx hy e)) n
 ·intro x c hx n o hn
  obtain ⟨_, c', h2, _⟩ := hat x c hx
  obtain ⟨h3, h4⟩ := hH.sub _ c' h2 n o hn
  refine ⟨h3, ?_⟩
  rcases h4 with h4 | h4
  ·exact h4
  ·exact h4.elim
theorem injN_from {b : Nat} {σ : Nat → Nat} {own : Own} (h : ∀ i ∈ keysL own, ∀ j ∈ keysL own, σ (i - b) = σ (j - b) → i = j) : InjN (fromσ b σ) own := by
 intro x y c d hx hy e
 obtain ⟨F, hF, _⟩ := atN_some hx
 obtain ⟨G, hG, _⟩ := atN_some hy
 unfold fromσ at e
 simp only [Prod.mk.injEq] at e
 exact Prod.ext (h _ (look_keysL hF) _ (look_keysL hG) e.1) e.2
theorem both {b : Bool} {A B : Prop} (hA : b = true → A) (hB : b = false → B) : (b = true → A) ∧ (b = false → B) := ⟨hA, hB⟩
theorem imp_ft (q : Prop) : (false = true → q) = True := by simp
theorem imp_tf (q : Prop) : (true = false → q) = True := by simp
theorem imp_tt (q : Prop) : (true = true → q) = q := by simp
theorem imp_ff (q : Prop) : (false = false → q) = q := by simp
theorem imp_fn (q : Prop) : (false = (!false) → q) = True := by simp
theorem imp_tn (q : Prop) : (true = (!true) → q) = True := by simp
theorem imp_fy (q : Prop) : (true = (!false) → q) = q := by simp
theorem imp_ty (q : Prop) : (false = (!true) → q) = q := by simp
end Go.Proofs.Ytpjdcbofngcdbaa.Z
namespace Go.Proofs.Ytpjdcbofngcdbaa.Z
open Go Go.RowKit
theorem bt_ite {p : Prop} [Decidable p] {a b : Bool} : ((if p then a else b) = true) = ((p ∧ a = true) ∨ (¬ p ∧ b = true)) := by by_cases h : p <;> simp [h]
theorem bf_ite {p : Prop} [Decidable p] {a b : Bool} : ((if p then a else b) = false) = ((p ∧ a = false) ∨ (¬ p ∧ b = false)) := by by_cases h : p <;> simp [h]
theorem bt_dec {p : Prop} [Decidable p] : (decide p = true) = p := by simp
theorem bf_dec {p : Prop} [Decidable p] : (decide p = false) = ¬ p := by simp
theorem bt_int {a b : Int} : ((a == b) = true) = (a = b) := by simp
theorem bf_int {a b : Int} : ((a == b) = false) = (¬ a = b) := by simp
theorem bt_nint {a b : Int} : ((a != b) = true) = (¬ a = b) := by simp
theorem bf_nint {a b : Int} : ((a != b) = false) = (a = b) := by simp
theorem bt_bool {a b : Bool} : ((a == b) = true) = (a = true ↔ b = true) := by cases a <;> cases b <;> simp
theorem bf_bool {a b : Bool} : ((a == b) = false) = (¬ (a = true ↔ b = true)) := by cases a <;> cases b <;> simp
theorem bt_nbool {a b : Bool} : ((a != b) = true) = (¬ (a = true ↔ b = true)) := by cases a <;> cases b <;> simp
theorem bf_nbool {a b : Bool} : ((a != b) = false) = (a = true ↔ b = true) := by cases a <;> cases b <;> simp
theorem bt_not {a : Bool} : ((!a) = true) = (¬ a = true) := by cases a <;> simp
theorem bf_not {a : Bool} : ((!a) = false) = (a = true) := by cases a <;> simp
theorem bt_and {a b : Bool} : ((a && b) = true) = (a = true ∧ b = true) := by simp
theorem bf_and {a b : Bool} : ((a && b) = false) = (¬ (a = true ∧ b = true)) := by cases a <;> cases b <;> simp
theorem bt_or {a b : Bool} : ((a || b) = true) = (a = true ∨ b = true) := by simp
theorem bf_or {a b : Bool} : ((a || b) = false) = (¬ (a = true ∨ b = true)) := by cases a <;> cases b <;> simp
theorem b_decR {a : Bool} {p : Prop} [Decidable p] : (a = decide p) = (a = true ↔ p) := by cases a <;> simp
theorem b_decL {a : Bool} {p : Prop} [Decidable p] : (decide p = a) = (p ↔ a = true) := by cases a <;> simp
theorem le_refl {C : Ctx} (S : St) : Le C S S := fun E a w h => ⟨E, h⟩
theorem wr64 {n : Int} (h : -9223372036854775808 ≤ n) (h' : n ≤ 9223372036854775807) : IntKind.i64.wrap n = n := IntWalk.i64_in n ⟨h, h'⟩
theorem wr_lit {n : Nat} (h : n ≤ 9223372036854775807) : IntKind.i64.wrap (no_index (OfNat.ofNat n)) = OfNat.ofNat n := wr64 (by show (-9223372036854775808 : Int) ≤ (n : Int); omega) (by show ((n : Nat) : Int) ≤ 9223372036854775807; omega)
theorem wrU {n : Int} (h : 0 ≤ n ∧ n ≤ 18446744073709551615) : IntKind.u64.wrap n = n := by
 have : IntKind.u64.wrap n = n % 18446744073709551616 := by simp [IntKind.wrap, IntKind.bits, IntKind.signed]
 rw [this]; omega
theorem wr_litu {n : Nat} (h : n ≤ 18446744073709551615) : IntKind.u64.wrap (no_index (OfNat.ofNat n)) = OfNat.ofNat n := wrU ⟨by show (0 : Int) ≤ (n : Int); omega, by show ((n : Nat) : Int) ≤ 18446744073709551615; omega⟩
theorem wr_succ {n : Nat} (h : n < 9223372036854775807) : IntKind.i64.wrap ((n : Int) + 1) = ((n + 1 : Nat) : Int) := by rw [wr64 (by omega) (by omega)]; omega
theorem arrOf_len {α : Type} (enc : α → List Value) (s : Nat) (xs : List α) (d : α) (l : Nat) : (arrOf enc s xs d l).len = xs.length := rfl
theorem arrOf_size {α : Type} (enc : α → List Value) (s : Nat) (xs : List α) (d : α) (l : Nat) : (arrOf enc s xs d l).size = s := rfl
theorem arrOf_at {α : Type} (enc : α → List Value) (s : Nat) (xs : List α) (d : α) (l k : Nat) : (arrOf enc s xs d l).at_ k = (enc (xs.getD k d)).map .v := rfl
theorem loopI {C : Ctx} {c : IR} {k : List KI} {S : St} {ex : List KI → St → Prop} {ι : Type} (I : ι → St) (μ : ι → Nat) (i : ι) (h : Le C S (I i)) (h' : ∀ i, ex (.code c :: .back ι I μ i :: k) (I i)) : LoopVC C c k S ex := ⟨ι, I, μ, i, h, h'⟩
theorem backI {C : Ctx} {ι : Type} {I : ι → St} {μ : ι → Nat} {i : ι} {S : St} (j : ι) (hj : μ j < μ i) (h : Le C S (I j)) : BackVC C ι I μ i S := ⟨j, hj, h⟩
theorem inOk_arrs {P : Program} {A : List Nat} {w : World} {rs : List RS} {R : Ending → World → Prop} {E : Env} {arrs : List (Nat × Fm ArrF)} (h : ∀ w' : World, (∀ n, n < w.heap.size → w'.heap[n]? = w.heap[n]?) → ∀ x A, atN arrs x = some A → ArrAt E w' x A) : InOk (mkC P A w rs R) E [] arrs [] w :=
 ⟨fun _ => emp, fun x b h => by simp [atN, look] at h, fun x y b c h => by simp [atN, look] at h, fun x b h => by simp [atN, look] at h, fun w' hw' => ⟨h w' fun n hn => hw' n hn fun x b hb => rfl, fun φ h => by cases h⟩⟩
theorem arr_keep {α : Type} {w w' : World} {enc : α → List Value} {s : Nat} {v : Value} {xs : List α} (h : Arr w enc s v xs) (hk : ∀ n, n < w.heap.size → w'.heap[n]? = w.heap[n]?) : Arr w' enc s v xs := by
 refine h.keep fun a u hu => ?_
 have hb : a.block < w.heap.size := by
  unfold World.cell? at hu
  cases he : w.heap[a.block]? with
  | none => rw [he] at hu; simp at hu
  | some o => exact (Array.getElem?_eq_some_iff.1 he).1
 unfold World.cell? at hu ⊢
 rw [hk _ hb]
 exact hu
def TmpsSub (tmps : List (Nat × SV)) : List (Nat × SV) → Prop
 | [] => True
 | (t, v) :: r => look tmps t = some v ∧ TmpsSub tmps r
theorem tmpsSub_at {tmps : List (Nat × SV)} : ∀ {l : List (Nat × SV)}, TmpsSub tmps l → ∀ {t : Nat} {v : SV}, look l t = some v → look tmps t = some v
 | [], _, t, v, h => by cases h
 | (k, u) :: r, hl, t, v, h => by
  rw [look_cons] at h
  split at h
  ·next e => subst e; cases h; exact hl.1
  ·exact tmpsSub_at hl.2 h
theorem le_tmps {C : Ctx} {nt : Nat} {t t' : List (Nat × SV)} {own : Own} {arrs : List (Nat × Fm ArrF)} {facts : List (Env → World → Prop)} {nid : Nat} (h : TmpsSub t t') : Le C ⟨nt, t, own, arrs, facts, nid⟩ ⟨nt, t', own, arrs, facts, nid⟩ := by
 intro E a w hs
 refine ⟨E, hs.1, fun E' hE' ho' => ?_⟩
 have hs := hs.2 E' hE' ho'
 exact sat_sub (S := ⟨nt, t, own, arrs, facts, nid⟩) (S' := ⟨nt, t', own, arrs, facts, nid⟩) ⟨rfl, fun k v hk => tmpsSub_at h hk, fun _ _ h => h, fun _ _ h => h, fun _ h => h⟩ hs
theorem arr1 {α : Type} {w : World} {enc : α → List Value} {s : Nat} {xs : List α} {d : α} (T : EncT enc s) {i : Nat} {E : Env} {v : Value} (hv : E.χ (i, 0, 0) = v) (h : Arr w enc s v xs) {w' : World} (hk : ∀ n, n < w.heap.size → w'.heap[n]? = w.heap[n]?) : ArrAt E w' (i, 0, 0) (arrOf enc s xs d) :=
 arrAt_of T (by rw [hv]; exact arr_keep h hk)
theorem atN_one {α : Type} {i : Nat} {F : α} {r : List (Nat × Fm α)} {x : Nm} {A : α} (h : atN ((i, .one F) :: r) x = some A) : (x = (i, 0, 0) ∧ A = F) ∨ atN r x = some A := by
 obtain ⟨a, b, c⟩ := x
 simp only [atN, look_cons] at h
 split at h
 ·next e =>
  split at e
  ·next e2 =>
   subst e2
   cases e
   simp only [Fm.get] at h
   split at h
   ·next e3 => left; obtain ⟨rfl, rfl⟩ := e3; cases h; exact ⟨rfl, rfl⟩
   ·cases h
  ·next e2 =>
   right
   simp only [atN, e]
   exact h
 ·cases h
theorem atN_nil {α : Type} {x : Nm} {A : α} (h : atN ([] : List (Nat × Fm α)) x = some A) : False := by simp [atN, look] at h
theorem arr_one {α : Type} {w : World} {enc : α → List Value} {s : Nat} {v : Value} {xs : List α} (h : Arr w enc s v xs) : v.oneCell' = true := by
 obtain ⟨ba, cap, rfl, _⟩ := h
 rfl
def E1 (v : Value) : Env := ⟨fun _ => 0, fun _ => 0, fun _ => false, fun _ => v⟩
theorem E1_one {v : Value} (h : v.oneCell' = true) : OneC (E1 v) := fun _ => h
def ats {α : Type} (enc : α → List Value) (xs : List α) (d : α) (e : Nat) : List SC := (enc (xs.getD e d)).map .v
def lsO {α : Type} (ty s : Nat) (enc : α → List Value) (xs : List α) (d : α) (b : Nat) : Own := [(b, .one (.ar xs.length s (ats enc xs d) ty))]
theorem renL_v (σ : Nm → Nm) : ∀ l : List Value, SC.renL σ (l.map .v) = l.map .v
 | [] => rfl
 | x :: l => by simp only [List.map_cons, SC.renL, SC.ren, renL_v σ l]
theorem okL_v (p : Nat → Prop) : ∀ l : List Value, SC.okL p (l.map .v)
 | [] => trivial
 | x :: l => ⟨trivial, okL_v p l⟩
theorem arrLe_of {α : Type} {p : Nat → Prop} {σ : Nm → Nm} {enc : α → List Value} {s : Nat} {xs : List α} {d : α} {l : Nat} : ArrLe p σ (arrOf enc s xs d l) (arrOf enc s xs d l) :=
 ⟨rfl, rfl, fun e _ => ⟨(renL_v _ _).symm, okL_v _ _⟩, Nat.le_refl _⟩
theorem dcallV {C : Ctx} {bs f : Nat} {vs : List SV} {dst : Option Nat} {U : List Nat} {Si S : St} {done : List Rec} {ex : List Rec → St → Prop} (tmpl : SV) (u : Value) (hv : ∀ E, tmpl.den E = u) (hc : ∀ E a w, Sat C.B C.W C.w0 E Si a w → Calls C.P f (vs.map (SV.den E)).toArray w (RetV w u))
  (h : ex (done ++ [⟨dst, tmpl, [], [], Si.nid, 0, keysL Si.own, [], []⟩]) (S.appN ⟨dst, tmpl, [], [], Si.nid, 0, keysL Si.own, [], []⟩)) : DCallVC C bs f vs dst U Si done S ex :=
 dcall_intro (cr_retV tmpl u hv hc) rfl trivial trivial (fun k hk => by cases hk) h
theorem callV {C : Ctx} {f : Nat} {vs : List SV} {dst : Option Nat} {S : St} {K : St → Prop} (tmpl : SV) (u : Value) (hv : ∀ E, tmpl.den E = u) (hc : ∀ E a w, Sat C.B C.W C.w0 E S a w → Calls C.P f (vs.map (SV.den E)).toArray w (RetV w u)) (h : K (S.call dst tmpl 0 [] [])) : CallVC C f vs dst S K :=
 call_intro (cr_retV tmpl u hv hc) (fun i hi => by cases hi) h
theorem callN {C : Ctx} {f : Nat} {vs : List SV} {dst : Option Nat} {S : St} {K : St → Prop} (nx : Nat) (T : Nat → SV) (O : Nat → Own) (hc : ∀ E a w, Sat C.B C.W C.w0 E S a w → Calls C.P f (vs.map (SV.den E)).toArray w (RetN w nx T O)) (h : K (S.call dst (T S.nid) nx (O S.nid) [])) : CallVC C f vs dst S K :=
 call_intro (cr_retN nx T O hc) (fun i hi => by cases hi) h
end Go.Proofs.Ytpjdcbofngcdbaa.Z
namespace Go.Proofs.Ytpjdcbofngcdbaa.Z
open Go Go.RowKit
def TmpsNil (s z : Nat) (tmps : List (Nat × SV)) : List (Nat × SV) → Prop
 | [] => True
 | (t, v) :: r => (look tmps t = some v ∨ (look tmps t = some (.c (.v (.slice none 0 0))) ∧ v = .c (.sl (z, 0, 0) s 0 0 none))) ∧ TmpsNil s z tmps r
theorem tmpsNil_at {s z : Nat} {tmps : List (Nat × SV)} : ∀ {l : List (Nat × SV)}, TmpsNil s z tmps l → ∀ {t : Nat} {v : SV}, look l t = some v → (look tmps t = some v ∨ (look tmps t = some (.c (.v (.slice none 0 0))) ∧ v = .c (.sl (z, 0, 0) s 0 0 none)))
 | [], _, t, v, h => by cases h
 | (k, u) :: r, hl, t, v, h => by
  rw [look_cons] at h
  split at h
  ·next e => subst e; cases h; exact hl.1
  ·exact tmpsNil_at hl.2 h
theorem le_nilown {C : Ctx} {nt : Nat} {tmps tmps' : List (Nat × SV)} {own : Own} {arrs : List (Nat × Fm ArrF)} {facts : List (Env → World → Prop)} {nid : Nat} (s ty : Nat) (at_ : Nat → List SC)
  (ht : TmpsNil s nid tmps tmps') (hn : look own nid = none) : Le C ⟨nt, tmps, own, arrs, facts, nid⟩ ⟨nt, tmps', (nid, .one (.ar 0 s at_ ty)) :: own, arrs, facts, nid + 1⟩ := by
 intro E a w hs
 refine ⟨⟨E.ρ, fun x => if x.1 = nid then 0 else E.κ x, fun x => if x.1 = nid then true else E.ν x, E.χ⟩, fun x => hs.1 x, fun E2 hE2 ho2 => ?_⟩
 have hs2 := hs.2 E2 (fun x hx => by
  have h := hE2 x (Nat.lt_succ_of_lt hx)
  have hne : x.1 ≠ nid := by have : x.1 < nid := hx; omega
  simp only [Same, hne, if_false] at h
  exact h) ho2
 have hsz := hE2 (nid, 0, 0) (Nat.lt_succ_self nid)
 have hκ : E2.κ (nid, 0, 0) = 0 := by have h := hsz.2.1; simpa using h
 have hν : E2.ν (nid, 0, 0) = true := by have h := hsz.2.2.1; simpa using h
 obtain ⟨H, hH, hF⟩ := hs2.mem
 have hat : ∀ x b, atN own x = some b → x.1 ≠ nid := fun x b h e => by
  obtain ⟨F, hF, _⟩ := atN_some h
  rw [e, hn] at hF
  cases hF
 refine ⟨hs2.size, hs2.defers, ho2, fun t v h => ?_, hs2.frame, fun x => if x.1 = nid then emp else H x, ⟨fun x b hb => ?_, fun x y b c hb hc hne n => ?_, fun x b hb n o hn => ?_⟩, fun w' hw' => ?_⟩
 ·rcases tmpsNil_at ht h with h1 | ⟨h1, rfl⟩
  ·exact hs2.tmps t v h1
  ·obtain ⟨g1, h2⟩ := hs2.tmps t _ h1
   refine ⟨g1, ?_⟩
   rw [h2, den_c, den_c, den_v]
   simp [SC.den, hκ, hν]
 ·rcases atN_one hb with ⟨rfl, rfl⟩ | hb
  ·exact Or.inl ⟨trivial, hκ, rfl, by simp⟩
  ·simp only [hat x b hb, if_false]
   exact hH.den x b hb
 ·rcases atN_one hb with ⟨rfl, rfl⟩ | hb
  ·simp [emp]
  ·rcases atN_one hc with ⟨rfl, rfl⟩ | hc
   ·simp [emp]
   ·simp only [hat x b hb, hat y c hc, if_false]
    exact hH.disj x y b c hb hc hne n
 ·rcases atN_one hb with ⟨rfl, rfl⟩ | hb
  ·simp [emp] at hn
  ·simp only [hat x b hb, if_false] at hn
   exact hH.sub x b hb n o hn
 ·exact hF w' fun n hn hfr => hw' n hn fun x b hb => by
   rcases atN_one hb with ⟨rfl, rfl⟩ | hb
   ·simp [emp]
   ·simp only [hat x b hb, if_false]
    exact hfr x b hb
theorem holds_of {C : Ctx} {E : Env} {S : St} {a : Act} {w : World} (hs : Sat C.B C.W C.w0 E S a w) : Holds E S w := by
 obtain ⟨H, _, hF⟩ := hs.mem
 exact hF w fun _ _ _ => rfl
theorem arr_own {C : Ctx} {E : Env} {S : St} {a : Act} {w : World} (hs : Sat C.B C.W C.w0 E S a w) {α : Type} {ty s : Nat} {enc : α → List Value} {ys : List α} {d : α} (i k n : Nat) (at_ : Nat → List SC) (hi : look S.own i = some (.one (.ar k s at_ ty))) (hn : n = ys.length) (hk : ys.length ≤ k)
  (ha : ∀ e, e < ys.length → at_ e = ats enc ys d e) : Arr w enc s ((SC.sl (i, 0, 0) s 0 n none).den E) ys := by
 subst hn
 obtain ⟨H, hH, _⟩ := hs.mem
 have hat : atN S.own (i, 0, 0) = some (.ar k s at_ ty) := by simp [atN, hi, Fm.get]
 rcases ar_heap hH hat with ⟨h1, h2, h3, _⟩ | ⟨h1, h2, h3, cells, h4, h5, h6, h7⟩
 ·have h0 : ys = [] := List.eq_nil_of_length_eq_zero (by omega)
  subst h0
  exact ⟨if E.ν (i, 0, 0) = true then none else some ⟨E.ρ (i, 0, 0), 0, none⟩, 0, by simp [SC.den, h2], Nat.le_refl _, by simp [maxLen], Or.inl rfl⟩
 ·refine ⟨some ⟨E.ρ (i, 0, 0), 0, none⟩, E.κ (i, 0, 0), by simp [SC.den, h1], by omega, h3, Or.inr ⟨_, _, rfl, fun e y hy j u hu => ?_⟩⟩
  rw [cell_of_row w _ _ _ ty (0, 0) h5, Nat.zero_add]
  have he : e < ys.length := (List.getElem?_eq_some_iff.1 hy).1
  have := ((h7 e (by omega)).2 j (.v u) (by
   rw [ha e he]
   have : ys.getD e d = y := by rw [List.getD_eq_getElem?_getD, hy]; rfl
   simp only [ats, this, List.getElem?_map, hu]; rfl)).1
  rw [den_v] at this
  exact this
theorem crv_retV {C : Ctx} {f : Nat} {vs : List SV} {S : St} (tmpl : SV) (u : Value) (hv : ∀ E, tmpl.den E = u) (h : ∀ E a w, Sat C.B C.W C.w0 E S a w → Calls C.P f (vs.map (SV.den E)).toArray w (RetV w u)) : CRv C f vs S tmpl := by
 intro E a w hs
 refine (h E a w hs).mono ?_
 rintro e w' ⟨rfl, hb⟩
 exact ⟨u, rfl, E, hs.one, fun E2 _ _ _ => ⟨(hv E2).symm, Fits.G ⟨fun H _ => effOk_below hb, fun _ _ x A h => by simp [atN, look] at h⟩⟩⟩
def E2 (v0 v1 : Value) : Env := ⟨fun _ => 0, fun _ => 0, fun _ => false, fun x => if x.1 = 1 then v1 else v0⟩
theorem enter0 {P : Program} {A : List Nat} {f nt : Nat} {fn : Func} {x : Code} {c : IR} {w : World} {rs : List RS} {R : Ending → World → Prop} (sc : List SV) (args : Array Value)
  (hf : P.funcs[f]? = some fn) (hb : fn.body = some x) (hc : compC (mkTab P A) x = some c.strip) (hr : compR (mkTab P A).T fn.results.toList = some rs) (hn : fn.ntmps = nt)
  (hargs : ∀ E', (sc.map (SV.den E')).toArray = args) (hnt : sc.length ≤ nt)
  (hex : exec (mkC P A w rs R) 1000 [.code c] ⟨nt, enumT 0 sc, [], [], [], 0⟩) : Calls P f args w R :=
 calls_sym (c := c) (C := mkC P A w rs R) 1000 sc (E1 (.bool true)) [] [] [] 0 nt args (mkTab_ok _ _) hf hb hc hr hn rfl rfl (E1_one rfl) (fun E' _ => hargs E') hnt (fun E' _ => inOk_nil) hex
theorem enter1 {P : Program} {A : List Nat} {f nt : Nat} {fn : Func} {x : Code} {c : IR} {w : World} {rs : List RS} {R : Ending → World → Prop} {α : Type} {enc : α → List Value} {s : Nat} {xs : List α} (d : α) {v : Value} (T : EncT enc s) (h : Arr w enc s v xs) (sc : List SV) (args : Array Value)
  (hf : P.funcs[f]? = some fn) (hb : fn.body = some x) (hc : compC (mkTab P A) x = some c.strip) (hr : compR (mkTab P A).T fn.results.toList = some rs) (hn : fn.ntmps = nt)
  (hargs : ∀ E', E'.χ (0, 0, 0) = v → (sc.map (SV.den E')).toArray = args) (hnt : sc.length ≤ nt)
  (hex : exec (mkC P A w rs R) 1000 [.code c] ⟨nt, enumT 0 sc, [], [(0, .one (arrOf enc s xs d))], [], 1⟩) : Calls P f args w R := by
 refine calls_sym (c := c) (C := mkC P A w rs R) 1000 sc (E1 v) [] [(0, .one (arrOf enc s xs d))] [] 1 nt args (mkTab_ok _ _) hf hb hc hr hn rfl rfl (E1_one (arr_one h)) (fun E' hE' => hargs E' ?_) hnt (fun E' hE' => inOk_arrs fun w' hw' x A hA => ?_) hex
 ·exact (hE' (0, 0, 0) Nat.zero_lt_one).2.2.2
 ·rcases atN_one hA with ⟨rfl, rfl⟩ | hA
  ·exact arr1 T (hE' (0, 0, 0) Nat.zero_lt_one).2.2.2 h hw'
  exact (atN_nil hA).elim
theorem enter2 {P : Program} {A : List Nat} {f nt : Nat} {fn : Func} {x : Code} {c : IR} {w : World} {rs : List RS} {R : Ending → World → Prop} {α β : Type} {enc : α → List Value} {s : Nat} {xs : List α} (d : α) {v : Value} (T : EncT enc s) (h : Arr w enc s v xs)
  {enc' : β → List Value} {s' : Nat} {ys : List β} (d' : β) {v' : Value} (T' : EncT enc' s') (h' : Arr w enc' s' v' ys) (sc : List SV) (args : Array Value)
  (hf : P.funcs[f]? = some fn) (hb : fn.body = some x) (hc : compC (mkTab P A) x = some c.strip) (hr : compR (mkTab P A).T fn.results.toList = some rs) (hn : fn.ntmps = nt)
  (hargs : ∀ E', E'.χ (0, 0, 0) = v → E'.χ (1, 0, 0) = v' → (sc.map (SV.den E')).toArray = args) (hnt : sc.length ≤ nt)
  (hex : exec (mkC P A w rs R) 1000 [.code c] ⟨nt, enumT 0 sc, [], [(0, .one (arrOf enc s xs d)), (1, .one (arrOf enc' s' ys d'))], [], 2⟩) : Calls P f args w R := by
 have hone : OneC (E2 v v') := fun x => by
  simp only [E2]
  split
  ·exact arr_one h'
  ·exact arr_one h
 have h0 : ∀ E' : Env, AgreeD (· < 2) (E2 v v') E' → E'.χ (0, 0, 0) = v := fun E' hE' => by
  have := (hE' (0, 0, 0) Nat.zero_lt_two).2.2.2
  simpa [E2] using this
 have h1 : ∀ E' : Env, AgreeD (· < 2) (E2 v v') E' → E'.χ (1, 0, 0) = v' := fun E' hE' => by
  have := (hE' (1, 0, 0) Nat.one_lt_two).2.2.2
  simpa [E2] using this
 refine calls_sym (c := c) (C := mkC P A w rs R) 1000 sc (E2 v v') [] _ [] 2 nt args (mkTab_ok _ _) hf hb hc hr hn rfl rfl hone (fun E' hE' => hargs E' (h0 E' hE') (h1 E' hE')) hnt (fun E' hE' => inOk_arrs fun w' hw' x A hA => ?_) hex
 rcases atN_one hA with ⟨rfl, rfl⟩ | hA
 ·exact arr1 T (h0 E' hE') h hw'
 rcases atN_one hA with ⟨rfl, rfl⟩ | hA
 ·exact arr1 T' (h1 E' hE') h' hw'
 exact (atN_nil hA).elim
end Go.Proofs.Ytpjdcbofngcdbaa.Z
namespace Go.Proofs.Ytpjdcbofngcdbaa.Z
open Go Go.RowKit
theorem le_tr {C : Ctx} {S S' S'' : St} (h : Le C S S') (h' : Le C S' S'') : Le C S S'' := fun E a w hs => by
 obtain ⟨E', hs'⟩ := h E a w hs
 exact h' E' a w hs'
theorem ats_push {α : Type} {enc : α → List Value} {xs ys : List α} {d x : α} {n : Nat} {f g : Nat → List SC} (hy : ys = xs ++ [x]) (hn : n = xs.length) (hf : ∀ e, e < xs.length → f e = ats enc xs d e) (hg : g 0 = (enc x).map .v) : ∀ e, e < ys.length → appAt n f g e = ats enc ys d e := fun e he => by
 subst hy
 subst hn
 unfold appAt
 by_cases h : e < xs.length
 ·rw [if_pos h, hf e h]
  simp [ats, List.getD_eq_getElem?_getD, List.getElem?_append_left h]
 ·have : e = xs.length := by simp at he; omega
  subst this
  rw [if_neg h, Nat.sub_self, hg]
  simp [ats]
theorem arr_at {C : Ctx} {E : Env} {S : St} {a : Act} {w : World} {α : Type} {enc : α → List Value} {s : Nat} {xs : List α} {d : α} {l : Nat} (hs : Sat C.B C.W C.w0 E S a w) (i : Nat) (h : atN S.arrs (i, 0, 0) = some (arrOf enc s xs d l)) : Arr w enc s (E.χ (i, 0, 0)) xs := arr_of (d := d) ((holds_of hs).1 (i, 0, 0) _ h)
theorem own_at {C : Ctx} {E : Env} {S : St} {a : Act} {w : World} (hs : Sat C.B C.W C.w0 E S a w) {α : Type} {ty s : Nat} {enc : α → List Value} {ys : List α} {d : α} (i n : Nat) (hi : look S.own i = some (.one (.ar ys.length s (ats enc ys d) ty))) (hn : n = ys.length) : Arr w enc s ((SC.sl (i, 0, 0) s 0 n none).den E) ys :=
 arr_own hs i _ n _ hi hn (Nat.le_refl _) fun _ _ => rfl
theorem guardW {C : Ctx} {ex : List KI → St → Prop} {f : Nat} {vs : List SV} {r : List IO1} {k : List KI} {S S' : St} {d : Option Nat} {g : Nat} {want e : Bool} {Z Z' : Prop} (tmpl : SV) (u : Value) (hv : ∀ E, tmpl.den E = u) (hc : ∀ E a w, Sat C.B C.W C.w0 E S' a w → Calls C.P f (vs.map (SV.den E)).toArray w (RetV w u))
  (hk : ex (.ops r :: k) ⟨S.nt, S.putT d (.gd g want e tmpl), S.own, S.arrs, S.facts, S.nid⟩) : CallG C ex f vs r k S S' d g want e Z ∨ Z' :=
 Or.inl (Or.inl ⟨tmpl, fun _ => crv_retV tmpl u hv hc, hk⟩)
theorem dcallN {C : Ctx} {bs f : Nat} {vs : List SV} {dst : Option Nat} {U : List Nat} {Si S : St} {done : List Rec} {ex : List Rec → St → Prop} (nx : Nat) (T : Nat → SV) (O : Nat → Own) (hc : ∀ E a w, Sat C.B C.W C.w0 E Si a w → Calls C.P f (vs.map (SV.den E)).toArray w (RetN w nx T O))
  (hkeys : newOk Si.nid nx (keysL (O Si.nid)))
  (h : ex (done ++ [⟨dst, T Si.nid, O Si.nid, [], Si.nid, nx, keysL Si.own, [], []⟩]) (S.appN ⟨dst, T Si.nid, O Si.nid, [], Si.nid, nx, keysL Si.own, [], []⟩)) : DCallVC C bs f vs dst U Si done S ex :=
 dcall_intro (cr_retN nx T O hc) rfl trivial (by
  have : ∀ l : Own, newOk Si.nid nx (keysL l) → wrOk U done Si.nid nx l := by
   intro l
   induction l with
   | nil => intro _; trivial
   | cons a l ih =>
    obtain ⟨k, b⟩ := a
    intro h; exact ⟨Or.inl h.1, ih h.2⟩
  exact this _ hkeys) (fun k hk hlt => absurd (newOk_mem hkeys k hk).1 (by omega)) h
theorem wrI {n : Int} (h : -9223372036854775808 ≤ n ∧ n ≤ 9223372036854775807) : IntKind.i64.wrap n = n := wr64 h.1 h.2
def leT (s n : Nat) (e : Int) (b : Nat) : SV := .tup [(false, [.sl (b, 0, 0) s 0 n none]), (false, [.v (.int .i64 e)])]
theorem retLE {P : Program} {A : List Nat} {w : World} {rs : List RS} {α : Type} {ty s n : Nat} {enc : α → List Value} {xs : List α} {d : α} {S : St} {q : Int} (i k : Nat) (at_ : Nat → List SC)
  (hi : look S.own i = some (.one (.ar k s at_ ty))) (hn : n = xs.length) (hk : xs.length ≤ k) (ha : ∀ e, e < xs.length → at_ e = ats enc xs d e) : RetVC (mkC P A w rs (RetN w 1 (leT s xs.length q) (lsO ty s enc xs d))) (.tup [(false, [.sl (i, 0, 0) s 0 n none]), (false, [.v (.int .i64 q)])]) S := by
 subst hn
 refine retN (fun _ => i) (fun b => ?_) (fun b => ?_) (fun b => ?_)
 ·simp [leT, SV.ren, ren1L, ren1, SC.renL, SC.ren, fromσ, SV.okN, ok1L, SC.okL, SC.okN, NewIds]
 ·refine ⟨⟨⟨Nat.le_refl _, by omega⟩, ?_⟩, trivial⟩
  simp only [fromσ, atN, hi, Fm.get, and_self, if_true]
  refine ⟨hk, rfl, rfl, fun e he => ?_⟩
  rw [ha e he]
  exact ⟨(renL_v _ _).symm, okL_v _ _⟩
 ·exact injN_from fun i hi j hj _ => by simp [lsO, keysL] at hi hj; omega
theorem retNE {P : Program} {A : List Nat} {w : World} {rs : List RS} {α : Type} {ty s : Nat} {enc : α → List Value} {d : α} {S : St} {q : Int} : RetVC (mkC P A w rs (RetN w 1 (leT s 0 q) (lsO ty s enc [] d))) (.tup [(false, [.v (.slice none 0 0)]), (false, [.v (.int .i64 q)])]) S := by
 intro E a w' hs
 refine ⟨_, rfl, below_of hs.sat, fun b => ⟨⟨fun _ => 0, fun _ => 0, fun _ => true, fun _ => .bool true⟩, fun _ => rfl, fun E2 hE2 => ?_⟩⟩
 obtain ⟨h1, h2, h3, h4⟩ := hE2 (b, 0, 0) ⟨Nat.le_refl _, Nat.lt_succ_self _⟩
 refine ⟨?_, fun _ => emp, ?_, fun _ _ _ _ _ _ _ n => Or.inl rfl, fun x c _ n o hn => by cases hn⟩
 ·simp [leT, SV.den, den1, SC.den, h2, h3]
 ·intro x c hx
  rcases atN_one hx with ⟨rfl, rfl⟩ | hx
  ·exact Or.inl ⟨trivial, h2, rfl, rfl⟩
  ·exact (atN_nil hx).elim
def Unr (C : Ctx) (c : IR) (k : List KI) (ex : List KI → St → Prop) : Nat → St → Prop
 | 0, _ => False
 | n + 1, S => ∀ (ι : Type) (I : ι → St) (μ : ι → Nat) (i : ι), (∀ S', Unr C c k ex n S' → BackVC C ι I μ i S') → ex (.code c :: .back ι I μ i :: k) S
theorem loop_unr {C : Ctx} {S : St} {c : IR} {k : List KI} {ex : List KI → St → Prop} (n : Nat) (h : Unr C c k ex n S) : LoopVC C c k S ex := by
 refine ⟨{ p : Nat × St // Unr C c k ex p.1 p.2 }, fun p => p.1.2, fun p => p.1.1, ⟨(n, S), h⟩, fun E a w hs => ⟨E, hs⟩, ?_⟩
 rintro ⟨⟨m, S'⟩, h'⟩
 cases m with
 | zero => exact h'.elim
 | succ m => exact h' _ _ _ _ (fun S'' h'' => ⟨⟨(m, S''), h''⟩, Nat.lt_succ_self m, fun E a w hs => ⟨E, hs⟩⟩)
def keepL' {α : Type} (l : List (Nat × α)) : List Nat → List (Nat × α)
 | [] => []
 | k :: ks => match look l k with
  | some v => (k, v) :: keepL' l ks
  | none => keepL' l ks
theorem look_keep {α : Type} {l : List (Nat × α)} : ∀ {ks : List Nat} {t : Nat} {v : α}, look (keepL' l ks) t = some v → look l t = some v
 | [], t, v, h => by cases h
 | k :: ks, t, v, h => by
  simp only [keepL'] at h
  split at h
  ·next u hl =>
   rw [look_cons] at h
   split at h
   ·next e => subst e; rw [hl]; exact h
   ·exact look_keep h
  ·exact look_keep h
def St.keep (S : St) (kt ko ka : List Nat) : St := ⟨S.nt, keepL' S.tmps kt, keepL' S.own ko, keepL' S.arrs ka, S.facts, S.nid⟩
theorem sub_keep (S : St) (kt ko ka : List Nat) : Sub (S.keep kt ko ka) S := ⟨rfl, fun _ _ h => look_keep h, fun _ _ h => look_keep h, fun _ _ h => look_keep h, fun _ h => h⟩
theorem le_keep {C : Ctx} (S : St) (kt ko ka : List Nat) : Le C S (S.keep kt ko ka) := fun E a w hs => ⟨E, hs.1, fun E' h1 h2 => sat_sub (sub_keep S kt ko ka) (hs.2 E' h1 h2)⟩
theorem back_le {C : Ctx} {ι : Type} {I : ι → St} {μ : ι → Nat} {i : ι} {S S' : St} (hle : Le C S S') (h : BackVC C ι I μ i S') : BackVC C ι I μ i S := by
 obtain ⟨j, h1, h2⟩ := h
 exact ⟨j, h1, le_tr hle h2⟩
theorem loop_le {C : Ctx} {S S' : St} {c : IR} {k : List KI} {ex : List KI → St → Prop} (hle : Le C S S') (h : LoopVC C c k S' ex) : LoopVC C c k S ex := by
 obtain ⟨ι, I, μ, i, h1, h2⟩ := h
 exact ⟨ι, I, μ, i, le_tr hle h1, h2⟩
end Go.Proofs.Ytpjdcbofngcdbaa.Z
namespace Go.Proofs.Ytpjdcbofngcdbaa.Z
open Go Go.RowKit
def iS (n : Int) : SV := .c (.v (.int .i64 n))
def uS (n : Int) : SV := .c (.v (.int .u64 n))
def rv (n : Nat) : Nat → Nat
 | 0 => 0
 | i + 1 => 2 * rv n i + n / 2 ^ i % 2
theorem rv_lt (n : Nat) : ∀ i, rv n i < 2 ^ i
 | 0 => by simp [rv]
 | i + 1 => by have := rv_lt n i; simp only [rv, Nat.pow_succ]; omega
theorem rv_bit (n : Nat) : ∀ i j, (rv n i).testBit j = (decide (j < i) && n.testBit (i - 1 - j))
 | 0, j => by simp [rv]
 | i + 1, 0 => by
  have h : (2 * rv n i + n / 2 ^ i % 2) % 2 = n / 2 ^ i % 2 := by omega
  rw [Nat.testBit_zero, Nat.testBit_eq_decide_div_mod_eq]
  simp only [rv, h, Nat.add_sub_cancel, Nat.sub_zero, Nat.zero_lt_succ, decide_true, Bool.true_and]
 | i + 1, j + 1 => by
  have h : (2 * rv n i + n / 2 ^ i % 2) / 2 = rv n i := by omega
  rw [Nat.testBit_succ]
  simp only [rv, h, rv_bit n i j, Nat.add_lt_add_iff_right, Nat.add_sub_cancel]
  by_cases hj : j < i
  ·rw [show i - 1 - j = i - (j + 1) by omega]
  ·simp [hj]
theorem rv_rv {n : Nat} (h : n < 2 ^ 30) : rv (rv n 30) 30 = n := by
 refine Nat.eq_of_testBit_eq fun j => ?_
 rw [rv_bit, rv_bit]
 by_cases hj : j < 30
 ·rw [show 30 - 1 - (30 - 1 - j) = j by omega]
  simp [hj, show 29 - j < 30 by omega]
 ·have hz : n.testBit j = false := Nat.testBit_lt_two_pow (Nat.lt_of_lt_of_le h (Nat.pow_le_pow_right (by decide) (by omega : 30 ≤ j)))
  rw [hz, decide_eq_false hj, Bool.false_and]
def ir31 : IR := (.seq (.ops [⟨(some 2), (.mv (.k (.c (.v (.int .i64 0))))), none⟩]) (.kill [1, 2, 3, 4, 5, 6, 7, 8, 9, 10, 11] (.seq (.ops [⟨(some 3), (.mv (.k (.c (.v (.int .i64 0))))), none⟩]) (.seq (.seq (.ops [⟨(some 5), (.mv (.k (.c (.v (.int .i64 0))))), none⟩]) (.blk 0 (.loop (.seq (.ops [⟨(some 6), (.bin .lss (.t 5) (.k (.c (.v (.int .i64 30))))), none⟩]) (.kill [4, 7, 8, 9, 10, 11, 12, 13, 14, 15] (.seq (.cond (.t 6) .skip (.exit 0)) (.kill [6] (.seq (.blk 1 (.seq (.ops [⟨(some 7), (.mv (.t 5)), none⟩, ⟨(some 4), (.mv (.t 7)), none⟩]) (.kill [7] (.ops [⟨(some 8), (.mv (.t 3)), none⟩, ⟨(some 9), (.sh true (.t 8) (.k (.c (.v (.int .u64 1))))), none⟩, ⟨(some 10), (.mv (.t 0)), none⟩, ⟨(some 11), (.mv (.t 4)), none⟩, ⟨(some 12), (.sh false (.t 10) (.t 11)), none⟩, ⟨(some 13), (.bin .and (.t 12) (.k (.c (.v (.int .i64 1))))), none⟩, ⟨(some 14), (.bin .or (.t 9) (.t 13)), none⟩, ⟨(some 3), (.mv (.t 14)), none⟩])))) (.kill [4, 7, 8, 9, 10, 11, 12, 13, 14] (.ops [⟨(some 15), (.bin .add (.t 5) (.k (.c (.v (.int .i64 1))))), none⟩, ⟨(some 5), (.mv (.t 15)), none⟩])))))))))) (.kill [0, 4, 5, 6, 7, 8, 9, 10, 11, 12, 13, 14, 15] (.seq (.ops [⟨(some 16), (.mv (.t 3)), none⟩, ⟨(some 2), (.mv (.t 16)), none⟩]) (.kill [3, 16] .ret)))))))
def rs31 : List RS := [(.t 2)]
def nt31 : Nat := 17
def ir32 : IR := (.seq (.ops [⟨(some 2), (.mv (.k (.c (.v (.int .i64 0))))), none⟩]) (.kill [1, 2, 3, 4, 5, 6, 7, 8, 9, 10, 11] (.seq (.ops [⟨(some 3), (.mv (.k (.c (.v (.int .i64 0))))), none⟩]) (.seq (.seq (.ops [⟨(some 4), (.mv (.k (.c (.v (.int .i64 0))))), none⟩]) (.blk 0 (.loop (.seq (.seq (.ops [⟨(some 5), (.mv (.t 4)), none⟩, ⟨(some 6), (.bin .lss (.t 5) (.k (.c (.v (.int .i64 30))))), none⟩]) (.kill [5, 7, 8, 9, 10, 11, 12, 13, 14, 15] (.cond (.t 6) .skip (.exit 0)))) (.kill [6] (.seq (.blk 1 (.seq (.ops [⟨(some 9), (.mv (.t 3)), none⟩, ⟨(some 10), (.bin .mul (.t 9) (.k (.c (.v (.int .i64 2))))), none⟩, ⟨(some 11), (.mv (.t 0)), none⟩, ⟨(some 12), (.bin .rem (.t 11) (.k (.c (.v (.int .i64 2))))), none⟩, ⟨(some 13), (.bin .add (.t 10) (.t 12)), none⟩, ⟨(some 3), (.mv (.t 13)), none⟩]) (.kill [9, 10, 11, 12, 13] (.ops [⟨(some 14), (.mv (.t 0)), none⟩, ⟨(some 15), (.bin .quo (.t 14) (.k (.c (.v (.int .i64 2))))), none⟩, ⟨(some 0), (.mv (.t 15)), none⟩])))) (.kill [9, 10, 11, 12, 13, 14, 15] (.ops [⟨(some 7), (.mv (.t 4)), none⟩, ⟨(some 8), (.bin .add (.t 7) (.k (.c (.v (.int .i64 1))))), none⟩, ⟨(some 4), (.mv (.t 8)), none⟩])))))))) (.kill [0, 4, 5, 6, 7, 8, 9, 10, 11, 12, 13, 14, 15] (.seq (.ops [⟨(some 16), (.mv (.t 3)), none⟩, ⟨(some 2), (.mv (.t 16)), none⟩]) (.kill [3, 16] .ret)))))))
def rs32 : List RS := [(.t 2)]
def nt32 : Nat := 17
def ir11 : IR := (.seq (.ops [⟨(some 2), (.mv (.k (.c (.v (.int .i64 0))))), none⟩, ⟨(some 3), (.mv (.k (.c (.v (.int .i64 0))))), none⟩]) (.kill [1, 2, 3, 4, 5, 6, 7, 8, 9, 10, 11] (.seq (.seq (.ops [⟨(some 4), (.mv (.t 0)), none⟩, ⟨(some 5), (.bin .lss (.t 4) (.k (.c (.v (.int .i64 0))))), none⟩, ⟨(some 6), (.mv (.t 5)), none⟩, ⟨(some 7), (.mv (.t 0)), (some (6, false))⟩, ⟨(some 8), (.bin .gtr (.t 7) (.k (.c (.v (.int .i64 2147483647))))), (some (6, false))⟩, ⟨(some 9), (.pick (.t 6) (.k (.c (.v (.bool true)))) (.t 8)), none⟩, ⟨(some 10), (.mv (.t 9)), none⟩, ⟨(some 11), (.mv (.t 0)), (some (10, false))⟩, ⟨(some 12), (.bin .rem (.t 11) (.k (.c (.v (.int .i64 2))))), (some (10, false))⟩, ⟨(some 13), (.bin .eql (.t 12) (.k (.c (.v (.int .i64 0))))), (some (10, false))⟩, ⟨(some 14), (.pick (.t 10) (.k (.c (.v (.bool true)))) (.t 13)), none⟩]) (.kill [4, 5, 6, 7, 8, 9, 10, 11, 12, 13] (.cond (.t 14) (.seq (.ops [⟨(some 2), (.mv (.k (.c (.v (.int .i64 0))))), none⟩, ⟨(some 3), (.mv (.k (.c (.v (.int .i64 2))))), none⟩]) (.kill [0, 14] .ret)) .skip))) (.kill [2, 3, 14] (.seq (.ops [⟨(some 15), (.mv (.t 0)), none⟩, ⟨(some 16), (.bin .quo (.t 15) (.k (.c (.v (.int .i64 2))))), none⟩, ⟨(some 17), (.call 31 [(.t 16)]), none⟩, ⟨(some 2), (.mv (.t 17)), none⟩, ⟨(some 3), (.mv (.k (.c (.v (.int .i64 0))))), none⟩]) (.kill [0, 15, 16, 17] .ret))))))
def rs11 : List RS := [(.t 2), (.t 3)]
def nt11 : Nat := 18
def ir16 : IR := (.seq (.ops [⟨(some 2), (.mv (.k (.c (.v (.int .i64 0))))), none⟩]) (.kill [1, 2, 3, 4, 5, 6, 7, 8, 9, 10, 11] (.seq (.ops [⟨(some 3), (.mv (.t 0)), none⟩, ⟨(some 4), (.bin .quo (.t 3) (.k (.c (.v (.int .i64 2))))), none⟩, ⟨(some 5), (.call 32 [(.t 4)]), none⟩, ⟨(some 2), (.mv (.t 5)), none⟩]) (.kill [0, 3, 4, 5] .ret))))
def rs16 : List RS := [(.t 2)]
def nt16 : Nat := 6
def ir14 : IR := (.seq (.ops [⟨(some 2), (.mv (.k (.c (.v (.bool false))))), none⟩]) (.kill [1, 2, 3, 4, 5, 6, 7, 8, 9, 10, 11] (.seq (.ops [⟨(some 3), (.mv (.t 0)), none⟩, ⟨(some 4), (.bin .geq (.t 3) (.k (.c (.v (.int .i64 0))))), none⟩, ⟨(some 5), (.mv (.t 4)), none⟩, ⟨(some 6), (.mv (.t 0)), (some (5, true))⟩, ⟨(some 7), (.bin .leq (.t 6) (.k (.c (.v (.int .i64 2147483647))))), (some (5, true))⟩, ⟨(some 8), (.pick (.t 5) (.t 7) (.k (.c (.v (.bool false))))), none⟩, ⟨(some 9), (.mv (.t 8)), none⟩, ⟨(some 10), (.mv (.t 0)), (some (9, true))⟩, ⟨(some 11), (.bin .rem (.t 10) (.k (.c (.v (.int .i64 2))))), (some (9, true))⟩, ⟨(some 12), (.bin .eql (.t 11) (.k (.c (.v (.int .i64 1))))), (some (9, true))⟩, ⟨(some 13), (.pick (.t 9) (.t 12) (.k (.c (.v (.bool false))))), none⟩, ⟨(some 2), (.mv (.t 13)), none⟩]) (.kill [0, 3, 4, 5, 6, 7, 8, 9, 10, 11, 12, 13] .ret))))
def rs14 : List RS := [(.t 2)]
def nt14 : Nat := 14
def ir13 : IR := (.seq (.ops [⟨(some 2), (.mv (.k (.c (.v (.int .i64 0))))), none⟩]) (.kill [1, 2, 3, 4, 5, 6, 7, 8, 9, 10, 11] (.seq (.ops [⟨(some 3), (.mv (.t 0)), none⟩, ⟨(some 2), (.mv (.t 3)), none⟩]) (.kill [0, 3] .ret))))
def rs13 : List RS := [(.t 2)]
def nt13 : Nat := 4
theorem sh_right {n i : Nat} (hi : i ≤ 64) : shI false .i64 (n : Int) (i : Int) = ((n / 2 ^ i : Nat) : Int) := by
 simp only [shI, Bool.false_eq_true, if_false, Int.toNat_natCast, show IntKind.i64.bits = 64 from rfl, Nat.min_eq_left hi]
 rw [Int.fdiv_eq_ediv_of_nonneg _ (by exact_mod_cast Nat.zero_le _)]
 norm_cast
theorem sh_left1 {n : Nat} (h : n < 2 ^ 31) : shI true .i64 (n : Int) 1 = ((2 * n : Nat) : Int) := by
 simp only [shI, if_true]
 rw [show min (1 : Int).toNat IntKind.i64.bits = 1 from rfl, wrI (by omega)]
 omega
set_option maxRecDepth 100000 in
set_option maxHeartbeats 400000 in
theorem round_calls (w : World) (n : Nat) (h : n < 2 ^ 30) : Calls Try.prog 31 #[.int .i64 (n : Int)] w (RetV w (.int .i64 (rv n 30 : Nat))) := by
 refine enter0 (A := []) (c := ir31) (rs := rs31) (nt := nt31) [iS n] _ Try.func31 rfl (by kernel_rfl) (by kernel_rfl) rfl (fun E' => by simp [iS, SV.den, SC.den]) (of_decide_eq_true rfl) ?_
 simp only [ir31, nt31, rs31, ex_nil, ex_skip, ex_ops, ex_draw, ex_seq, ex_cond, ex_blk, ex_loop, ex_exit, ex_ret, ex_mark, ex_kill, ex_pop, ex_onil, ex_op, ex_opg, ↓condS, ↓exitS, ↓gateS, ↓runOp, thenS, stepOut, St.ev, look, setL, mergeL, dropL, memB, atN, pkN, setN, Fm.get, Fm.pk, Fm.set, St.app, St.putT, St.skipT, St.setB, St.kill, St.call, St.setA, St.resS, specS, specO, specC, chain, chainP, inCh, resV, rsvP, resT, slot1, slotL, pureSlots, St.evW, resA1, resAP, resA, gB, specD, specDO, recG, pure1, pureO, SV.cells, SC.one, allOne, fillP, put, take', drop', len', nth, binI, eqCells, SC.bool?, SC.nil?, neg?, evs, evC, popTo, resL, resP, resSV, oneSV, finS, retS, dr_nil, dr_cons, ↓gateD, altC, ↓runD, thenD, recOf, skipR, wrOk, wrFree, wkImp, St.weak, thenW, recW, fimp_mpe, newOk, outOk, St.appN, St.hid, St.only, keepK, useO, idX, idC, tchs, keyss, Rec.tch, keysL, ltAll, enumT, slSrc, slB, slM, SV.int?, segs, keyOf, intsOf, Value.oneCell', ↓imp_ft, ↓imp_tf, ↓imp_tt, ↓imp_ff, ↓imp_fn, ↓imp_tn, ↓imp_fy, ↓imp_ty, ↓reduceIte, Nat.reduceLT, Nat.reduceLeDiff, Nat.reduceAdd, Nat.reduceSub, Nat.reduceMul, Nat.reduceEqDiff, reduceCtorEq, and_self, and_true, true_and, and_false, false_and, not_true_eq_false, not_false_eq_true, List.map_cons, List.map_nil, List.cons_append, List.nil_append, List.append_nil, Option.bind_some, Option.bind_none, Int.reduceToNat, Int.reduceEq, Int.reduceBEq, Int.reduceBNe, Int.reduceLT, Int.reduceLE, Int.reduceNeg, Bool.true_and, Bool.and_true, Bool.false_and, Bool.and_false, Bool.not_true, Bool.not_false, Bool.not_not, Bool.true_beq, Bool.false_beq, Bool.bne_true, Bool.bne_false, Bool.true_bne, Bool.false_bne, Option.map_some, Option.map_none, beq_self_eq_true, bne_self_eq_false, Bool.false_eq_true, Bool.true_eq_false, Nat.zero_add, Nat.add_zero, forall_const, implies_true, true_implies, false_implies, Int.cast_ofNat_Int, Int.natCast_nonneg, Int.ofNat_lt, Int.toNat_natCast, mkC_rs, decide_true, decide_false, List.length_cons, List.length_nil, Prod.mk.injEq, Nat.reduceEqDiff, Option.some.injEq, arrOf_len, arrOf_size, arrOf_at, wr_lit, wr_litu, Int.reduceAdd, Int.reduceSub, Int.reduceMul, Int.reduceGE, Int.reduceGT, endO, Nat.sub_zero, ex_back, iS]
 refine loopI (ι := { i : Nat // i ≤ 30 }) (fun i => ⟨17, [(0, iS n), (3, iS (rv n i.1 : Nat)), (5, iS (i.1 : Nat))], [], [], [], 0⟩) (fun i => 30 - i.1) ⟨0, by omega⟩ (le_tmps (by simp [TmpsSub, look, iS, rv])) ?_
 rintro ⟨i, hi⟩
 simp only [ex_nil, ex_skip, ex_ops, ex_draw, ex_seq, ex_cond, ex_blk, ex_loop, ex_exit, ex_ret, ex_mark, ex_kill, ex_pop, ex_onil, ex_op, ex_opg, ↓condS, ↓exitS, ↓gateS, ↓runOp, thenS, stepOut, St.ev, look, setL, mergeL, dropL, memB, atN, pkN, setN, Fm.get, Fm.pk, Fm.set, St.app, St.putT, St.skipT, St.setB, St.kill, St.call, St.setA, St.resS, specS, specO, specC, chain, chainP, inCh, resV, rsvP, resT, slot1, slotL, pureSlots, St.evW, resA1, resAP, resA, gB, specD, specDO, recG, pure1, pureO, SV.cells, SC.one, allOne, fillP, put, take', drop', len', nth, binI, eqCells, SC.bool?, SC.nil?, neg?, evs, evC, popTo, resL, resP, resSV, oneSV, finS, retS, dr_nil, dr_cons, ↓gateD, altC, ↓runD, thenD, recOf, skipR, wrOk, wrFree, wkImp, St.weak, thenW, recW, fimp_mpe, newOk, outOk, St.appN, St.hid, St.only, keepK, useO, idX, idC, tchs, keyss, Rec.tch, keysL, ltAll, enumT, slSrc, slB, slM, SV.int?, segs, keyOf, intsOf, Value.oneCell', ↓imp_ft, ↓imp_tf, ↓imp_tt, ↓imp_ff, ↓imp_fn, ↓imp_tn, ↓imp_fy, ↓imp_ty, ↓reduceIte, Nat.reduceLT, Nat.reduceLeDiff, Nat.reduceAdd, Nat.reduceSub, Nat.reduceMul, Nat.reduceEqDiff, reduceCtorEq, and_self, and_true, true_and, and_false, false_and, not_true_eq_false, not_false_eq_true, List.map_cons, List.map_nil, List.cons_append, List.nil_append, List.append_nil, Option.bind_some, Option.bind_none, Int.reduceToNat, Int.reduceEq, Int.reduceBEq, Int.reduceBNe, Int.reduceLT, Int.reduceLE, Int.reduceNeg, Bool.true_and, Bool.and_true, Bool.false_and, Bool.and_false, Bool.not_true, Bool.not_false, Bool.not_not, Bool.true_beq, Bool.false_beq, Bool.bne_true, Bool.bne_false, Bool.true_bne, Bool.false_bne, Option.map_some, Option.map_none, beq_self_eq_true, bne_self_eq_false, Bool.false_eq_true, Bool.true_eq_false, Nat.zero_add, Nat.add_zero, forall_const, implies_true, true_implies, false_implies, Int.cast_ofNat_Int, Int.natCast_nonneg, Int.ofNat_lt, Int.toNat_natCast, mkC_rs, decide_true, decide_false, List.length_cons, List.length_nil, Prod.mk.injEq, Nat.reduceEqDiff, Option.some.injEq, arrOf_len, arrOf_size, arrOf_at, wr_lit, wr_litu, Int.reduceAdd, Int.reduceSub, Int.reduceMul, Int.reduceGE, Int.reduceGT, endO, Nat.sub_zero, ex_back, iS]
 refine both (fun hlt => ?_) (fun hge => ?_)
 ·rw [decide_eq_true_eq] at hlt
  have hr := rv_lt n i
  have hr2 : rv n i < 2 ^ 30 := Nat.lt_of_lt_of_le hr (Nat.pow_le_pow_right (by decide) (by omega))
  rw [sh_right (by omega), sh_left1 (by omega), wr_succ (by omega)]
  have hand : bits .and .i64 ((n / 2 ^ i : Nat) : Int) 1 = ((n / 2 ^ i % 2 : Nat) : Int) := by
   have := (bits_nat .i64 62 (by decide) (fun n h1 h2 => wrI (by omega)) (n / 2 ^ i) 1 (Nat.lt_of_le_of_lt (Nat.div_le_self _ _) (by omega)) (by decide)).1
   rw [Nat.and_one_is_mod] at this
   exact this
  have hor : bits .or .i64 ((2 * rv n i : Nat) : Int) ((n / 2 ^ i % 2 : Nat) : Int) = ((rv n (i + 1) : Nat) : Int) := by
   rw [bits_join .i64 62 (by decide) (fun n h1 h2 => wrI (by omega)) 1 _ _ (by omega) (by omega) (by omega) (by omega) (by omega) (by omega)]
   simp only [rv]; omega
  rw [hand, hor]
  exact backI ⟨i + 1, by omega⟩ (by simp only; omega) (le_tmps (by simp [TmpsSub, look, iS]))
 ·rw [decide_eq_false_iff_not] at hge
  have : i = 30 := by omega
  subst this
  exact retV fun E => by rw [den_c, den_v]
set_option maxRecDepth 100000 in
set_option maxHeartbeats 400000 in
theorem rround_calls (w : World) (n : Nat) (h : n < 2 ^ 30) : Calls Try.prog 32 #[.int .i64 (n : Int)] w (RetV w (.int .i64 (rv n 30 : Nat))) := by
 refine enter0 (A := []) (c := ir32) (rs := rs32) (nt := nt32) [iS n] _ Try.func32 rfl (by kernel_rfl) (by kernel_rfl) rfl (fun E' => by simp [iS, SV.den, SC.den]) (of_decide_eq_true rfl) ?_
 simp only [ir32, nt32, rs32, ex_nil, ex_skip, ex_ops, ex_draw, ex_seq, ex_cond, ex_blk, ex_loop, ex_exit, ex_ret, ex_mark, ex_kill, ex_pop, ex_onil, ex_op, ex_opg, ↓condS, ↓exitS, ↓gateS, ↓runOp, thenS, stepOut, St.ev, look, setL, mergeL, dropL, memB, atN, pkN, setN, Fm.get, Fm.pk, Fm.set, St.app, St.putT, St.skipT, St.setB, St.kill, St.call, St.setA, St.resS, specS, specO, specC, chain, chainP, inCh, resV, rsvP, resT, slot1, slotL, pureSlots, St.evW, resA1, resAP, resA, gB, specD, specDO, recG, pure1, pureO, SV.cells, SC.one, allOne, fillP, put, take', drop', len', nth, binI, eqCells, SC.bool?, SC.nil?, neg?, evs, evC, popTo, resL, resP, resSV, oneSV, finS, retS, dr_nil, dr_cons, ↓gateD, altC, ↓runD, thenD, recOf, skipR, wrOk, wrFree, wkImp, St.weak, thenW, recW, fimp_mpe, newOk, outOk, St.appN, St.hid, St.only, keepK, useO, idX, idC, tchs, keyss, Rec.tch, keysL, ltAll, enumT, slSrc, slB, slM, SV.int?, segs, keyOf, intsOf, Value.oneCell', ↓imp_ft, ↓imp_tf, ↓imp_tt, ↓imp_ff, ↓imp_fn, ↓imp_tn, ↓imp_fy, ↓imp_ty, ↓reduceIte, Nat.reduceLT, Nat.reduceLeDiff, Nat.reduceAdd, Nat.reduceSub, Nat.reduceMul, Nat.reduceEqDiff, reduceCtorEq, and_self, and_true, true_and, and_false, false_and, not_true_eq_false, not_false_eq_true, List.map_cons, List.map_nil, List.cons_append, List.nil_append, List.append_nil, Option.bind_some, Option.bind_none, Int.reduceToNat, Int.reduceEq, Int.reduceBEq, Int.reduceBNe, Int.reduceLT, Int.reduceLE, Int.reduceNeg, Bool.true_and, Bool.and_true, Bool.false_and, Bool.and_false, Bool.not_true, Bool.not_false, Bool.not_not, Bool.true_beq, Bool.false_beq, Bool.bne_true, Bool.bne_false, Bool.true_bne, Bool.false_bne, Option.map_some, Option.map_none, beq_self_eq_true, bne_self_eq_false, Bool.false_eq_true, Bool.true_eq_false, Nat.zero_add, Nat.add_zero, forall_const, implies_true, true_implies, false_implies, Int.cast_ofNat_Int, Int.natCast_nonneg, Int.ofNat_lt, Int.toNat_natCast, mkC_rs, decide_true, decide_false, List.length_cons, List.length_nil, Prod.mk.injEq, Nat.reduceEqDiff, Option.some.injEq, arrOf_len, arrOf_size, arrOf_at, wr_lit, wr_litu, Int.reduceAdd, Int.reduceSub, Int.reduceMul, Int.reduceGE, Int.reduceGT, endO, Nat.sub_zero, ex_back, iS]
 refine loopI (ι := { i : Nat // i ≤ 30 }) (fun i => ⟨17, [(0, iS (n / 2 ^ i.1 : Nat)), (3, iS (rv n i.1 : Nat)), (4, iS (i.1 : Nat))], [], [], [], 0⟩) (fun i => 30 - i.1) ⟨0, by omega⟩ (le_tmps (by simp [TmpsSub, look, iS, rv])) ?_
 rintro ⟨i, hi⟩
 simp only [ex_nil, ex_skip, ex_ops, ex_draw, ex_seq, ex_cond, ex_blk, ex_loop, ex_exit, ex_ret, ex_mark, ex_kill, ex_pop, ex_onil, ex_op, ex_opg, ↓condS, ↓exitS, ↓gateS, ↓runOp, thenS, stepOut, St.ev, look, setL, mergeL, dropL, memB, atN, pkN, setN, Fm.get, Fm.pk, Fm.set, St.app, St.putT, St.skipT, St.setB, St.kill, St.call, St.setA, St.resS, specS, specO, specC, chain, chainP, inCh, resV, rsvP, resT, slot1, slotL, pureSlots, St.evW, resA1, resAP, resA, gB, specD, specDO, recG, pure1, pureO, SV.cells, SC.one, allOne, fillP, put, take', drop', len', nth, binI, eqCells, SC.bool?, SC.nil?, neg?, evs, evC, popTo, resL, resP, resSV, oneSV, finS, retS, dr_nil, dr_cons, ↓gateD, altC, ↓runD, thenD, recOf, skipR, wrOk, wrFree, wkImp, St.weak, thenW, recW, fimp_mpe, newOk, outOk, St.appN, St.hid, St.only, keepK, useO, idX, idC, tchs, keyss, Rec.tch, keysL, ltAll, enumT, slSrc, slB, slM, SV.int?, segs, keyOf, intsOf, Value.oneCell', ↓imp_ft, ↓imp_tf, ↓imp_tt, ↓imp_ff, ↓imp_fn, ↓imp_tn, ↓imp_fy, ↓imp_ty, ↓reduceIte, Nat.reduceLT, Nat.reduceLeDiff, Nat.reduceAdd, Nat.reduceSub, Nat.reduceMul, Nat.reduceEqDiff, reduceCtorEq, and_self, and_true, true_and, and_false, false_and, not_true_eq_false, not_false_eq_true, List.map_cons, List.map_nil, List.cons_append, List.nil_append, List.append_nil, Option.bind_some, Option.bind_none, Int.reduceToNat, Int.reduceEq, Int.reduceBEq, Int.reduceBNe, Int.reduceLT, Int.reduceLE, Int.reduceNeg, Bool.true_and, Bool.and_true, Bool.false_and, Bool.and_false, Bool.not_true, Bool.not_false, Bool.not_not, Bool.true_beq, Bool.false_beq, Bool.bne_true, Bool.bne_false, Bool.true_bne, Bool.false_bne, Option.map_some, Option.map_none, beq_self_eq_true, bne_self_eq_false, Bool.false_eq_true, Bool.true_eq_false, Nat.zero_add, Nat.add_zero, forall_const, implies_true, true_implies, false_implies, Int.cast_ofNat_Int, Int.natCast_nonneg, Int.ofNat_lt, Int.toNat_natCast, mkC_rs, decide_true, decide_false, List.length_cons, List.length_nil, Prod.mk.injEq, Nat.reduceEqDiff, Option.some.injEq, arrOf_len, arrOf_size, arrOf_at, wr_lit, wr_litu, Int.reduceAdd, Int.reduceSub, Int.reduceMul, Int.reduceGE, Int.reduceGT, endO, Nat.sub_zero, ex_back, iS]
 refine both (fun hlt => ?_) (fun hge => ?_)
 ·rw [decide_eq_true_eq] at hlt
  have hr := rv_lt n i
  have hr2 : rv n i < 2 ^ 30 := Nat.lt_of_lt_of_le hr (Nat.pow_le_pow_right (by decide) (by omega))
  have hd : n / 2 ^ i ≤ n := Nat.div_le_self _ _
  have h1 : IntKind.i64.wrap (((n / 2 ^ i : Nat) : Int).tdiv 2) = ((n / 2 ^ (i + 1) : Nat) : Int) := by
   rw [Nat.pow_succ, ← Nat.div_div_eq_div_mul]
   generalize n / 2 ^ i = m at hd ⊢
   rw [IntWalk.i64_quo (m : Int) 2 ⟨by omega, by omega, by omega⟩]
   omega
  have h2 : IntKind.i64.wrap (IntKind.i64.wrap ((rv n i : Int) * 2) + ((n / 2 ^ i : Nat) : Int).tmod 2) = ((rv n (i + 1) : Nat) : Int) := by
   simp only [rv]
   generalize n / 2 ^ i = m at hd ⊢
   rw [Int.tmod_eq_emod_of_nonneg (by omega), wrI (show -9223372036854775808 ≤ (rv n i : Int) * 2 ∧ (rv n i : Int) * 2 ≤ 9223372036854775807 by omega), wrI (by omega)]
   omega
  rw [h1, h2, wr_succ (by omega)]
  exact ⟨by decide, by decide, backI ⟨i + 1, by omega⟩ (by simp only; omega) (le_tmps (by simp [TmpsSub, look, iS]))⟩
 ·rw [decide_eq_false_iff_not] at hge
  have : i = 30 := by omega
  subst this
  exact retV fun E => by rw [den_c, den_v]
def keyB (k : Int) : Bool := decide (0 ≤ k ∧ k ≤ 1073741823)
def placeB (p : Int) : Bool := decide (0 ≤ p ∧ p ≤ 2147483647 ∧ p % 2 = 1)
def placeF (k : Int) : Int := if keyB k = true then 2 * (rv k.toNat 30 : Nat) + 1 else 0
def keyF (p : Int) : Int := if placeB p = true then (rv (p / 2).toNat 30 : Nat) else 0
def errB (b : Bool) : Int := if b = true then 0 else 2
theorem rv30 (n : Nat) : rv n 30 < 1073741824 := rv_lt n 30
theorem key_key {p : Int} (h : placeB p = true) : keyB (keyF p) = true ∧ placeF (keyF p) = p := by
 have h1 := rv30 (p / 2).toNat
 have h2 : keyF p = (rv (p / 2).toNat 30 : Nat) := if_pos h
 have h3 : keyB (keyF p) = true := by rw [h2]; simp only [keyB, decide_eq_true_eq]; omega
 refine ⟨h3, ?_⟩
 simp only [placeB, decide_eq_true_eq] at h
 rw [placeF, if_pos h3, h2, Int.toNat_natCast, rv_rv (by omega)]
 omega
set_option maxRecDepth 100000 in
set_option maxHeartbeats 400000 in
theorem key_calls (w : World) (p : Int) : Calls Try.prog 11 #[.int .i64 p] w (RetV w (.tuple #[.int .i64 (keyF p), .int .i64 (errB (placeB p))])) := by
 refine enter0 (A := []) (c := ir11) (rs := rs11) (nt := nt11) [iS p] _ Try.func11 rfl (by kernel_rfl) (by kernel_rfl) rfl (fun E' => by simp [iS, SV.den, SC.den]) (of_decide_eq_true rfl) ?_
 simp only [ir11, nt11, rs11, ex_nil, ex_skip, ex_ops, ex_draw, ex_seq, ex_cond, ex_blk, ex_loop, ex_exit, ex_ret, ex_mark, ex_kill, ex_pop, ex_onil, ex_op, ex_opg, ↓condS, ↓exitS, ↓gateS, ↓runOp, thenS, stepOut, St.ev, look, setL, mergeL, dropL, memB, atN, pkN, setN, Fm.get, Fm.pk, Fm.set, St.app, St.putT, St.skipT, St.setB, St.kill, St.call, St.setA, St.resS, specS, specO, specC, chain, chainP, inCh, resV, rsvP, resT, slot1, slotL, pureSlots, St.evW, resA1, resAP, resA, gB, specD, specDO, recG, pure1, pureO, SV.cells, SC.one, allOne, fillP, put, take', drop', len', nth, binI, eqCells, SC.bool?, SC.nil?, neg?, evs, evC, popTo, resL, resP, resSV, oneSV, finS, retS, dr_nil, dr_cons, ↓gateD, altC, ↓runD, thenD, recOf, skipR, wrOk, wrFree, wkImp, St.weak, thenW, recW, fimp_mpe, newOk, outOk, St.appN, St.hid, St.only, keepK, useO, idX, idC, tchs, keyss, Rec.tch, keysL, ltAll, enumT, slSrc, slB, slM, SV.int?, segs, keyOf, intsOf, Value.oneCell', ↓imp_ft, ↓imp_tf, ↓imp_tt, ↓imp_ff, ↓imp_fn, ↓imp_tn, ↓imp_fy, ↓imp_ty, ↓reduceIte, Nat.reduceLT, Nat.reduceLeDiff, Nat.reduceAdd, Nat.reduceSub, Nat.reduceMul, Nat.reduceEqDiff, reduceCtorEq, and_self, and_true, true_and, and_false, false_and, not_true_eq_false, not_false_eq_true, List.map_cons, List.map_nil, List.cons_append, List.nil_append, List.append_nil, Option.bind_some, Option.bind_none, Int.reduceToNat, Int.reduceEq, Int.reduceBEq, Int.reduceBNe, Int.reduceLT, Int.reduceLE, Int.reduceNeg, Bool.true_and, Bool.and_true, Bool.false_and, Bool.and_false, Bool.not_true, Bool.not_false, Bool.not_not, Bool.true_beq, Bool.false_beq, Bool.bne_true, Bool.bne_false, Bool.true_bne, Bool.false_bne, Option.map_some, Option.map_none, beq_self_eq_true, bne_self_eq_false, Bool.false_eq_true, Bool.true_eq_false, Nat.zero_add, Nat.add_zero, forall_const, implies_true, true_implies, false_implies, Int.cast_ofNat_Int, Int.natCast_nonneg, Int.ofNat_lt, Int.toNat_natCast, mkC_rs, decide_true, decide_false, List.length_cons, List.length_nil, Prod.mk.injEq, Nat.reduceEqDiff, Option.some.injEq, arrOf_len, arrOf_size, arrOf_at, wr_lit, wr_litu, Int.reduceAdd, Int.reduceSub, Int.reduceMul, Int.reduceGE, Int.reduceGT, endO, Nat.sub_zero, ex_back, iS]
 refine ⟨fun _ => by decide, both (fun hno => ?_) (fun hyes => ?_)⟩
 ·have hk : placeB p = false := by
   simp only [placeB, b_decR, b_decL, bt_ite, bf_ite, bt_dec, bf_dec, bt_int, bf_int, bt_nint, bf_nint, bt_bool, bf_bool, bt_nbool, bf_nbool, bt_not, bf_not, bt_and, bf_and, bt_or, bf_or, Bool.false_eq_true, Bool.true_eq_false, Bool.not_eq_true, Bool.not_eq_false, reduceCtorEq, false_iff, true_iff, iff_false, iff_true, and_true, true_and, and_false, false_and, or_true, true_or, or_false, false_or, not_true_eq_false, not_false_eq_true, ne_eq] at hno ⊢
   by_cases h0 : 0 ≤ p
   ·rw [Int.tmod_eq_emod_of_nonneg h0] at hno; omega
   ·omega
  exact retV fun E => by simp [SV.den, den1, SC.den, keyF, errB, hk]
 ·have hk : placeB p = true := by
   simp only [placeB, b_decR, b_decL, bt_ite, bf_ite, bt_dec, bf_dec, bt_int, bf_int, bt_nint, bf_nint, bt_bool, bf_bool, bt_nbool, bf_nbool, bt_not, bf_not, bt_and, bf_and, bt_or, bf_or, Bool.false_eq_true, Bool.true_eq_false, Bool.not_eq_true, Bool.not_eq_false, reduceCtorEq, false_iff, true_iff, iff_false, iff_true, and_true, true_and, and_false, false_and, or_true, true_or, or_false, false_or, not_true_eq_false, not_false_eq_true, ne_eq] at hyes ⊢
   by_cases h0 : 0 ≤ p
   ·rw [Int.tmod_eq_emod_of_nonneg h0] at hyes; omega
   ·omega
  have hk2 := hk
  simp only [placeB, decide_eq_true_eq] at hk2
  obtain ⟨n, rfl⟩ := Int.eq_ofNat_of_zero_le hk2.1
  have hq : IntKind.i64.wrap ((n : Int).tdiv 2) = ((n / 2 : Nat) : Int) := by
   rw [IntWalk.i64_quo (n : Int) 2 ⟨by omega, by omega, by omega⟩]
   omega
  rw [hq]
  refine ⟨by decide, callV (iS (rv (n / 2) 30 : Nat)) _ (fun E => rfl) (fun E a w' _ => round_calls w' (n / 2) (by omega)) ?_⟩
  simp only [ex_nil, ex_skip, ex_ops, ex_draw, ex_seq, ex_cond, ex_blk, ex_loop, ex_exit, ex_ret, ex_mark, ex_kill, ex_pop, ex_onil, ex_op, ex_opg, ↓condS, ↓exitS, ↓gateS, ↓runOp, thenS, stepOut, St.ev, look, setL, mergeL, dropL, memB, atN, pkN, setN, Fm.get, Fm.pk, Fm.set, St.app, St.putT, St.skipT, St.setB, St.kill, St.call, St.setA, St.resS, specS, specO, specC, chain, chainP, inCh, resV, rsvP, resT, slot1, slotL, pureSlots, St.evW, resA1, resAP, resA, gB, specD, specDO, recG, pure1, pureO, SV.cells, SC.one, allOne, fillP, put, take', drop', len', nth, binI, eqCells, SC.bool?, SC.nil?, neg?, evs, evC, popTo, resL, resP, resSV, oneSV, finS, retS, dr_nil, dr_cons, ↓gateD, altC, ↓runD, thenD, recOf, skipR, wrOk, wrFree, wkImp, St.weak, thenW, recW, fimp_mpe, newOk, outOk, St.appN, St.hid, St.only, keepK, useO, idX, idC, tchs, keyss, Rec.tch, keysL, ltAll, enumT, slSrc, slB, slM, SV.int?, segs, keyOf, intsOf, Value.oneCell', ↓imp_ft, ↓imp_tf, ↓imp_tt, ↓imp_ff, ↓imp_fn, ↓imp_tn, ↓imp_fy, ↓imp_ty, ↓reduceIte, Nat.reduceLT, Nat.reduceLeDiff, Nat.reduceAdd, Nat.reduceSub, Nat.reduceMul, Nat.reduceEqDiff, reduceCtorEq, and_self, and_true, true_and, and_false, false_and, not_true_eq_false, not_false_eq_true, List.map_cons, List.map_nil, List.cons_append, List.nil_append, List.append_nil, Option.bind_some, Option.bind_none, Int.reduceToNat, Int.reduceEq, Int.reduceBEq, Int.reduceBNe, Int.reduceLT, Int.reduceLE, Int.reduceNeg, Bool.true_and, Bool.and_true, Bool.false_and, Bool.and_false, Bool.not_true, Bool.not_false, Bool.not_not, Bool.true_beq, Bool.false_beq, Bool.bne_true, Bool.bne_false, Bool.true_bne, Bool.false_bne, Option.map_some, Option.map_none, beq_self_eq_true, bne_self_eq_false, Bool.false_eq_true, Bool.true_eq_false, Nat.zero_add, Nat.add_zero, forall_const, implies_true, true_implies, false_implies, Int.cast_ofNat_Int, Int.natCast_nonneg, Int.ofNat_lt, Int.toNat_natCast, mkC_rs, decide_true, decide_false, List.length_cons, List.length_nil, Prod.mk.injEq, Nat.reduceEqDiff, Option.some.injEq, arrOf_len, arrOf_size, arrOf_at, wr_lit, wr_litu, Int.reduceAdd, Int.reduceSub, Int.reduceMul, Int.reduceGE, Int.reduceGT, endO, Nat.sub_zero, ex_back, iS]
  exact retV fun E => by simp [SV.den, den1, SC.den, keyF, errB, hk, show ((n : Int) / 2).toNat = n / 2 by omega]
set_option maxRecDepth 100000 in
set_option maxHeartbeats 400000 in
theorem isPlace_calls (w : World) (p : Int) : Calls Try.prog 14 #[.int .i64 p] w (RetV w (.bool (placeB p))) := by
 refine enter0 (A := []) (c := ir14) (rs := rs14) (nt := nt14) [iS p] _ Try.func14 rfl (by kernel_rfl) (by kernel_rfl) rfl (fun E' => by simp [iS, SV.den, SC.den]) (of_decide_eq_true rfl) ?_
 simp only [ir14, nt14, rs14, ex_nil, ex_skip, ex_ops, ex_draw, ex_seq, ex_cond, ex_blk, ex_loop, ex_exit, ex_ret, ex_mark, ex_kill, ex_pop, ex_onil, ex_op, ex_opg, ↓condS, ↓exitS, ↓gateS, ↓runOp, thenS, stepOut, St.ev, look, setL, mergeL, dropL, memB, atN, pkN, setN, Fm.get, Fm.pk, Fm.set, St.app, St.putT, St.skipT, St.setB, St.kill, St.call, St.setA, St.resS, specS, specO, specC, chain, chainP, inCh, resV, rsvP, resT, slot1, slotL, pureSlots, St.evW, resA1, resAP, resA, gB, specD, specDO, recG, pure1, pureO, SV.cells, SC.one, allOne, fillP, put, take', drop', len', nth, binI, eqCells, SC.bool?, SC.nil?, neg?, evs, evC, popTo, resL, resP, resSV, oneSV, finS, retS, dr_nil, dr_cons, ↓gateD, altC, ↓runD, thenD, recOf, skipR, wrOk, wrFree, wkImp, St.weak, thenW, recW, fimp_mpe, newOk, outOk, St.appN, St.hid, St.only, keepK, useO, idX, idC, tchs, keyss, Rec.tch, keysL, ltAll, enumT, slSrc, slB, slM, SV.int?, segs, keyOf, intsOf, Value.oneCell', ↓imp_ft, ↓imp_tf, ↓imp_tt, ↓imp_ff, ↓imp_fn, ↓imp_tn, ↓imp_fy, ↓imp_ty, ↓reduceIte, Nat.reduceLT, Nat.reduceLeDiff, Nat.reduceAdd, Nat.reduceSub, Nat.reduceMul, Nat.reduceEqDiff, reduceCtorEq, and_self, and_true, true_and, and_false, false_and, not_true_eq_false, not_false_eq_true, List.map_cons, List.map_nil, List.cons_append, List.nil_append, List.append_nil, Option.bind_some, Option.bind_none, Int.reduceToNat, Int.reduceEq, Int.reduceBEq, Int.reduceBNe, Int.reduceLT, Int.reduceLE, Int.reduceNeg, Bool.true_and, Bool.and_true, Bool.false_and, Bool.and_false, Bool.not_true, Bool.not_false, Bool.not_not, Bool.true_beq, Bool.false_beq, Bool.bne_true, Bool.bne_false, Bool.true_bne, Bool.false_bne, Option.map_some, Option.map_none, beq_self_eq_true, bne_self_eq_false, Bool.false_eq_true, Bool.true_eq_false, Nat.zero_add, Nat.add_zero, forall_const, implies_true, true_implies, false_implies, Int.cast_ofNat_Int, Int.natCast_nonneg, Int.ofNat_lt, Int.toNat_natCast, mkC_rs, decide_true, decide_false, List.length_cons, List.length_nil, Prod.mk.injEq, Nat.reduceEqDiff, Option.some.injEq, arrOf_len, arrOf_size, arrOf_at, wr_lit, wr_litu, Int.reduceAdd, Int.reduceSub, Int.reduceMul, Int.reduceGE, Int.reduceGT, endO, Nat.sub_zero, ex_back, iS]
 refine ⟨fun _ => by decide, retV fun E => ?_⟩
 simp only [den_c, den_v, den_b, Value.bool.injEq, placeB]
 simp only [b_decR, b_decL, bt_ite, bf_ite, bt_dec, bf_dec, bt_int, bf_int, bt_nint, bf_nint, bt_bool, bf_bool, bt_nbool, bf_nbool, bt_not, bf_not, bt_and, bf_and, bt_or, bf_or, Bool.false_eq_true, Bool.true_eq_false, Bool.not_eq_true, Bool.not_eq_false, reduceCtorEq, false_iff, true_iff, iff_false, iff_true, and_true, true_and, and_false, false_and, or_true, true_or, or_false, false_or, not_true_eq_false, not_false_eq_true, ne_eq] at *
 by_cases h0 : 0 ≤ p
 ·rw [Int.tmod_eq_emod_of_nonneg h0]; omega
 ·omega
set_option maxRecDepth 100000 in
set_option maxHeartbeats 400000 in
theorem rkey_calls (w : World) (p : Int) (hk : placeB p = true) : Calls Try.prog 16 #[.int .i64 p] w (RetV w (.int .i64 (keyF p))) := by
 refine enter0 (A := []) (c := ir16) (rs := rs16) (nt := nt16) [iS p] _ Try.func16 rfl (by kernel_rfl) (by kernel_rfl) rfl (fun E' => by simp [iS, SV.den, SC.den]) (of_decide_eq_true rfl) ?_
 simp only [ir16, nt16, rs16, ex_nil, ex_skip, ex_ops, ex_draw, ex_seq, ex_cond, ex_blk, ex_loop, ex_exit, ex_ret, ex_mark, ex_kill, ex_pop, ex_onil, ex_op, ex_opg, ↓condS, ↓exitS, ↓gateS, ↓runOp, thenS, stepOut, St.ev, look, setL, mergeL, dropL, memB, atN, pkN, setN, Fm.get, Fm.pk, Fm.set, St.app, St.putT, St.skipT, St.setB, St.kill, St.call, St.setA, St.resS, specS, specO, specC, chain, chainP, inCh, resV, rsvP, resT, slot1, slotL, pureSlots, St.evW, resA1, resAP, resA, gB, specD, specDO, recG, pure1, pureO, SV.cells, SC.one, allOne, fillP, put, take', drop', len', nth, binI, eqCells, SC.bool?, SC.nil?, neg?, evs, evC, popTo, resL, resP, resSV, oneSV, finS, retS, dr_nil, dr_cons, ↓gateD, altC, ↓runD, thenD, recOf, skipR, wrOk, wrFree, wkImp, St.weak, thenW, recW, fimp_mpe, newOk, outOk, St.appN, St.hid, St.only, keepK, useO, idX, idC, tchs, keyss, Rec.tch, keysL, ltAll, enumT, slSrc, slB, slM, SV.int?, segs, keyOf, intsOf, Value.oneCell', ↓imp_ft, ↓imp_tf, ↓imp_tt, ↓imp_ff, ↓imp_fn, ↓imp_tn, ↓imp_fy, ↓imp_ty, ↓reduceIte, Nat.reduceLT, Nat.reduceLeDiff, Nat.reduceAdd, Nat.reduceSub, Nat.reduceMul, Nat.reduceEqDiff, reduceCtorEq, and_self, and_true, true_and, and_false, false_and, not_true_eq_false, not_false_eq_true, List.map_cons, List.map_nil, List.cons_append, List.nil_append, List.append_nil, Option.bind_some, Option.bind_none, Int.reduceToNat, Int.reduceEq, Int.reduceBEq, Int.reduceBNe, Int.reduceLT, Int.reduceLE, Int.reduceNeg, Bool.true_and, Bool.and_true, Bool.false_and, Bool.and_false, Bool.not_true, Bool.not_false, Bool.not_not, Bool.true_beq, Bool.false_beq, Bool.bne_true, Bool.bne_false, Bool.true_bne, Bool.false_bne, Option.map_some, Option.map_none, beq_self_eq_true, bne_self_eq_false, Bool.false_eq_true, Bool.true_eq_false, Nat.zero_add, Nat.add_zero, forall_const, implies_true, true_implies, false_implies, Int.cast_ofNat_Int, Int.natCast_nonneg, Int.ofNat_lt, Int.toNat_natCast, mkC_rs, decide_true, decide_false, List.length_cons, List.length_nil, Prod.mk.injEq, Nat.reduceEqDiff, Option.some.injEq, arrOf_len, arrOf_size, arrOf_at, wr_lit, wr_litu, Int.reduceAdd, Int.reduceSub, Int.reduceMul, Int.reduceGE, Int.reduceGT, endO, Nat.sub_zero, ex_back, iS]
 have hk2 := hk
 simp only [placeB, decide_eq_true_eq] at hk2
 obtain ⟨n, rfl⟩ := Int.eq_ofNat_of_zero_le hk2.1
 have hq : IntKind.i64.wrap ((n : Int).tdiv 2) = ((n / 2 : Nat) : Int) := by
  rw [IntWalk.i64_quo (n : Int) 2 ⟨by omega, by omega, by omega⟩]
  omega
 rw [hq]
 refine ⟨by decide, callV (iS (rv (n / 2) 30 : Nat)) _ (fun E => rfl) (fun E a w' _ => rround_calls w' (n / 2) (by omega)) ?_⟩
 simp only [ex_nil, ex_skip, ex_ops, ex_draw, ex_seq, ex_cond, ex_blk, ex_loop, ex_exit, ex_ret, ex_mark, ex_kill, ex_pop, ex_onil, ex_op, ex_opg, ↓condS, ↓exitS, ↓gateS, ↓runOp, thenS, stepOut, St.ev, look, setL, mergeL, dropL, memB, atN, pkN, setN, Fm.get, Fm.pk, Fm.set, St.app, St.putT, St.skipT, St.setB, St.kill, St.call, St.setA, St.resS, specS, specO, specC, chain, chainP, inCh, resV, rsvP, resT, slot1, slotL, pureSlots, St.evW, resA1, resAP, resA, gB, specD, specDO, recG, pure1, pureO, SV.cells, SC.one, allOne, fillP, put, take', drop', len', nth, binI, eqCells, SC.bool?, SC.nil?, neg?, evs, evC, popTo, resL, resP, resSV, oneSV, finS, retS, dr_nil, dr_cons, ↓gateD, altC, ↓runD, thenD, recOf, skipR, wrOk, wrFree, wkImp, St.weak, thenW, recW, fimp_mpe, newOk, outOk, St.appN, St.hid, St.only, keepK, useO, idX, idC, tchs, keyss, Rec.tch, keysL, ltAll, enumT, slSrc, slB, slM, SV.int?, segs, keyOf, intsOf, Value.oneCell', ↓imp_ft, ↓imp_tf, ↓imp_tt, ↓imp_ff, ↓imp_fn, ↓imp_tn, ↓imp_fy, ↓imp_ty, ↓reduceIte, Nat.reduceLT, Nat.reduceLeDiff, Nat.reduceAdd, Nat.reduceSub, Nat.reduceMul, Nat.reduceEqDiff, reduceCtorEq, and_self, and_true, true_and, and_false, false_and, not_true_eq_false, not_false_eq_true, List.map_cons, List.map_nil, List.cons_append, List.nil_append, List.append_nil, Option.bind_some, Option.bind_none, Int.reduceToNat, Int.reduceEq, Int.reduceBEq, Int.reduceBNe, Int.reduceLT, Int.reduceLE, Int.reduceNeg, Bool.true_and, Bool.and_true, Bool.false_and, Bool.and_false, Bool.not_true, Bool.not_false, Bool.not_not, Bool.true_beq, Bool.false_beq, Bool.bne_true, Bool.bne_false, Bool.true_bne, Bool.false_bne, Option.map_some, Option.map_none, beq_self_eq_true, bne_self_eq_false, Bool.false_eq_true, Bool.true_eq_false, Nat.zero_add, Nat.add_zero, forall_const, implies_true, true_implies, false_implies, Int.cast_ofNat_Int, Int.natCast_nonneg, Int.ofNat_lt, Int.toNat_natCast, mkC_rs, decide_true, decide_false, List.length_cons, List.length_nil, Prod.mk.injEq, Nat.reduceEqDiff, Option.some.injEq, arrOf_len, arrOf_size, arrOf_at, wr_lit, wr_litu, Int.reduceAdd, Int.reduceSub, Int.reduceMul, Int.reduceGE, Int.reduceGT, endO, Nat.sub_zero, ex_back, iS]
 exact retV fun E => by simp [SV.den, den1, SC.den, keyF, hk, show ((n : Int) / 2).toNat = n / 2 by omega]
set_option maxRecDepth 100000 in
set_option maxHeartbeats 400000 in
theorem num23_calls (w : World) (n : Int) : Calls Try.prog 13 #[.int .i64 n] w (RetV w (.int .i64 n)) := by
 refine enter0 (A := []) (c := ir13) (rs := rs13) (nt := nt13) [iS n] _ Try.func13 rfl (by kernel_rfl) (by kernel_rfl) rfl (fun E' => by simp [iS, SV.den, SC.den]) (of_decide_eq_true rfl) ?_
 simp only [ir13, nt13, rs13, ex_nil, ex_skip, ex_ops, ex_draw, ex_seq, ex_cond, ex_blk, ex_loop, ex_exit, ex_ret, ex_mark, ex_kill, ex_pop, ex_onil, ex_op, ex_opg, ↓condS, ↓exitS, ↓gateS, ↓runOp, thenS, stepOut, St.ev, look, setL, mergeL, dropL, memB, atN, pkN, setN, Fm.get, Fm.pk, Fm.set, St.app, St.putT, St.skipT, St.setB, St.kill, St.call, St.setA, St.resS, specS, specO, specC, chain, chainP, inCh, resV, rsvP, resT, slot1, slotL, pureSlots, St.evW, resA1, resAP, resA, gB, specD, specDO, recG, pure1, pureO, SV.cells, SC.one, allOne, fillP, put, take', drop', len', nth, binI, eqCells, SC.bool?, SC.nil?, neg?, evs, evC, popTo, resL, resP, resSV, oneSV, finS, retS, dr_nil, dr_cons, ↓gateD, altC, ↓runD, thenD, recOf, skipR, wrOk, wrFree, wkImp, St.weak, thenW, recW, fimp_mpe, newOk, outOk, St.appN, St.hid, St.only, keepK, useO, idX, idC, tchs, keyss, Rec.tch, keysL, ltAll, enumT, slSrc, slB, slM, SV.int?, segs, keyOf, intsOf, Value.oneCell', ↓imp_ft, ↓imp_tf, ↓imp_tt, ↓imp_ff, ↓imp_fn, ↓imp_tn, ↓imp_fy, ↓imp_ty, ↓reduceIte, Nat.reduceLT, Nat.reduceLeDiff, Nat.reduceAdd, Nat.reduceSub, Nat.reduceMul, Nat.reduceEqDiff, reduceCtorEq, and_self, and_true, true_and, and_false, false_and, not_true_eq_false, not_false_eq_true, List.map_cons, List.map_nil, List.cons_append, List.nil_append, List.append_nil, Option.bind_some, Option.bind_none, Int.reduceToNat, Int.reduceEq, Int.reduceBEq, Int.reduceBNe, Int.reduceLT, Int.reduceLE, Int.reduceNeg, Bool.true_and, Bool.and_true, Bool.false_and, Bool.and_false, Bool.not_true, Bool.not_false, Bool.not_not, Bool.true_beq, Bool.false_beq, Bool.bne_true, Bool.bne_false, Bool.true_bne, Bool.false_bne, Option.map_some, Option.map_none, beq_self_eq_true, bne_self_eq_false, Bool.false_eq_true, Bool.true_eq_false, Nat.zero_add, Nat.add_zero, forall_const, implies_true, true_implies, false_implies, Int.cast_ofNat_Int, Int.natCast_nonneg, Int.ofNat_lt, Int.toNat_natCast, mkC_rs, decide_true, decide_false, List.length_cons, List.length_nil, Prod.mk.injEq, Nat.reduceEqDiff, Option.some.injEq, arrOf_len, arrOf_size, arrOf_at, wr_lit, wr_litu, Int.reduceAdd, Int.reduceSub, Int.reduceMul, Int.reduceGE, Int.reduceGT, endO, Nat.sub_zero, ex_back, iS]
 exact retV fun E => by rw [den_c, den_v]
end Go.Proofs.Ytpjdcbofngcdbaa.Z
