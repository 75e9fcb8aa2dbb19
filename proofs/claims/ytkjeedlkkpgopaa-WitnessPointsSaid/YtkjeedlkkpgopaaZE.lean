
/- What one operation does to a state is what the model's run of it does: append, copy, new slices. No statement of the program. -/
import Derived.Test.YtkjeedlkkpgopaaZD
import Derived.Deep.DeepAppendWide
namespace Go.Proofs.Ytkjeedlkkpgopaa.Z
open Go Go.RowKit
set_option linter.unusedSimpArgs false

/-- a value is a slice whose elements are so -/
def RdAt (E : Env) (w : World) (v : Value) (s m : Nat) (g : Nat → List SC) : Prop :=
  ∃ ba cap, v = .slice ba m cap ∧ (m = 0 ∨ ∃ b off, ba = some ⟨b, off, none⟩ ∧ ∀ e, e < m → (g e).length = s ∧ ∀ j u, (g e)[j]? = some u → w.cell? ⟨b, off + e * s + j, none⟩ = some (u.den E) ∧ (u.den E).oneCell' = true)

def cellsOf (E : Env) (m : Nat) (g : Nat → List SC) : List Value := (List.range m).flatMap fun e => (g e).map (SC.den E)

theorem cellsOf_succ (E : Env) (m : Nat) (g : Nat → List SC) : cellsOf E (m + 1) g = cellsOf E m g ++ (g m).map (SC.den E) := by
  simp [cellsOf, List.range_succ]
theorem cellsOf_len {E : Env} {s : Nat} {g : Nat → List SC} : ∀ {m : Nat}, (∀ e, e < m → (g e).length = s) → (cellsOf E m g).length = m * s
  | 0, _ => by simp [cellsOf]
  | m + 1, h => by
    rw [cellsOf_succ, List.length_append, cellsOf_len (fun e he => h e (by omega)), List.length_map, h m (by omega), Nat.add_mul, Nat.one_mul]
theorem cellsOf_get {E : Env} {s : Nat} {g : Nat → List SC} : ∀ {m : Nat}, (∀ e, e < m → (g e).length = s) → ∀ e j, e < m → j < s → (cellsOf E m g)[e * s + j]? = ((g e)[j]?).map (SC.den E)
  | 0, _, e, j, he, _ => by omega
  | m + 1, h, e, j, he, hj => by
    have hl : (cellsOf E m g).length = m * s := cellsOf_len (fun e he => h e (by omega))
    rw [cellsOf_succ]
    by_cases h1 : e < m
    · have : (e + 1) * s ≤ m * s := Nat.mul_le_mul_right _ h1
      rw [Nat.add_mul, Nat.one_mul] at this
      rw [List.getElem?_append_left (by omega)]
      exact cellsOf_get (fun e he => h e (by omega)) e j h1 hj
    · have e1 : e = m := by omega
      subst e1
      rw [List.getElem?_append_right (by omega), hl, List.getElem?_map]
      congr 2
      omega
theorem cellsOf_inv {E : Env} {s : Nat} {g : Nat → List SC} {m i : Nat} {u : Value} (h : ∀ e, e < m → (g e).length = s) (hu : (cellsOf E m g)[i]? = some u) :
    ∃ e j c, e < m ∧ j < s ∧ i = e * s + j ∧ (g e)[j]? = some c ∧ u = c.den E := by
  have hi : i < m * s := by rw [← cellsOf_len (E := E) h]; exact (List.getElem?_eq_some_iff.1 hu).1
  have h0 : 0 < s := by
    rcases Nat.eq_zero_or_pos s with h0 | h0
    · subst h0; rw [Nat.mul_zero] at hi; omega
    · exact h0
  have hk : i / s < m := Nat.div_lt_of_lt_mul (by rw [Nat.mul_comm]; exact hi)
  have hm : i % s < s := Nat.mod_lt _ h0
  have e1 : i / s * s + i % s = i := by rw [Nat.mul_comm]; exact Nat.div_add_mod i s
  have hx := cellsOf_get (E := E) h (i / s) (i % s) hk hm
  rw [e1, hu] at hx
  cases hc : (g (i / s))[i % s]? with
  | none => rw [hc] at hx; cases hx
  | some c =>
    rw [hc] at hx
    exact ⟨_, _, c, hk, hm, e1.symm, hc, by simpa using hx⟩

section
variable {P : Program} {T : TT} {B : Nat} {W : Nat → Prop} {w0 : World} {E : Env} {S : St} {a : Act} {w : World}

theorem RdAt.lens {v : Value} {s m : Nat} {g : Nat → List SC} (h : RdAt E w v s m g) : ∀ e, e < m → (g e).length = s := by
  obtain ⟨_, _, _, h | ⟨_, _, _, h⟩⟩ := h
  · intro e he; omega
  · exact fun e he => (h e he).1
theorem RdAt.first {v : Value} {s m : Nat} {g : Nat → List SC} (h : RdAt E w v s m g) (w' : World) (hw : w'.heap = w.heap) : (Builtin.firstCells s m v).run P w' = .ok (cellsOf E m g).toArray w' ∧ (cellsOf E m g).length = m * s ∧ ∀ u ∈ cellsOf E m g, u.oneCell' = true := by
  have hl := h.lens
  obtain ⟨ba, cap, rfl, h⟩ := h
  have hcell : ∀ p, w'.cell? p = w.cell? p := fun p => by unfold World.cell?; rw [hw]
  rcases h with h | ⟨b, off, rfl, h⟩
  · subst h
    refine ⟨?_, by simp [cellsOf], fun u hu => by simp [cellsOf] at hu⟩
    cases ba with
    | none => exact run_firstCells_none w' s 0 0 cap
    | some b => exact run_firstCells_some w' s 0 b 0 cap [] (by simp) (by simp)
  · refine ⟨run_firstCells_some w' s m ⟨b, off, none⟩ m cap _ (cellsOf_len hl) (fun i u hu => ?_), cellsOf_len hl, fun u hu => ?_⟩
    · obtain ⟨e, j, c, he, hj, rfl, hc, rfl⟩ := cellsOf_inv hl hu
      rw [addr_add0, hcell, show off + (e * s + j) = off + e * s + j by omega]
      exact ((h e he).2 j c hc).1
    · obtain ⟨i, hi⟩ := List.mem_iff_getElem?.1 hu
      obtain ⟨e, j, c, he, hj, rfl, hc, rfl⟩ := cellsOf_inv hl hi
      exact ((h e he).2 j c hc).2
theorem RdAt.src {v : Value} {s m : Nat} {g : Nat → List SC} {tx e' : TypeId} (hk : P.underlying tx = some (.slice e')) (h : RdAt E w v s m g) : Src P s tx v m (cellsOf E m g) w := by
  obtain ⟨h1, h2, h3⟩ := h.first (P := P) w rfl
  obtain ⟨h4, _, _⟩ := h.first (P := P) w.drew rfl
  refine ⟨.inl ⟨e', hk⟩, fun w' => ?_, h1, h4, h2, h3⟩
  obtain ⟨ba, cap, rfl, _⟩ := h
  rfl

/-- what may be read as a slice -/
theorem slSrc_ok {s m : Nat} {v : SV} {q : Prop} {g : Nat → List SC} (h : slSrc S s v = some (q, m, g)) (hq : q) (hs : Sat B W w0 E S a w) : RdAt E w (v.den E) s m g := by
  unfold slSrc at h
  split at h
  · simp only [Option.some.injEq, Prod.mk.injEq] at h
    obtain ⟨_, rfl, rfl⟩ := h
    exact ⟨none, 0, by rw [den_c, den_v], Or.inl rfl⟩
  · next x s' o n c =>
    split at h
    · next p m' s'' at_ ty hlook =>
      simp only [Option.some.injEq, Prod.mk.injEq] at h
      obtain ⟨rfl, rfl, rfl⟩ := h
      obtain ⟨hp, rfl, rfl, hon⟩ := hq
      obtain ⟨H, hH, _⟩ := hs.mem
      have hat := pkN_at hlook hp
      refine ⟨_, _, by rw [den_c, den_sl], ?_⟩
      rcases Nat.eq_zero_or_pos n with h0 | h0
      · exact Or.inl h0
      · right
        obtain ⟨hν, _, _⟩ := ar_cell hH hat (show o < m' by omega)
        refine ⟨E.ρ x, o * s'', by rw [hν]; rfl, fun e he => ?_⟩
        obtain ⟨_, h1, h2⟩ := ar_cell hH hat (show o + e < m' by omega)
        refine ⟨h1, fun j u hu => ?_⟩
        rw [← Nat.add_mul]
        exact h2 j u hu
    · cases h
  · next x =>
    split at h
    · next p A hlook =>
      simp only [Option.some.injEq, Prod.mk.injEq] at h
      obtain ⟨rfl, rfl, rfl⟩ := h
      obtain ⟨hp, rfl⟩ := hq
      obtain ⟨ba, cap, hχ, hl, hm, hcell⟩ := hs.arr (pkN_at hlook hp)
      rw [den_c, den_xv]
      exact ⟨ba, cap, hχ, hcell.imp id fun ⟨b, off, h1, _, h2⟩ => ⟨b, off, h1, h2⟩⟩
    · cases h
  · next x s' o n c =>
    split at h
    · next p A hlook =>
      simp only [Option.some.injEq, Prod.mk.injEq] at h
      obtain ⟨rfl, rfl, rfl⟩ := h
      obtain ⟨hp, rfl, hsz, hon⟩ := hq
      obtain ⟨ba, cap, hχ, hl, hm, hcell⟩ := hs.arr (pkN_at hlook hp)
      rw [den_c]
      simp only [SC.den, hχ]
      rcases Nat.eq_zero_or_pos n with h0 | h0
      · cases ba with
        | none => exact ⟨_, _, rfl, Or.inl h0⟩
        | some b => exact ⟨_, _, rfl, Or.inl h0⟩
      · rcases hcell with h1 | ⟨b, off, rfl, _, hcell⟩
        · omega
        refine ⟨_, _, rfl, Or.inr ⟨b, off + o * s', by rw [addr_add0], fun e he => ?_⟩⟩
        obtain ⟨h1, h2⟩ := hcell (o + e) (by omega)
        refine ⟨h1.trans hsz, fun j u hu => ?_⟩
        have := h2 j u hu
        rw [hsz, Nat.add_mul] at this
        rw [show off + o * s' + e * s' + j = off + (o * s' + e * s') + j by omega]
        exact this
    · cases h
  · cases h

/-! ### append -/
theorem cellsOf_congr {f g : Nat → List SC} : ∀ {n : Nat}, (∀ e, e < n → f e = g e) → cellsOf E n f = cellsOf E n g
  | 0, _ => by simp [cellsOf]
  | n + 1, h => by rw [cellsOf_succ, cellsOf_succ, cellsOf_congr (fun e he => h e (by omega)), h n (by omega)]
theorem appAt_len {s n m : Nat} {f g : Nat → List SC} (hf : ∀ e, e < n → (f e).length = s) (hg : ∀ e, e < m → (g e).length = s) : ∀ e, e < n + m → (appAt n f g e).length = s := by
  intro e he
  unfold appAt
  split
  · next h => exact hf e h
  · exact hg _ (by omega)
theorem cellsOf_app {n m : Nat} {f g : Nat → List SC} : cellsOf E (n + m) (appAt n f g) = cellsOf E n f ++ cellsOf E m g := by
  induction m with
  | zero =>
    rw [Nat.add_zero, show cellsOf E 0 g = [] by simp [cellsOf], List.append_nil]
    exact cellsOf_congr fun e he => by simp [appAt, he]
  | succ m ih =>
    rw [← Nat.add_assoc, cellsOf_succ, ih, cellsOf_succ, List.append_assoc]
    have : appAt n f g (n + m) = g m := by
      unfold appAt
      rw [if_neg (by omega)]
      congr 1
      omega
    rw [this]
theorem RdAt.one {v : Value} {s m : Nat} {g : Nat → List SC} (h : RdAt E w v s m g) : ∀ e, e < m → ∀ (j : Nat) (u : SC), (g e)[j]? = some u → (u.den E).oneCell' = true := by
  obtain ⟨_, _, _, h | ⟨_, _, _, h⟩⟩ := h
  · intro e he; omega
  · exact fun e he j u hu => ((h e he).2 j u hu).2

/-- the cells of an array hold what it is told to -/
def ArCells (E : Env) (n s : Nat) (at_ : Nat → List SC) (cells : Array Value) : Prop := ∀ e, e < n → (at_ e).length = s ∧ ∀ j u, (at_ e)[j]? = some u → cells[e * s + j]? = some (u.den E) ∧ (u.den E).oneCell' = true
theorem arCells_of {s n : Nat} {f : Nat → List SC} {cells : Array Value} (hl : ∀ e, e < n → (f e).length = s) (h1 : ∀ e, e < n → ∀ (j : Nat) (u : SC), (f e)[j]? = some u → (u.den E).oneCell' = true) (hc : ∀ (i : Nat) (u : Value), (cellsOf E n f)[i]? = some u → cells[i]? = some u) : ArCells E n s f cells := by
  intro e he
  refine ⟨hl e he, fun j u hu => ⟨?_, h1 e he j u hu⟩⟩
  have hj : j < s := by rw [← hl e he]; exact (List.getElem?_eq_some_iff.1 hu).1
  refine hc _ _ ?_
  rw [cellsOf_get hl e j he hj, hu]
  rfl

theorem app_grow {t u ty e : TypeId} {i : TypeInfo} {z : Value} (ht : P.underlying t = some (.slice e)) {e' : TypeId} (hu : P.underlying u = some (.slice e')) (hi : P.info? e = some i) (hz : i.zero = some z)
    {ba : Option Addr} {n cap m : Nat} {xv : Value} {f g : Nat → List SC} (hs : RdAt E w (.slice ba n cap) i.size n f) (hx : RdAt E w xv i.size m g) (hg : cap < n + m) (hb : (n + m + (n + m) / 4 + 192) * i.bytes ≤ 281474976710656 ∨ (cap = 0 ∧ (n + m) * i.bytes ≤ 281474976710656)) (hm : n + m ≤ maxLen) :
    ∃ cells, (Builtin.append_ #[t, u] ty #[.slice ba n cap, xv]).run P w = .ok (.slice (some ⟨w.heap.size, 0, none⟩) (n + m) (grownCap w (n + m) cap e)) (w.drew.alloc (.cells cells e)) ∧
      (z.cells.size = i.size → cells.size = grownCap w (n + m) cap e * i.size) ∧ ArCells E (n + m) i.size (appAt n f g) cells := by
  have hfit : Builtin.nextslicecap (n + m) cap * i.bytes ≤ 281474976710656 := by
    rcases hb with hb | ⟨rfl, hb⟩
    · exact growslice_fits_wide hg hb
    · rw [nextslicecap_zero hg]; exact hb
  have h63 : ((n + m : Nat) : Int) ≤ 9223372036854775807 := by unfold maxLen at hm; omega
  obtain ⟨ho, hlo, _⟩ := hs.first (P := P) w.drew rfl
  have hr := run_append_grow_src (P := P) w t u ty e i z ht hi hz ba n cap (cellsOf E n f) ho xv m (cellsOf E m g) (hx.src hu) hg h63 hfit
  refine ⟨_, hr, fun hzs => ?_, ?_⟩
  · have hge := grownCap_ge w (n + m) cap e
    simp only [Array.size_append, List.size_toArray, List.length_append, size_zeroCells, hzs, cellsOf_len hs.lens, cellsOf_len hx.lens, ← Nat.add_mul]
    congr 1
    omega
  · refine arCells_of (appAt_len hs.lens hx.lens) (fun k hk j c hc => ?_) (fun k c hc => ?_)
    · unfold appAt at hc
      split at hc
      · next h => exact hs.one k h j c hc
      · exact hx.one _ (by omega) j c hc
    · rw [cellsOf_app] at hc
      have hlt := (List.getElem?_eq_some_iff.1 hc).1
      rw [Array.getElem?_append_left (by simpa using hlt)]
      simpa using hc

/-- there is room -/
theorem app_room {t u ty e : TypeId} {i : TypeInfo} (ht : P.underlying t = some (.slice e)) {e' : TypeId} (hu : P.underlying u = some (.slice e')) (hi : P.info? e = some i)
    {b n cap m tb : Nat} {xv : Value} {g : Nat → List SC} {cells : Array Value} (hb : w.heap[b]? = some (.cells cells tb (0, 0))) (hcap : cells.size = cap * i.size) (hx : RdAt E w xv i.size m g) (hroom : n + m ≤ cap) :
    (Builtin.append_ #[t, u] ty #[.slice (some ⟨b, 0, none⟩) n cap, xv]).run P w = .ok (.slice (some ⟨b, 0, none⟩) (n + m) cap) (w.setRow b (cells.toList.take (n * i.size) ++ cellsOf E m g ++ cells.toList.drop (n * i.size + (cellsOf E m g).length)).toArray) := by
  obtain ⟨_, hl, h1⟩ := hx.first (P := P) w rfl
  have hsrc := hx.src (P := P) hu
  have hle : (n + m) * i.size ≤ cap * i.size := Nat.mul_le_mul_right _ hroom
  rw [Nat.add_mul] at hle
  have hst := run_storeCells_at P b (n * i.size) tb (cellsOf E m g) 0 cells w hb (by rw [hl]; omega) h1
  simp only [Nat.add_zero] at hst
  rcases hsrc.kind with ⟨e'', hk⟩ | hk
  · simp [Builtin.append_, run_underlying ht, run_underlying hk, sizeOf, typeInfo, hi, hsrc.len, hroom, hsrc.cells, Addr.add_lit, hst]
  · rw [hu] at hk; cases hk
end
end Go.Proofs.Ytkjeedlkkpgopaa.Z
