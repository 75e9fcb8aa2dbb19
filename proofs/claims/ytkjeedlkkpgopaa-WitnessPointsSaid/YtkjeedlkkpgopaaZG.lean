
/- What one operation does to a state is what the model's run of it does: new slices, copy, slicing, as steps. No statement of the program. -/
import Derived.Test.YtkjeedlkkpgopaaZF
namespace Go.Proofs.Ytkjeedlkkpgopaa.Z
open Go Go.RowKit
set_option linter.unusedSimpArgs false
set_option linter.unusedVariables false

section
variable {P : Program} {T : TT} {B : Nat} {W : Nat → Prop} {w0 : World} {E : Env} {S : St} {a : Act} {w : World}

theorem allOne_den {l : List SC} (h : allOne l = true) (hx : OneC E) : ∀ (j : Nat) (u : SC), l[j]? = some u → (u.den E).oneCell' = true := fun j u hu => one_den hx (allOne_mem h u (List.mem_of_getElem? hu))

/-- a new slice -/
theorem mks_ok {t e : Nat} {l c : Operand} {il ic : IX} {ti te : TI} (hT : TOk P T) (ht : look T t = some ti) (htd : ti.desc = .slice e) (he : look T e = some te)
    (hl1 : opd l = some il) (hc1 : opd c = some ic) {vc : Prop} {out : Out} (h : (stepOut (.mks e te.size te.bytes (scs te.zero.cells) il ic) S).Sel vc out) (hvc : vc) (hs : Sat B W w0 E S a w) :
    ∃ v w', RunsTo ((do pure (Next.value (← Instr.makeSlice t (a.eval l) (a.eval c))) : Sem Next).run P w) v w' ∧ After B W w0 E [] S a w out.val out.cnt out.eff out.arrs v w' := by
  obtain ⟨hut, _⟩ := ti_parts hT ht
  obtain ⟨_, i, hi, hz, hsz, hby⟩ := ti_parts hT he
  rw [htd] at hut
  simp only [stepOut] at h
  split at h
  · next k1 n k2 m hln hcm =>
    obtain ⟨rfl, rfl⟩ := h
    obtain ⟨h0, hnm, hb, hm, hzc, hpos, h1⟩ := hvc
    have hzl : te.zero.cells.size = te.size := by rw [len'_eq] at hzc; simpa [scs] using hzc
    have hr := run_make (P := P) w t e i te.zero hut hi hz k1 k2 n m h0 hnm (by rw [hby, Int.mul_comm]; omega) (by unfold maxLen at hm; omega)
    rw [opd_den hs hl1 hln, opd_den hs hc1 hcm, den_c, den_c, den_v, den_v]
    have hmm : m.toNat ≤ maxLen := by omega
    refine det_after (one1 w.heap.size m.toNat false) (one1_one _ _ _) ⟨_, _, Or.inl (run_val hr)⟩ fun E2 hs2 hag => ?_
    have hE := one1_at hag
    refine ⟨w.alloc (.cells (madeCells te.zero.cells (m.toNat * i.size)) e), Or.inl ?_, fits_alloc (o := .cells (madeCells te.zero.cells (m.toNat * i.size)) e) (ar_den hE (Nat.le_refl _) hmm ?_ ?_) _ (Or.inl rfl)⟩
    · rw [run_val hr, den_c, den_sl, hE.1, hE.2.1, hE.2.2]; simp
    · rw [← hsz]; exact size_madeCells _ _
    · intro r hr
      rw [len'_eq] at hzc
      refine ⟨hzc, fun j u hu => ⟨?_, allOne_den h1 hs2.one j u hu⟩⟩
      have hj : j < te.size := by rw [← hzc]; exact (List.getElem?_eq_some_iff.1 hu).1
      have hlt : r * te.size + j < m.toNat * i.size := by
        rw [hsz]
        have : (r + 1) * te.size ≤ m.toNat * te.size := Nat.mul_le_mul_right _ hr
        rw [Nat.add_mul, Nat.one_mul] at this
        omega
      have hmod : (r * te.size + j) % te.zero.cells.size = j := by rw [hzl, Nat.mul_comm, Nat.mul_add_mod, Nat.mod_eq_of_lt hj]
      have hu' : te.zero.cells[j]? = some (u.den E2) := by
        simp only [scs, List.getElem?_map, Array.getElem?_toList, Option.map_eq_some_iff] at hu
        obtain ⟨x, hx, rfl⟩ := hu
        rw [den_v]; exact hx
      simp only [madeCells]
      simp only [Array.getElem?_map, Array.getElem?_range, hlt, if_true, Option.map_some, hmod]
      rw [getElem!_def, hu']
  · exact h.elim

/-- the first cells of so many elements -/
theorem RdAt.pre {v : Value} {s m k : Nat} {g : Nat → List SC} (h : RdAt E w v s m g) (hk : k ≤ m) : (Builtin.firstCells s k v).run P w = .ok (cellsOf E k g).toArray w ∧ (cellsOf E k g).length = k * s ∧ ∀ u ∈ cellsOf E k g, u.oneCell' = true := by
  obtain ⟨ba, cap, rfl, h⟩ := h
  have h2 : RdAt E w (.slice ba k cap) s k g := by
    refine ⟨ba, cap, rfl, ?_⟩
    rcases h with h | ⟨b, off, rfl, h⟩
    · exact Or.inl (by omega)
    · exact Or.inr ⟨b, off, rfl, fun e he => h e (by omega)⟩
  obtain ⟨h3, h4, h5⟩ := h2.first (P := P) w rfl
  refine ⟨?_, h4, h5⟩
  rw [← h3]
  cases ba <;> rfl

theorem cpy_ok {t u ty e e' : Nat} {s x : Operand} {is ix : IX} {ti tu te : TI} (hT : TOk P T) (ht : look T t = some ti) (htd : ti.desc = .slice e) (he : look T e = some te)
    (hs1 : opd s = some is) (hx1 : opd x = some ix) {vc : Prop} {out : Out} (h : (stepOut (.cpy te.size is ix) S).Sel vc out) (hvc : vc) (hs : Sat B W w0 E S a w) :
    ∃ v w', RunsTo ((do pure (Next.value (← Builtin.copy_ #[t, u] ty #[a.eval s, a.eval x])) : Sem Next).run P w) v w' ∧ After B W w0 E [] S a w out.val out.cnt out.eff out.arrs v w' := by
  obtain ⟨hut, _⟩ := ti_parts hT ht
  obtain ⟨_, i, hi, hz, hsz, hby⟩ := ti_parts hT he
  rw [htd] at hut
  simp only [stepOut] at h
  split at h
  · next xv hxv =>
    split at h
    · next q m g hsrc =>
      split at h
      · next y s' o n c hsv =>
        split at h
        · next p k s'' f t' hlook =>
          obtain ⟨rfl, rfl⟩ := h
          obtain ⟨hp, hq, rfl, rfl, hpos, hok⟩ := hvc
          have rd : ∀ E, Sat B W w0 E S a w → RdAt E w (a.eval x) te.size m g := fun E hs => by rw [opd_den hs hx1 hxv]; exact slSrc_ok hsrc hq hs
          have hmn : Nat.min m n ≤ m := Nat.min_le_left _ _
          have hmn2 : Nat.min m n ≤ n := Nat.min_le_right _ _
          generalize hr : Nat.min m n = r at hmn hmn2
          have hrun : ∀ E, Sat B W w0 E S a w → ∃ w2, (Builtin.copy_ #[t, u] ty #[a.eval s, a.eval x]).run P w = .ok (.int .i64 (r : Int)) w2 ∧ Fits B W E S w w2 (setN S.own y (.ar k te.size (cpyAt o r f g) t')) [] := by
            intro E hs
            obtain ⟨H, hH, _⟩ := hs.mem
            obtain ⟨hc1, hc2, hc3⟩ := (rd E hs).pre (P := P) (k := r) hmn
            have hes : a.eval s = .slice (if E.ν y = true then none else some ⟨E.ρ y, o * te.size, none⟩) n (c.getD (E.κ y - o)) := by rw [opd_den hs hs1 hsv, den_c, den_sl]
            have hlen : (Builtin.lenOf (a.eval x)).run P w = .ok m w := by
              obtain ⟨ba, cap, e1, _⟩ := rd E hs
              rw [e1]; rfl
            rcases ar_heap hH (pkN_at hlook hp) with ⟨hν, hκ, hk0, hHe⟩ | ⟨hν, hkk, hm, cells, hHy, hb, hcs, hcells⟩
            · have hn0 : n = 0 := by omega
              have hr0 : r = 0 := by omega
              refine ⟨w, ?_, ?_⟩
              · rw [hes, hν]
                simp only [if_true]
                simp [Builtin.copy_, run_underlying hut, sizeOf, typeInfo, hi, hlen, hsz, hr, hc1, goInt]
              · subst hr0
                have hcp : cpyAt o 0 f g = f := by
                  funext e1
                  unfold cpyAt
                  rw [if_neg (by omega)]
                rw [hcp]
                refine ⟨fun H' hH' => ⟨rfl, rfl, rfl, Nat.le_refl _, fun _ _ _ => rfl, H', fun x b hb => ?_, fun x z b d hb hd hne => ?_, fun x b hb n o hn => ?_⟩, fun _ _ x A h => by simp [atN, look] at h⟩
                · rw [atN_setN hlook hp] at hb
                  split at hb
                  · split at hb
                    · next e1 => subst e1; cases hb; exact hH'.den _ _ (pkN_at hlook hp)
                    · exact hH'.den _ _ hb
                  · cases hb
                · have key : ∀ x b, atN (setN S.own y (.ar k te.size f t')) x = some b → ∃ b', atN S.own x = some b' := by
                    intro x b hb
                    rw [atN_setN hlook hp] at hb
                    split at hb
                    · split at hb
                      · next e1 => subst e1; exact ⟨_, pkN_at hlook hp⟩
                      · exact ⟨_, hb⟩
                    · cases hb
                  obtain ⟨b', h1⟩ := key x b hb
                  obtain ⟨d', h2⟩ := key z d hd
                  exact hH'.disj x z b' d' h1 h2 hne
                · rw [atN_setN hlook hp] at hb
                  split at hb
                  · next e0 =>
                    have : ∃ b', atN S.own x = some b' := by
                      split at hb
                      · next e1 => subst e1; exact ⟨_, pkN_at hlook hp⟩
                      · exact ⟨_, hb⟩
                    obtain ⟨b', h1⟩ := this
                    exact ⟨(hH'.sub x b' h1 n o hn).1, Or.inr ⟨x, b', (setN_look hlook _ _).2 e0, h1, by rw [hn]; simp⟩⟩
                  · cases hb
            · have hfit : o * te.size + r * te.size ≤ cells.size := by
                rw [hcs, ← Nat.add_mul]
                exact Nat.mul_le_mul_right _ (by omega)
              have hst := run_storeCells_at P (E.ρ y) (o * te.size) t' (cellsOf E r g) 0 cells w hb (by rw [hc2]; omega) hc3
              simp only [Nat.add_zero] at hst
              refine ⟨w.setRow (E.ρ y) (cells.toList.take (o * te.size) ++ cellsOf E r g ++ cells.toList.drop (o * te.size + (cellsOf E r g).length)).toArray, ?_, ?_⟩
              · rw [hes, hν]
                simp only [Bool.false_eq_true, if_false]
                simp [Builtin.copy_, run_underlying hut, sizeOf, typeInfo, hi, hlen, hsz, hr, hc1, goInt, hst]
              · refine fits_write (g := E.ρ y) (o := .cells (cells.toList.take (o * te.size) ++ cellsOf E r g ++ cells.toList.drop (o * te.size + (cellsOf E r g).length)).toArray t' (0, 0)) (b' := .ar k te.size (cpyAt o r f g) t') hlook hp ?_ (fun H hH => ?_) ?_ _ ⟨rfl, rfl, rfl⟩ (heap_setRow hb)
                · exact (Array.getElem?_eq_some_iff.1 hb).1
                · rcases ar_heap hH (pkN_at hlook hp) with ⟨h3, _⟩ | ⟨_, _, _, cells', h4, h5, _⟩
                  · rw [hν] at h3; cases h3
                  · rw [h4, h5]; rfl
                simp only [Blk.den]
                refine Or.inr ⟨hν, hkk, hm, _, rfl, ?_, ?_⟩
                · simp only [List.size_toArray, List.length_append, List.length_take, List.length_drop, Array.length_toList, hc2]
                  omega
                · intro e1 he1
                  have get : ∀ j, (cells.toList.take (o * te.size) ++ cellsOf E r g ++ cells.toList.drop (o * te.size + (cellsOf E r g).length)).toArray[j]? = if o * te.size ≤ j ∧ j < o * te.size + r * te.size then (cellsOf E r g)[j - o * te.size]? else cells[j]? := by
                    intro j
                    obtain ⟨L⟩ := cells
                    have e0 : (⟨L⟩ : Array Value)[j]? = L[j]? := by simp
                    rw [e0]
                    have h6 : (L.take (o * te.size) ++ cellsOf E r g ++ L.drop (o * te.size + (cellsOf E r g).length)).toArray[j]? = (L.take (o * te.size) ++ (cellsOf E r g ++ L.drop (o * te.size + (cellsOf E r g).length)))[j]? := by simp
                    have h7 : o * te.size + r * te.size ≤ L.length := hfit
                    rw [h6]
                    by_cases h1 : j < o * te.size
                    · rw [List.getElem?_append_left (by rw [List.length_take]; omega), List.getElem?_take, if_pos h1, if_neg (by omega)]
                    · rw [List.getElem?_append_right (by rw [List.length_take]; omega), List.length_take, Nat.min_eq_left (by omega)]
                      by_cases h2 : j < o * te.size + r * te.size
                      · rw [List.getElem?_append_left (by omega), if_pos ⟨by omega, h2⟩]
                      · rw [List.getElem?_append_right (by omega), if_neg (by omega), List.getElem?_drop]
                        congr 1
                        omega
                  have hgl : ∀ e, e < r → (g e).length = te.size := fun e he => (rd E hs).lens e (by omega)
                  unfold cpyAt
                  split
                  · next hin =>
                    refine ⟨hgl _ (by omega), fun j u hu => ?_⟩
                    have hj : j < te.size := by rw [← hgl (e1 - o) (by omega)]; exact (List.getElem?_eq_some_iff.1 hu).1
                    have hmul : o * te.size ≤ e1 * te.size := Nat.mul_le_mul_right _ (by omega)
                    have hmul2 : (e1 + 1) * te.size ≤ (o + r) * te.size := Nat.mul_le_mul_right _ (by omega)
                    rw [Nat.add_mul, Nat.one_mul, Nat.add_mul] at hmul2
                    rw [get, if_pos ⟨by omega, by omega⟩, show e1 * te.size + j - o * te.size = (e1 - o) * te.size + j by rw [Nat.sub_mul]; omega, cellsOf_get hgl (e1 - o) j (by omega) hj, hu]
                    exact ⟨rfl, (rd E hs).one _ (by omega) j u hu⟩
                  · next hout =>
                    refine ⟨(hcells e1 he1).1, fun j u hu => ?_⟩
                    have hj : j < te.size := by rw [← (hcells e1 he1).1]; exact (List.getElem?_eq_some_iff.1 hu).1
                    rw [get, if_neg]
                    · exact (hcells e1 he1).2 j u hu
                    · rintro ⟨h1, h2⟩
                      rcases Nat.lt_or_ge e1 o with h3 | h3
                      · have : (e1 + 1) * te.size ≤ o * te.size := Nat.mul_le_mul_right _ h3
                        rw [Nat.add_mul, Nat.one_mul] at this
                        omega
                      · have : (o + r) * te.size ≤ e1 * te.size := Nat.mul_le_mul_right _ (by omega)
                        rw [Nat.add_mul] at this
                        omega
          obtain ⟨w2, h2, _⟩ := hrun E hs
          exact det_after E hs.one ⟨_, _, Or.inl (run_val h2)⟩ fun E2 hs2 _ => let ⟨w3, h3, h4⟩ := hrun E2 hs2; ⟨w3, Or.inl (by rw [run_val h3, den_c, den_v]), h4⟩
        · exact h.elim
      · exact h.elim
    · exact h.elim
  · exact h.elim

/-- a bound: none, or a number -/
def Bnd (v : Option Value) (d r : Int) : Prop := (v = none ∧ r = d) ∨ ∃ k, v = some (.int k r)

theorem run_slice {t e : Nat} {i : TypeInfo} (hut : P.underlying t = some (.slice e)) (hi : P.info? e = some i) (base : Option Addr) (n cap : Nat) {lo hi' mx : Option Value} {l h m : Int}
    (hlo : Bnd lo 0 l) (hhi : Bnd hi' n h) (hmx : Bnd mx cap m) (himp : mx = none ∨ hi' ≠ none) (h0 : 0 ≤ l) (h1 : l ≤ h) (h2 : h ≤ m) (h3 : m ≤ cap) :
    (Instr.sliceAt t (.slice base n cap) lo hi' mx).run P w = .ok (.slice (if m.toNat = l.toNat then base else base.map (·.add (l.toNat * i.size))) (h.toNat - l.toNat) (m.toNat - l.toNat)) w := by
  have b : ∀ (k : IntKind) (x : Int) (y : Nat) (code : BoundsCode), 0 ≤ x → x ≤ y → (Instr.sliceBound (.int k x) y code).run P w = .ok x.toNat w := by
    intro k x y code g0 g1
    simp [Instr.sliceBound, asIntOf, g0, g1]
  have hb : (Instr.sliceBounds true n cap lo hi' mx).run P w = .ok (l.toNat, h.toNat, m.toNat) w := by
    unfold Instr.sliceBounds
    rcases hmx with ⟨rfl, rfl⟩ | ⟨k3, rfl⟩
    · rcases hhi with ⟨rfl, rfl⟩ | ⟨k2, rfl⟩
      · rcases hlo with ⟨rfl, rfl⟩ | ⟨k1, rfl⟩
        · simp
        · have := b k1 l n .sliceB h0 h1
          simp [this]
      · have e2 := b k2 h cap .sliceAcap (by omega) (by omega)
        rcases hlo with ⟨rfl, rfl⟩ | ⟨k1, rfl⟩
        · simp [e2]
        · have := b k1 l h.toNat .sliceB h0 (by omega)
          simp [e2, this]
    · have e3 := b k3 m cap .slice3Acap (by omega) (by omega)
      rcases hhi with ⟨rfl, rfl⟩ | ⟨k2, rfl⟩
      · rcases himp with h | h
        · cases h
        · exact absurd rfl h
      · have e2 := b k2 h m.toNat .slice3B (by omega) (by omega)
        rcases hlo with ⟨rfl, rfl⟩ | ⟨k1, rfl⟩
        · simp [e3, e2]
        · have := b k1 l h.toNat .slice3C h0 (by omega)
          simp [e3, e2, this]
  simp only [Instr.sliceAt, Sem.run_bind, run_underlying hut, Result.andThen_ok, Instr.slice, hb, run_sizeOf hi, Sem.run_pure]

theorem slB_bnd (hs : Sat B W w0 E S a w) {lo hi' : Option Operand} {ilo ihi : Option IX} (h1 : opdO lo = some ilo) (h2 : opdO hi' = some ihi) {n : Nat} {l h : Int} (h3 : slB S ilo ihi n = some (l, h)) :
    Bnd (lo.map a.eval) 0 l ∧ Bnd (hi'.map a.eval) n h := by
  unfold slB at h3
  have key : ∀ {o : Option Operand} {io : Option IX} {d r : Int}, opdO o = some io → (match io with | none => some d | some x => (S.ev x).bind SV.int?) = some r → Bnd (o.map a.eval) d r := by
    intro o io d r g1 g2
    cases o with
    | none =>
      simp only [opdO, Option.some.injEq] at g1
      subst g1
      simp only [Option.some.injEq] at g2
      exact Or.inl ⟨rfl, g2.symm⟩
    | some x =>
      simp only [opdO, Option.map_eq_some_iff] at g1
      obtain ⟨ix, hix, rfl⟩ := g1
      simp only [Option.bind_eq_some_iff] at g2
      obtain ⟨v, hv, g2⟩ := g2
      unfold SV.int? at g2
      split at g2
      · cases g2
        exact Or.inr ⟨_, by rw [Option.map_some, opd_den hs hix hv, den_c, den_v]⟩
      · cases g2
  split at h3
  · next l' h' e1 e2 =>
    simp only [Option.some.injEq, Prod.mk.injEq] at h3
    obtain ⟨rfl, rfl⟩ := h3
    exact ⟨key h1 e1, key h2 e2⟩
  · cases h3
theorem slM_bnd (hs : Sat B W w0 E S a w) {mx : Option Operand} {imx : Option IX} (h1 : opdO mx = some imx) {m : Option Int} (h3 : slM S imx = some m) :
    (m = none ∧ mx = none) ∨ ∃ r k, m = some r ∧ mx.map a.eval = some (.int k r) := by
  cases mx with
  | none =>
    simp only [opdO, Option.some.injEq] at h1
    subst h1
    simp only [slM, Option.some.injEq] at h3
    exact Or.inl ⟨h3.symm, rfl⟩
  | some x =>
    simp only [opdO, Option.map_eq_some_iff] at h1
    obtain ⟨ix, hix, rfl⟩ := h1
    simp only [slM] at h3
    split at h3
    · next m' hm =>
      simp only [Option.some.injEq] at h3
      subst h3
      simp only [Option.bind_eq_some_iff] at hm
      obtain ⟨v, hv, g2⟩ := hm
      unfold SV.int? at g2
      split at g2
      · cases g2
        exact Or.inr ⟨_, _, rfl, by rw [Option.map_some, opd_den hs hix hv, den_c, den_v]⟩
      · cases g2
    · cases h3

theorem slice_base {ba : Option Addr} {m l s : Nat} (h : l < m ∨ l = 0) : (if m = l then ba else ba.map (·.add (l * s))) = ba.map (·.add (l * s)) := by
  split
  · next e =>
    have : l = 0 := by omega
    subst this
    cases ba <;> simp [Addr.add]
  · rfl
theorem den_xs {y : Nm} {ba : Option Addr} {N cap : Nat} (h : E.χ y = .slice ba N cap) (s o n : Nat) (c : Option Nat) : (SC.xs y s o n c).den E = .slice (ba.map (·.add (o * s))) n (c.getD (cap - o)) := by
  simp only [SC.den, h]
  cases ba <;> rfl
theorem add_add (b : Addr) (x y : Nat) : (b.add x).add y = b.add (x + y) := by
  unfold Addr.add
  by_cases hx : x = 0
  · subst hx; simp
  · by_cases hy : y = 0
    · subst hy; simp
    · simp only [hx, hy, if_false]
      rw [if_neg (by omega)]
      simp [Nat.add_assoc]

theorem slc_ok {t e : Nat} {x : Operand} {lo hi' mx : Option Operand} {ix : IX} {ilo ihi imx : Option IX} {ti te : TI} (hT : TOk P T) (ht : look T t = some ti) (htd : ti.desc = .slice e) (he : look T e = some te)
    (hx1 : opd x = some ix) (hlo : opdO lo = some ilo) (hhi : opdO hi' = some ihi) (hmx : opdO mx = some imx) (himp : (ihi.isNone && imx.isSome) = false) {vc : Prop} {out : Out} (h : (stepOut (.slc te.size ix ilo ihi imx) S).Sel vc out) (hvc : vc) :
    (∃ val, out = pureO val ∧ ∀ E, Sat B W w0 E S a w → (Instr.sliceAt t (a.eval x) (lo.map a.eval) (hi'.map a.eval) (mx.map a.eval)).run P w = .ok (val.den E) w) ∨
    (out = endO S te.size ∧ ∀ E, Sat B W w0 E S a w → ∃ ba cap, (Instr.sliceAt t (a.eval x) (lo.map a.eval) (hi'.map a.eval) (mx.map a.eval)).run P w = .ok (.slice ba 0 cap) w ∧ cap ≤ maxLen) := by
  obtain ⟨hut, _⟩ := ti_parts hT ht
  obtain ⟨_, i, hi, hz, hsz, hby⟩ := ti_parts hT he
  rw [htd] at hut
  have himp' : mx = none ∨ hi' ≠ none := by
    cases mx with
    | none => exact Or.inl rfl
    | some y =>
      right
      rintro rfl
      simp only [opdO, Option.some.injEq, Option.map_eq_some_iff] at hhi hmx
      obtain ⟨_, _, rfl⟩ := hmx
      subst hhi
      simp at himp
  have himp2 : mx.map a.eval = none ∨ hi'.map a.eval ≠ none := by
    rcases himp' with h | h
    · left; rw [h]; rfl
    · right; cases hi' with
      | none => exact absurd rfl h
      | some _ => simp
  have bmx : ∀ (E : Env) (hs : Sat B W w0 E S a w) (m : Option Int) (cap : Nat), slM S imx = some m → Bnd (mx.map a.eval) cap (m.getD cap) := by
    intro E hs m cap hm
    rcases slM_bnd hs hmx hm with ⟨rfl, rfl⟩ | ⟨r, k, rfl, h2⟩
    · exact Or.inl ⟨rfl, rfl⟩
    · exact Or.inr ⟨k, h2⟩
  simp only [stepOut] at h
  split at h
  · next m hm =>
    split at h
    · next y s o n c hev =>
      split at h
      · next l h' p k s' f ty hb hlook =>
        have val : ∀ E, Sat B W w0 E S a w → p → ∃ cap, a.eval x = .slice (if E.ν y = true then none else some ⟨E.ρ y, o * s, none⟩) n cap ∧ cap = c.getD (E.κ y - o) ∧ k ≤ E.κ y ∧ (E.ν y = true → k = 0) := by
          intro E hs hp
          obtain ⟨H, hH, _⟩ := hs.mem
          refine ⟨_, by rw [opd_den hs hx1 hev, den_c, den_sl], rfl, ?_⟩
          rcases ar_heap hH (pkN_at hlook hp) with ⟨_, h2, h3, _⟩ | ⟨h2, h3, _⟩
          · exact ⟨by omega, fun _ => h3⟩
          · exact ⟨h3, fun h => by rw [h2] at h; cases h⟩
        split at h
        · rcases h with ⟨hl0, rfl, rfl⟩ | ⟨hl0, rfl, rfl⟩
          · obtain ⟨hp, rfl, hs', hon, hq⟩ := hvc
            obtain ⟨rfl, rfl, hl0⟩ := hl0
            refine Or.inr ⟨rfl, fun E hs => ?_⟩
            obtain ⟨cap, e1, e2, hk, hν⟩ := val E hs hp
            obtain ⟨b1, b2⟩ := slB_bnd hs hlo hhi hb
            have hκ : E.κ y ≤ maxLen := by
              obtain ⟨H, hH, _⟩ := hs.mem
              rcases ar_heap hH (pkN_at hlook hp) with ⟨_, h2, _, _⟩ | ⟨_, _, h4, _⟩
              · rw [h2]; simp [maxLen]
              · exact h4
            have hcap : (n : Int) ≤ cap ∧ cap ≤ maxLen := by
              rw [e2]
              cases c with
              | none => simp only [Option.getD_none]; omega
              | some q => simp only [Option.getD_some]; have := hq q rfl; omega
            have := run_slice (P := P) (w := w) hut hi (if E.ν y = true then none else some ⟨E.ρ y, o * te.size, none⟩) n cap b1 b2 (bmx E hs none cap hm) himp2 (by omega) (Int.le_refl _) hcap.1 (Int.le_refl _)
            rw [e1, this, Nat.sub_self]
            refine ⟨_, _, rfl, ?_⟩
            simp only [Option.getD_none, Int.toNat_natCast]
            omega
          · obtain ⟨hp, rfl, hs', h0, hlh, hok, hq, hln, hon⟩ := hvc
            refine Or.inl ⟨_, rfl, fun E hs => ?_⟩
            obtain ⟨cap, e1, e2, hk, hν⟩ := val E hs hp
            obtain ⟨b1, b2⟩ := slB_bnd hs hlo hhi hb
            rcases hln with hln | rfl
            · rcases Int.lt_or_eq_of_le h0 with hpos | hz
              · have hcap : h' ≤ cap ∧ (n : Int) ≤ cap := by
                  rw [e2]
                  cases c with
                  | none => simp only [Option.getD_none]; have := hon hpos; omega
                  | some q => simp only [Option.getD_some]; have := hq q rfl; have := this.2 hpos; omega
                have hνf : E.ν y = false := by
                  cases h : E.ν y with
                  | false => rfl
                  | true => have := hν h; have := hon hpos; omega
                have := run_slice (P := P) (w := w) hut hi (if E.ν y = true then none else some ⟨E.ρ y, o * te.size, none⟩) n cap b1 b2 (bmx E hs none cap hm) himp2 (by omega) hlh hcap.1 (Int.le_refl _)
                rw [e1, this, den_c, den_sl, hνf, hsz]
                simp only [Option.getD_none, Int.toNat_natCast, Bool.false_eq_true, if_false, Option.map_some]
                rw [if_neg (by omega), addr_add0, Nat.add_mul]
                congr 2
                rw [e2]
                cases c with
                | none => simp only [Option.map_none, Option.getD_none]; omega
                | some q => simp only [Option.map_some, Option.getD_some]
              · subst hz
                have hcap : h' ≤ cap := by
                  rw [e2]
                  cases c with
                  | none => simp only [Option.getD_none]; omega
                  | some q => simp only [Option.getD_some]; exact (hq q rfl).1
                have := run_slice (P := P) (w := w) hut hi (if E.ν y = true then none else some ⟨E.ρ y, o * te.size, none⟩) n cap b1 b2 (bmx E hs none cap hm) himp2 (by omega) (by omega) hcap (Int.le_refl _)
                rw [e1, this, den_c, den_sl, e2]
                cases c <;> cases E.ν y <;> simp [Addr.add]
            · have hcap : h' ≤ cap := by
                rw [e2]
                cases c with
                | none => simp only [Option.getD_none]; omega
                | some q => simp only [Option.getD_some]; exact (hq q rfl).1
              have := run_slice (P := P) (w := w) hut hi (if E.ν y = true then none else some ⟨E.ρ y, o * te.size, none⟩) n cap b1 b2 (bmx E hs none cap hm) himp2 (by omega) (by omega) hcap (Int.le_refl _)
              rw [e1, this, den_c, den_sl, e2]
              cases c <;> cases E.ν y <;> simp [Addr.add]
        · next m =>
          obtain ⟨rfl, rfl⟩ := h
          obtain ⟨hp, rfl, hs', h0, hlh, hhm, hok, hq, hlm⟩ := hvc
          refine Or.inl ⟨_, rfl, fun E hs => ?_⟩
          obtain ⟨cap, e1, e2, hk, hν⟩ := val E hs hp
          obtain ⟨b1, b2⟩ := slB_bnd hs hlo hhi hb
          have hcap : m ≤ cap := by
            rw [e2]
            cases c with
            | none => simp only [Option.getD_none]; omega
            | some q => simp only [Option.getD_some]; exact hq q rfl
          have := run_slice (P := P) (w := w) hut hi (if E.ν y = true then none else some ⟨E.ρ y, o * te.size, none⟩) n cap b1 b2 (bmx E hs (some m) cap hm) himp2 h0 hlh hhm hcap
          rw [e1, this, den_c, den_sl, hsz]
          simp only [Option.getD_some]
          rcases hlm with hlm | rfl
          · rw [if_neg (by omega)]
            cases hν2 : E.ν y with
            | true => simp
            | false => simp [addr_add0, Nat.add_mul]
          · simp
            intro _
            cases E.ν y <;> simp [Addr.add]
      · exact h.elim
    · next y hev =>
      split at h
      · next p A hlook =>
        split at h
        · next l h' hb =>
          have val : ∀ E, Sat B W w0 E S a w → p → ∃ ba cap, a.eval x = .slice ba A.len cap ∧ E.χ y = .slice ba A.len cap ∧ A.len ≤ cap := by
            intro E hs hp
            obtain ⟨ba, cap, hχ, hl, hm, hcell⟩ := hs.arr (pkN_at hlook hp)
            exact ⟨ba, cap, by rw [opd_den hs hx1 hev, den_c, den_xv, hχ], hχ, hl⟩
          split at h
          · obtain ⟨rfl, rfl⟩ := h
            obtain ⟨hp, hAs, h0, hlh, hhA, hlA⟩ := hvc
            refine Or.inl ⟨_, rfl, fun E hs => ?_⟩
            obtain ⟨ba, cap, e1, e2, hle⟩ := val E hs hp
            obtain ⟨b1, b2⟩ := slB_bnd hs hlo hhi hb
            have := run_slice (P := P) (w := w) hut hi ba A.len cap b1 b2 (bmx E hs none cap hm) himp2 h0 hlh (by simp only [Option.getD_none]; omega) (Int.le_refl _)
            rw [e1, this, den_c, den_xs e2, hsz]
            simp only [Option.getD_none, Int.toNat_natCast]
            rw [slice_base (by omega)]
          · obtain ⟨rfl, rfl⟩ := h
            obtain ⟨hp, hAs, h0, hlh, hhm, hmA, hlA⟩ := hvc
            refine Or.inl ⟨_, rfl, fun E hs => ?_⟩
            obtain ⟨ba, cap, e1, e2, hle⟩ := val E hs hp
            obtain ⟨b1, b2⟩ := slB_bnd hs hlo hhi hb
            have := run_slice (P := P) (w := w) hut hi ba A.len cap b1 b2 (bmx E hs (some _) cap hm) himp2 h0 hlh hhm (by simp only [Option.getD_some]; omega)
            rw [e1, this, den_c, den_xs e2, hsz]
            simp only [Option.getD_some]
            rw [slice_base (by omega)]
        · exact h.elim
      · exact h.elim
    · next y s o n c hev =>
      split at h
      · next p A hlook =>
        split at h
        · next l h' hb =>
          have val : ∀ E, Sat B W w0 E S a w → p → ∃ ba cap, a.eval x = .slice (ba.map (·.add (o * s))) n (c.getD (cap - o)) ∧ E.χ y = .slice ba A.len cap ∧ A.len ≤ cap := by
            intro E hs hp
            obtain ⟨ba, cap, hχ, hl, hm, hcell⟩ := hs.arr (pkN_at hlook hp)
            exact ⟨ba, cap, by rw [opd_den hs hx1 hev, den_c, den_xs hχ], hχ, hl⟩
          have fin : ∀ (ba : Option Addr) (l : Nat), (ba.map (·.add (o * te.size))).map (·.add (l * te.size)) = ba.map (·.add ((o + l) * te.size)) := by
            intro ba l
            cases ba <;> simp [add_add, Nat.add_mul]
          split at h
          · obtain ⟨rfl, rfl⟩ := h
            obtain ⟨hp, hAs, rfl, h0, hlh, hon, hq, hln⟩ := hvc
            refine Or.inl ⟨_, rfl, fun E hs => ?_⟩
            obtain ⟨ba, cap, e1, e2, hle⟩ := val E hs hp
            obtain ⟨b1, b2⟩ := slB_bnd hs hlo hhi hb
            have hcap : h' ≤ (c.getD (cap - o) : Nat) := by
              cases c with
              | none => simp only [Option.getD_none]; omega
              | some q => simp only [Option.getD_some]; exact hq q rfl
            have := run_slice (P := P) (w := w) hut hi (ba.map (·.add (o * te.size))) n (c.getD (cap - o)) b1 b2 (bmx E hs none _ hm) himp2 h0 hlh (by simp only [Option.getD_none]; omega) (Int.le_refl _)
            rw [e1, this, den_c, den_xs e2, hsz]
            simp only [Option.getD_none, Int.toNat_natCast]
            rw [slice_base (by omega), fin]
            congr 2
            cases c with
            | none => simp only [Option.map_none, Option.getD_none]; omega
            | some q => simp only [Option.map_some, Option.getD_some]
          · obtain ⟨rfl, rfl⟩ := h
            obtain ⟨hp, hAs, rfl, h0, hlh, hhm, hmn, hon, hq, hln⟩ := hvc
            refine Or.inl ⟨_, rfl, fun E hs => ?_⟩
            obtain ⟨ba, cap, e1, e2, hle⟩ := val E hs hp
            obtain ⟨b1, b2⟩ := slB_bnd hs hlo hhi hb
            have hcap : n ≤ c.getD (cap - o) := by
              cases c with
              | none => simp only [Option.getD_none]; omega
              | some q => simp only [Option.getD_some]; exact hq q rfl
            have := run_slice (P := P) (w := w) hut hi (ba.map (·.add (o * te.size))) n (c.getD (cap - o)) b1 b2 (bmx E hs (some _) _ hm) himp2 h0 hlh hhm (by simp only [Option.getD_some]; omega)
            rw [e1, this, den_c, den_xs e2, hsz]
            simp only [Option.getD_some]
            rw [slice_base (by omega), fin]
        · exact h.elim
      · exact h.elim
    · exact h.elim
  · exact h.elim
end
end Go.Proofs.Ytkjeedlkkpgopaa.Z
