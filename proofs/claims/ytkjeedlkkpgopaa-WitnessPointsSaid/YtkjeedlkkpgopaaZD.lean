
/- What one operation does to a state is what the model's run of it does: words; loads, stores, append, copy, slicing. No statement of the program. -/
import Derived.Test.YtkjeedlkkpgopaaZC
import Derived.Deep.AppendSrc
namespace Go.Proofs.Ytkjeedlkkpgopaa.Z
open Go Go.RowKit
set_option linter.unusedSimpArgs false

section
variable {P : Program} {T : TT} {B : Nat} {W : Nat → Prop} {w0 : World} {E : Env} {S : St} {a : Act} {w : World}

/-- the run of an operation comes to that -/
def RunsTo (r : Result Next) (v : Value) (w' : World) : Prop := r = .ok (.value v) w' ∨ (r = .ok .skip w' ∧ v = undef)

theorem det_after {r : Result Next} {val : SV} {cnt : Nat} {eff : Own} {arrs' : List (Nat × Fm ArrF)} (N : Env) (hN : OneC N) (hex : ∃ v w', RunsTo r v w')
    (h : ∀ E2, Sat B W w0 E2 S a w → AgreeD (NewIds S.nid cnt) N E2 → ∃ w2, (r = .ok (.value (val.den E2)) w2 ∨ (r = .ok .skip w2 ∧ val = .c (.v undef))) ∧ Fits B W E2 S w w2 eff arrs') :
    ∃ v w', RunsTo r v w' ∧ After B W w0 E [] S a w val cnt eff arrs' v w' := by
  obtain ⟨v, w', hr⟩ := hex
  refine ⟨v, w', hr, N, hN, fun E2 hs2 _ hag => ?_⟩
  obtain ⟨w2, h1, h2⟩ := h E2 hs2 hag
  rcases hr with hr | ⟨hr, rfl⟩
  · rcases h1 with h1 | ⟨h1, _⟩
    · rw [hr] at h1
      simp only [Result.ok.injEq, Next.value.injEq] at h1
      obtain ⟨rfl, rfl⟩ := h1
      exact ⟨rfl, h2.G⟩
    · rw [hr] at h1
      simp at h1
  · rcases h1 with h1 | ⟨h1, hv⟩
    · rw [hr] at h1
      simp at h1
    · rw [hr] at h1
      simp only [Result.ok.injEq, true_and] at h1
      subst h1
      exact ⟨by rw [hv, den_c, den_v], h2.G⟩

/-- an operation that changes nothing -/
theorem pure_after {r : Result Next} {val : SV} (hs : Sat B W w0 E S a w) (h : ∀ E2, Sat B W w0 E2 S a w → r = .ok (.value (val.den E2)) w) :
    ∃ v w', RunsTo r v w' ∧ After B W w0 E [] S a w (pureO val).val (pureO val).cnt (pureO val).eff (pureO val).arrs v w' :=
  det_after E hs.one ⟨_, _, Or.inl (h E hs)⟩ fun E2 hs2 _ => ⟨w, Or.inl (h E2 hs2), fits_nil⟩

theorem run_val {s : Sem Value} {v : Value} {w' : World} (h : s.run P w = .ok v w') : (do pure (Next.value (← s)) : Sem Next).run P w = .ok (.value v) w' := by
  simp only [Sem.run_bind, h, Result.andThen_ok, Sem.run_pure]
theorem run_unit {s : Sem Unit} {w' : World} (h : s.run P w = .ok () w') : (do s; pure Next.skip : Sem Next).run P w = .ok .skip w' := by
  simp only [Sem.run_bind, h, Result.andThen_ok, Sem.run_pure]

/-! ### loads -/
theorem ld_ok {t : Nat} {x : Operand} {ix : IX} {ti : TI} (hT : TOk P T) (ht : look T t = some ti) (hx : opd x = some ix) {vc : Prop} {out : Out}
    (h : (stepOut (.ld (isAggD ti.desc) ti.size ix) S).Sel vc out) (hvc : vc) : ∃ val, out = pureO val ∧ ∀ E, Sat B W w0 E S a w → (Instr.loadAt t (a.eval x)).run P w = .ok (val.den E) w := by
  simp only [stepOut] at h
  split at h
  · next y off hev =>
    split at h
    · next p cs ty hlook =>
      cases hd : isAggD ti.desc with
      | true =>
        rw [hd, if_pos rfl] at h
        split at h
        · next hfit =>
          obtain ⟨rfl, rfl⟩ := h
          refine ⟨_, rfl, fun E hs => ?_⟩
          obtain ⟨H, hH, _⟩ := hs.mem
          have hoc := bk_cell hH (pkN_at hlook hvc)
          rw [opd_den hs hx hev, den_c, den_ptr]
          rw [len'_eq] at hfit
          have := run_ldv (P := P) (w := w) hT ht (E.ρ y) off ((take' ti.size (drop' off cs)).map (SC.den E)) (by rw [List.length_map, seg_len hfit]) (fun j u hu => by
            rw [List.getElem?_map, Option.map_eq_some_iff] at hu
            obtain ⟨c, hc, rfl⟩ := hu
            rw [hoc, seg_get hc]; rfl)
          rw [hd] at this
          simpa [den_agg] using this
        · exact h.elim
      | false =>
        rw [hd, if_neg (by simp)] at h
        split at h
        · next c hn =>
          obtain ⟨rfl, rfl⟩ := h
          refine ⟨_, rfl, fun E hs => ?_⟩
          obtain ⟨H, hH, _⟩ := hs.mem
          have hoc := bk_cell hH (pkN_at hlook hvc)
          rw [opd_den hs hx hev, den_c, den_ptr, den_c]
          rw [nth_eq] at hn
          exact run_ld1 hT ht hd _ _ _ (by rw [hoc, hn]; rfl)
        · exact h.elim
    · exact h.elim
  · next y s k j hev =>
    split at h
    · next p m s' at_ ty hlook =>
      cases hd : isAggD ti.desc with
      | true =>
        rw [hd, if_pos rfl] at h
        obtain ⟨rfl, rfl⟩ := h
        obtain ⟨hp, hk, hsz, hj⟩ := hvc
        refine ⟨_, rfl, fun E hs => ?_⟩
        obtain ⟨H, hH, _⟩ := hs.mem
        obtain ⟨_, hlen, hcell⟩ := ar_cell hH (pkN_at hlook hp) hk
        rw [opd_den hs hx hev, den_c, den_pe]
        have := run_ldv (P := P) (w := w) hT ht (E.ρ y) (k * s + j) ((take' ti.size (drop' j (at_ k))).map (SC.den E)) (by rw [List.length_map, seg_len (by omega)]) (fun q u hu => by
            rw [List.getElem?_map, Option.map_eq_some_iff] at hu
            obtain ⟨c, hc, rfl⟩ := hu
            have := (hcell (j + q) c (seg_get hc)).1
            rw [hsz] at this
            rw [show k * s + j + q = k * s + (j + q) by omega]; exact this)
        rw [hd] at this
        simpa [den_agg] using this
      | false =>
        rw [hd, if_neg (by simp)] at h
        split at h
        · next c hn =>
          obtain ⟨rfl, rfl⟩ := h
          obtain ⟨hp, hk, hsz⟩ := hvc
          refine ⟨_, rfl, fun E hs => ?_⟩
          obtain ⟨H, hH, _⟩ := hs.mem
          obtain ⟨_, hlen, hcell⟩ := ar_cell hH (pkN_at hlook hp) hk
          rw [opd_den hs hx hev, den_c, den_pe, den_c]
          rw [nth_eq] at hn
          have hc := (hcell j c hn).1
          rw [hsz] at hc
          exact run_ld1 hT ht hd _ _ _ hc
        · exact h.elim
    · exact h.elim
  · next y s k j hev =>
    split at h
    · next p A hlook =>
      have arr : ∀ E, Sat B W w0 E S a w → p → k < A.len → A.size = s → ∃ b off, (SC.ep y s k j).den E = .pointer (some ⟨b, off + k * s + j, none⟩) ∧ (A.at_ k).length = A.size ∧ ∀ q u, (A.at_ k)[q]? = some u → w.cell? ⟨b, off + k * s + q, none⟩ = some (u.den E) := by
        intro E hs hp hk hsz
        obtain ⟨ba, cap, hχ, hl, hm, hcell⟩ := hs.arr (pkN_at hlook hp)
        rcases hcell with h0 | ⟨b, off, rfl, _, hcell⟩
        · omega
        obtain ⟨hlen, hcell⟩ := hcell k hk
        refine ⟨b, off, ?_, hlen, fun q u hu => ?_⟩
        · simp only [SC.den, hχ]
        · rw [← hsz]; exact (hcell q u hu).1
      cases hd : isAggD ti.desc with
      | true =>
        rw [hd, if_pos rfl] at h
        obtain ⟨rfl, rfl⟩ := h
        obtain ⟨hp, hk, hsz, hj⟩ := hvc
        refine ⟨_, rfl, fun E hs => ?_⟩
        obtain ⟨b, off, hden, hlen, hcell⟩ := arr E hs hp hk hsz
        rw [opd_den hs hx hev, den_c, hden]
        have := run_ldv (P := P) (w := w) hT ht b (off + k * s + j) ((take' ti.size (drop' j (A.at_ k))).map (SC.den E)) (by rw [List.length_map, seg_len (by omega)]) (fun q u hu => by
            rw [List.getElem?_map, Option.map_eq_some_iff] at hu
            obtain ⟨c, hc, rfl⟩ := hu
            have := hcell (j + q) c (seg_get hc)
            rw [show off + k * s + j + q = off + k * s + (j + q) by omega]; exact this)
        rw [hd] at this
        simpa [den_agg] using this
      | false =>
        rw [hd, if_neg (by simp)] at h
        split at h
        · next c hn =>
          obtain ⟨rfl, rfl⟩ := h
          obtain ⟨hp, hk, hsz⟩ := hvc
          refine ⟨_, rfl, fun E hs => ?_⟩
          obtain ⟨b, off, hden, hlen, hcell⟩ := arr E hs hp hk hsz
          rw [opd_den hs hx hev, den_c, hden, den_c]
          rw [nth_eq] at hn
          exact run_ld1 hT ht hd _ _ _ (hcell j c hn)
        · exact h.elim
    · exact h.elim
  · exact h.elim

/-! ### stores -/
theorem heap_setRow {g : Nat} {old cs : Array Value} {t : TypeId} {fr : Nat × Nat} (hg : w.heap[g]? = some (.cells old t fr)) (n : Nat) : (w.setRow g cs).heap[n]? = if n = g then some (.cells cs t fr) else w.heap[n]? := by
  split
  · next e => subst e; exact setRow_heap w n old cs t fr hg
  · next e => exact setRow_other w g n cs e

theorem put_get {l : List SC} {off : Nat} {cs : List SC} (h : off + cs.length ≤ l.length) (j : Nat) : (put l off cs)[j]? = if j < off then l[j]? else if j < off + cs.length then cs[j - off]? else l[j]? := by
  rw [put_eq, List.append_assoc]
  by_cases h1 : j < off
  · rw [if_pos h1, List.getElem?_append_left (by rw [List.length_take]; omega), List.getElem?_take, if_pos h1]
  · rw [if_neg h1, List.getElem?_append_right (by rw [List.length_take]; omega), List.length_take, Nat.min_eq_left (by omega)]
    by_cases h2 : j < off + cs.length
    · rw [if_pos h2, List.getElem?_append_left (by omega)]
    · rw [if_neg h2, List.getElem?_append_right (by omega), List.getElem?_drop]
      congr 1
      omega

theorem splice_get {E : Env} (L news : List Value) (new : List SC) (hn : news = new.map (SC.den E)) {o : Nat} (h : o + new.length ≤ L.length) (q : Nat) :
    (L.take o ++ news ++ L.drop (o + new.length)).toArray[q]? = if o ≤ q ∧ q < o + new.length then (new[q - o]?).map (SC.den E) else L[q]? := by
  subst hn
  have e : (L.take o ++ new.map (SC.den E) ++ L.drop (o + new.length)).toArray[q]? = (L.take o ++ (new.map (SC.den E) ++ L.drop (o + new.length)))[q]? := by simp
  rw [e]
  by_cases h1 : q < o
  · rw [List.getElem?_append_left (by rw [List.length_take]; omega), List.getElem?_take, if_pos h1, if_neg (by omega)]
  · rw [List.getElem?_append_right (by rw [List.length_take]; omega), List.length_take, Nat.min_eq_left (by omega)]
    by_cases h2 : q < o + new.length
    · rw [List.getElem?_append_left (by rw [List.length_map]; omega), if_pos ⟨by omega, h2⟩, List.getElem?_map]
    · rw [List.getElem?_append_right (by rw [List.length_map]; omega), if_neg (by omega), List.getElem?_drop, List.length_map]
      congr 1
      omega

theorem st_ok {t : Nat} {x y : Operand} {ix iy : IX} {ti : TI} (hT : TOk P T) (ht : look T t = some ti) (hx : opd x = some ix) (hy : opd y = some iy) {vc : Prop} {out : Out}
    (h : (stepOut (.st ti.size ix iy) S).Sel vc out) (hvc : vc) : out.val = .c (.v undef) ∧ out.cnt = 0 ∧ out.arrs = [] ∧ ∀ E, Sat B W w0 E S a w → ∃ w', (Instr.storeAt t (a.eval x) (a.eval y)).run P w = .ok () w' ∧ Fits B W E S w w' out.eff [] := by
  obtain ⟨hu, i, hi, hz, hsz, _⟩ := ti_parts hT ht
  simp only [stepOut] at h
  split at h
  · next z off v hev hev2 =>
    split at h
    · next p cs ty new hlook hcells =>
      split at h
      · next hfit =>
        obtain ⟨rfl, rfl⟩ := h
        refine ⟨rfl, rfl, rfl, fun E hs => ?_⟩
        obtain ⟨hn, hle⟩ := hfit
        rw [len'_eq] at hn hle
        obtain ⟨hcd, hone⟩ := cells_den hcells hs.one
        obtain ⟨H, hH, _⟩ := hs.mem
        have hb := bk_heap hH (pkN_at hlook hvc)
        rw [opd_den hs hx hev, opd_den hs hy hev2]
        have hst := run_storeCells_at (P := P) (E.ρ z) off ty (new.map (SC.den E)) 0 _ w hb (by simp; omega) hone
        refine ⟨w.setRow (E.ρ z) ((put cs off new).map (SC.den E)).toArray, ?_, ?_⟩
        · simp only [den_c, den_ptr, Instr.storeAt, Instr.sureAddr, Sem.run_bind, Sem.run_pure, Result.andThen_ok, storeVar, run_sizeOf hi, hcd, List.size_toArray, List.length_map, hn, hsz, ne_eq, not_true_eq_false, if_false]
          rw [hst]
          simp only [put_eq, Nat.add_zero, List.length_map, List.map_append, List.map_take, List.map_drop]
        · refine fits_write (g := E.ρ z) (o := .cells ((put cs off new).map (SC.den E)).toArray ty (0, 0)) (b' := .bk (put cs off new) ty) hlook hvc ?_ (fun H hH => ?_) (by simp only [Blk.den]) _ ⟨rfl, rfl, rfl⟩ (heap_setRow hb)
          · exact (Array.getElem?_eq_some_iff.1 hb).1
          · have h1 := hH.den z _ (pkN_at hlook hvc)
            simp only [Blk.den] at h1
            rw [h1, hb]; rfl
      · exact h.elim
    · exact h.elim
  · next z s k j v hev hev2 =>
    split at h
    · next p m s' at_ ty new hlook hcells =>
      obtain ⟨rfl, rfl⟩ := h
      refine ⟨rfl, rfl, rfl, fun E hs => ?_⟩
      obtain ⟨hp, hk, hss, hn, hle⟩ := hvc
      subst hss
      rw [len'_eq] at hn
      obtain ⟨hcd, hone⟩ := cells_den hcells hs.one
      obtain ⟨H, hH, _⟩ := hs.mem
      rcases ar_heap hH (pkN_at hlook hp) with ⟨_, _, h0, _⟩ | ⟨hν, hκ, hm, cells, hHz, hb, hcs, hc⟩
      · omega
      have hlen := (hc k hk).1
      have hfit : k * s' + j + new.length ≤ cells.size := by
        have h2 : (k + 1) * s' ≤ E.κ z * s' := Nat.mul_le_mul_right _ (by omega)
        rw [Nat.add_mul, Nat.one_mul] at h2
        omega
      rw [opd_den hs hx hev, opd_den hs hy hev2]
      have hst := run_storeCells_at (P := P) (E.ρ z) (k * s' + j) ty (new.map (SC.den E)) 0 _ w hb (by simp; omega) hone
      refine ⟨w.setRow (E.ρ z) (cells.toList.take (k * s' + j) ++ new.map (SC.den E) ++ cells.toList.drop (k * s' + j + new.length)).toArray, ?_, ?_⟩
      · simp only [den_c, den_pe, Instr.storeAt, Instr.sureAddr, Sem.run_bind, Sem.run_pure, Result.andThen_ok, storeVar, run_sizeOf hi, hcd, List.size_toArray, List.length_map, hn, hsz, ne_eq, not_true_eq_false, if_false]
        rw [hst]
        simp only [Nat.add_zero, List.length_map, hn]
      · refine fits_write (g := E.ρ z) (o := .cells (cells.toList.take (k * s' + j) ++ new.map (SC.den E) ++ cells.toList.drop (k * s' + j + new.length)).toArray ty (0, 0)) (b' := .ar m s' (setAt k at_ (put (at_ k) j new)) ty) hlook hp ?_ (fun H hH => ?_) ?_ _ ⟨rfl, rfl, rfl⟩ (heap_setRow hb)
        · exact (Array.getElem?_eq_some_iff.1 hb).1
        · rcases ar_heap hH (pkN_at hlook hp) with ⟨h3, _⟩ | ⟨_, _, _, cells', h4, h5, _⟩
          · rw [hν] at h3; cases h3
          · rw [h4, h5]; rfl
        simp only [Blk.den]
        refine Or.inr ⟨hν, hκ, hm, _, rfl, ?_, ?_⟩
        · simp only [List.size_toArray, List.length_append, List.length_take, List.length_map, List.length_drop, Array.length_toList]
          omega
        · intro e he
          have get : ∀ q, (cells.toList.take (k * s' + j) ++ new.map (SC.den E) ++ cells.toList.drop (k * s' + j + new.length)).toArray[q]? = if k * s' + j ≤ q ∧ q < k * s' + j + new.length then (new[q - (k * s' + j)]?).map (SC.den E) else cells[q]? := by
            intro q
            obtain ⟨L⟩ := cells
            have e0 : (⟨L⟩ : Array Value)[q]? = L[q]? := by simp
            rw [e0]
            exact splice_get (E := E) L (new.map (SC.den E)) new rfl (by simpa using hfit) q
          unfold setAt
          split
          · next e1 =>
            subst e1
            have hle' : j + new.length ≤ (at_ e).length := by rw [hlen]; omega
            refine ⟨?_, fun q u hu => ?_⟩
            · rw [put_eq]
              simp only [List.length_append, List.length_take, List.length_drop]
              omega
            · rw [put_get hle'] at hu
              rw [get]
              split at hu
              · rw [if_neg (by omega)]
                exact (hc e he).2 q u hu
              · next h1 =>
                split at hu
                · next h2 =>
                  rw [if_pos ⟨by omega, by omega⟩, show e * s' + q - (e * s' + j) = q - j by omega, hu]
                  exact ⟨rfl, hone _ (List.mem_map.2 ⟨u, List.mem_of_getElem? hu, rfl⟩)⟩
                · next h2 =>
                  rw [if_neg (by omega)]
                  exact (hc e he).2 q u hu
          · next e1 =>
            refine ⟨(hc e he).1, fun q u hu => ?_⟩
            have hq : q < s' := by rw [← (hc e he).1]; exact (List.getElem?_eq_some_iff.1 hu).1
            rw [get, if_neg]
            · exact (hc e he).2 q u hu
            · intro h3
              rcases Nat.lt_or_gt_of_ne e1 with h4 | h4
              · have : (e + 1) * s' ≤ k * s' := Nat.mul_le_mul_right _ (by omega)
                rw [Nat.add_mul, Nat.one_mul] at this
                omega
              · have : (k + 1) * s' ≤ e * s' := Nat.mul_le_mul_right _ (by omega)
                rw [Nat.add_mul, Nat.one_mul] at this
                omega
    · exact h.elim
  · exact h.elim
end
end Go.Proofs.Ytkjeedlkkpgopaa.Z
