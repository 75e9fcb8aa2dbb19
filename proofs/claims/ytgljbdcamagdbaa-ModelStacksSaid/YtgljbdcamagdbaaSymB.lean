/- What one operation does to a state is what the model's run of it does. No statement of the program. -/
import Derived.Test.YtgljbdcamagdbaaSymA
namespace Go.Proofs.Ytgljbdcamagdbaa
open Go.RowKit

theorem drop'_eq {α : Type} : ∀ (n : Nat) (l : List α), drop' n l = l.drop n
  | 0, _ => rfl
  | _ + 1, [] => rfl
  | n + 1, _ :: l => by simp [drop', drop'_eq n l]
theorem take'_eq {α : Type} : ∀ (n : Nat) (l : List α), take' n l = l.take n
  | 0, _ => by simp [take']
  | _ + 1, [] => rfl
  | n + 1, _ :: l => by simp [take', take'_eq n l]
theorem nth_eq {α : Type} : ∀ (l : List α) (n : Nat), nth l n = l[n]?
  | [], _ => by simp [nth]
  | _ :: _, 0 => rfl
  | _ :: l, n + 1 => by simp [nth, nth_eq l n]
theorem len'_eq {α : Type} : ∀ (l : List α), len' l = l.length
  | [] => rfl
  | _ :: l => by simp [len', len'_eq l]
theorem allOne_mem : ∀ {l : List SC}, allOne l = true → ∀ c ∈ l, c.one = true
  | [], _, c, h => by cases h
  | a :: r, h, c, hc => by
    simp only [allOne, Bool.and_eq_true] at h
    rcases List.mem_cons.1 hc with rfl | hc
    · exact h.1
    · exact allOne_mem h.2 c hc

section
variable (E : Env)
theorem den_c (x : SC) : (SV.c x).den E = x.den E := rfl
theorem den_agg (l : List SC) : (SV.agg l).den E = .agg (l.map (SC.den E)).toArray := rfl
theorem den_tup (l : List (Bool × List SC)) : (SV.tup l).den E = .tuple (l.map (den1 E)).toArray := rfl
theorem den_v (x : Value) : (SC.v x).den E = x := rfl
theorem den_b (e : Bool) : (SC.bo e).den E = .bool e := rfl
theorem den_xv (i : Nat) : (SC.xv i).den E = E.χ i := rfl
theorem den_ptr (id off : Nat) : (SC.ptr id off).den E = .pointer (some ⟨E.ρ id, off, none⟩) := rfl
theorem den_sl (id off len cap : Nat) : (SC.sl id off len cap).den E = .slice (some ⟨E.ρ id, off, none⟩) len cap := rfl
end
section
variable {P : Program} {T : TT} {B : Nat} {w0 : World} {E : Env} {S : St} {a : Act} {w : World}

theorem scs_den (E : Env) (cs : Array Value) : ((scs cs).map (SC.den E)).toArray = cs := by
  simp [scs, Function.comp_def, SC.den]

theorem svOf_den {x : Value} {v : SV} (h : svOf x = some v) (E : Env) : v.den E = x := by
  cases x <;> simp only [svOf, Option.some.injEq, reduceCtorEq] at h <;> subst h <;> simp [SV.den, SC.den, scs_den]

theorem opd_den {x : Operand} {i : IX} {v : SV} (hs : Sat B w0 E S a w) (h : opd x = some i) (hv : S.ev i = some v) : a.eval x = v.den E := by
  cases x with
  | tmp t =>
    simp only [opd, Option.some.injEq] at h
    subst h
    exact (hs.tmps t v hv).2
  | const c =>
    simp only [opd, Option.map_eq_some_iff] at h
    obtain ⟨u, hu, rfl⟩ := h
    simp only [St.ev, Option.some.injEq] at hv
    subst hv
    exact (svOf_den hu E).symm
  | func f =>
    simp only [opd, Option.some.injEq] at h
    subst h
    simp only [St.ev, Option.some.injEq] at hv
    subst hv
    rfl
  | global g => simp [opd] at h

/-- the run of an operation yields so -/
def Yields1 (P : Program) (o : Oper) (a : Act) (E : Env) (w : World) (out : Out) : Prop :=
  (execOp a.eval o).run P w = .ok (.value (out.val.den E)) (out.world E w) ∨ ((execOp a.eval o).run P w = .ok .skip (out.world E w) ∧ out.val = .c (.v undef))

theorem pure1_ok {v : SV} {vc : Prop} {out : Out} (h : pure1 v = .ok vc out) : out = ⟨v, none, none⟩ := by
  simp only [pure1, Res.ok.injEq] at h
  exact h.2.symm
theorem world_pure (E : Env) (w : World) (v : SV) : (⟨v, none, none⟩ : Out).world E w = w := rfl

theorem bool?_den {x : SC} {b : Bool} (h : x.bool? = some b) (E : Env) : x.den E = .bool b := by
  cases x with
  | v y => cases y <;> simp only [SC.bool?, Option.some.injEq, reduceCtorEq] at h; subst h; rfl
  | bo e => simp only [SC.bool?, Option.some.injEq] at h; subst h; rfl
  | _ => simp [SC.bool?] at h

theorem cells_den {v : SV} {cs : List SC} (h : v.cells = some cs) (hx : ∀ i, (E.χ i).oneCell' = true) : (v.den E).cells = (cs.map (SC.den E)).toArray ∧ ∀ u ∈ cs.map (SC.den E), u.oneCell' = true := by
  have h1 : ∀ c : SC, c.one = true → (c.den E).oneCell' = true := by
    intro c hc
    cases c with
    | v x => exact hc
    | bo e => rfl
    | xv i => exact hx i
    | ptr => rfl
    | sl => rfl
    | ep i s k j => simp only [SC.den]; split <;> rfl
  cases v with
  | c x =>
    simp only [SV.cells] at h
    split at h
    · next hone =>
      simp only [Option.some.injEq] at h
      subst h
      have := h1 x hone
      refine ⟨?_, fun u hu => ?_⟩
      · simp only [SV.den, List.map_cons, List.map_nil]
        generalize x.den E = y at this
        cases y <;> first | rfl | (simp [Value.oneCell'] at this)
      · simp only [List.map_cons, List.map_nil, List.mem_singleton] at hu
        subst hu; exact this
    · cases h
  | agg l =>
    simp only [SV.cells] at h
    split at h
    · next hone =>
      simp only [Option.some.injEq] at h
      subst h
      refine ⟨rfl, fun u hu => ?_⟩
      obtain ⟨c, hc, rfl⟩ := List.mem_map.1 hu
      exact h1 c (allOne_mem hone c hc)
    · cases h
  | tup l => simp [SV.cells] at h

theorem ti_parts {t : Nat} {ti : TI} (hT : TOk P T) (h : look T t = some ti) : P.underlying t = some ti.desc ∧ ∃ i, P.info? t = some i ∧ i.zero = some ti.zero ∧ i.size = ti.size ∧ i.bytes = ti.bytes := by
  obtain ⟨h1, h2, _⟩ := hT t ti h
  exact ⟨h1, info_parts h2⟩

theorem run_sizeOf {t : Nat} {i : TypeInfo} (h : P.info? t = some i) (w : World) : (sizeOf t).run P w = .ok i.size w := by
  simp [sizeOf, typeInfo, h]
theorem run_zeroValue {t : Nat} {i : TypeInfo} {z : Value} (h : P.info? t = some i) (hz : i.zero = some z) (w : World) : (zeroValue t).run P w = .ok z w := by
  simp [zeroValue, typeInfo, h, hz]
theorem run_isAgg {t : Nat} {d : TypeDesc} (h : P.underlying t = some d) (w : World) : (isAgg t).run P w = .ok (isAggD d) w := by
  unfold isAgg
  simp only [Sem.run_bind, run_underlying h, Result.andThen_ok]
  cases d <;> rfl

theorem addr_add0 (b o : Nat) (j : Nat) : (⟨b, o, none⟩ : Addr).add j = ⟨b, o + j, none⟩ := by unfold Addr.add; split <;> simp_all

/-- a load of n cells -/
theorem run_ldv {t : Nat} {ti : TI} (hT : TOk P T) (ht : look T t = some ti) (b off : Nat) (cs : List Value) (hl : cs.length = ti.size)
    (hc : ∀ j u, cs[j]? = some u → w.cell? ⟨b, off + j, none⟩ = some u) :
    (Instr.loadAt t (.pointer (some ⟨b, off, none⟩))).run P w = .ok (if isAggD ti.desc then .agg cs.toArray else (cs[0]?).getD undef) w ∨ (isAggD ti.desc = false ∧ cs = []) := by
  obtain ⟨hu, i, hi, hz, hs, _⟩ := ti_parts hT ht
  cases hd : isAggD ti.desc with
  | true =>
    left
    have := run_loadCells_list (P := P) w ⟨b, off, none⟩ cs (fun j v hv => by rw [addr_add0]; exact hc j v hv)
    simp only [Instr.loadAt, Instr.sureAddr, Sem.run_bind, Sem.run_pure, Result.andThen_ok, loadVar, run_isAgg hu, hd, if_true, run_sizeOf hi, hs, ← hl, this]
  | false =>
    cases cs with
    | nil => right; exact ⟨rfl, rfl⟩
    | cons v r =>
      left
      have h0 := hc 0 v rfl
      rw [Nat.add_zero] at h0
      simp only [Instr.loadAt, Instr.sureAddr, Sem.run_bind, Sem.run_pure, Result.andThen_ok, loadVar, run_isAgg hu, hd, Bool.false_eq_true, if_false]
      simp [load, Sem.run, h0]

theorem own_cell (hs : Sat B w0 E S a w) {id : Nat} {cs : List SC} {ty : Nat} (h : look S.own id = some (cs, ty)) (j : Nat) : w.cell? ⟨E.ρ id, j, none⟩ = (cs[j]?).map (SC.den E) := by
  obtain ⟨_, hb⟩ := hs.own id cs ty h
  rw [cell_of_row w _ j _ ty (0, 0) hb]
  simp

theorem seg_get {α : Type} {l : List α} {off n j : Nat} {u : α} (h : (take' n (drop' off l))[j]? = some u) : l[off + j]? = some u := by
  rw [take'_eq, drop'_eq, List.getElem?_take] at h
  split at h
  · rw [List.getElem?_drop] at h; exact h
  · cases h

theorem seg_len {α : Type} {l : List α} {off n : Nat} (h : off + n ≤ len' l) : (take' n (drop' off l)).length = n := by
  rw [len'_eq] at h
  rw [take'_eq, drop'_eq, List.length_take, List.length_drop]; omega

theorem step_ld {t : Nat} {x : Operand} {ix : IX} {ti : TI} (hT : TOk P T) (ht : look T t = some ti) (hx : opd x = some ix) {vc : Prop} {out : Out}
    (h : stepOut (.ld (isAggD ti.desc) ti.size ix) S = .ok vc out) (hvc : vc) (hs : Sat B w0 E S a w) :
    (Instr.loadAt t (a.eval x)).run P w = .ok (out.val.den E) w ∧ out.new = none ∧ out.wr = none := by
  simp only [stepOut] at h
  split at h
  · next id off hev =>
    have hex := opd_den hs hx hev
    split at h
    · next cs ty hlook =>
      rw [hex]
      simp only [den_c, den_ptr]
      have hoc := own_cell hs hlook
      cases hd : isAggD ti.desc with
      | true =>
        rw [hd, if_pos rfl] at h
        split at h
        · next hfit =>
          have := pure1_ok h; subst this
          refine ⟨?_, rfl, rfl⟩
          have := run_ldv (P := P) (w := w) hT ht (E.ρ id) off ((take' ti.size (drop' off cs)).map (SC.den E)) (by rw [List.length_map, seg_len hfit]) (fun j u hu => by
            rw [List.getElem?_map, Option.map_eq_some_iff] at hu
            obtain ⟨c, hc, rfl⟩ := hu
            rw [hoc, seg_get hc]; rfl)
          rw [hd] at this
          simpa [den_agg] using this
        · cases h
      | false =>
        rw [hd, if_neg (by simp)] at h
        split at h
        · next c hn =>
          have := pure1_ok h; subst this
          refine ⟨?_, rfl, rfl⟩
          rw [nth_eq] at hn
          obtain ⟨hu, i, hi, hz, hsz, _⟩ := ti_parts hT ht
          simp only [Instr.loadAt, Instr.sureAddr, Sem.run_bind, Sem.run_pure, Result.andThen_ok, loadVar, run_isAgg hu, hd, Bool.false_eq_true, if_false]
          simp [load, Sem.run, hoc, hn, den_c]
        · cases h
    · cases h
  · next i s k j hev =>
    have hex := opd_den hs hx hev
    split at h
    · next A hlook =>
      obtain ⟨F, _, _, hF, _⟩ := hs.foot
      obtain ⟨ba, cap, hχ, hl, hm, hcell⟩ := (hF w (fun _ _ => rfl)).1 i A hlook
      rw [hex]
      simp only [SV.den, SC.den, hχ]
      cases hd : isAggD ti.desc with
      | true =>
        rw [hd, if_pos rfl] at h
        simp only [Res.ok.injEq] at h
        obtain ⟨rfl, rfl⟩ := h
        obtain ⟨hk, hsz, hj⟩ := hvc
        rcases hcell with h0 | ⟨b, off, rfl, hcell⟩
        · omega
        obtain ⟨hlen, hcell⟩ := hcell k hk
        refine ⟨?_, rfl, rfl⟩
        have := run_ldv (P := P) (w := w) hT ht b (off + k * s + j) (take' ti.size (drop' j (A.at_ k))) (seg_len (by rw [len'_eq, hlen]; omega)) (fun q u hu => by
            have := hcell (j + q) u (seg_get hu)
            rw [hsz] at this
            rw [show off + k * s + j + q = off + k * s + (j + q) by omega]; exact this)
        rw [hd] at this
        simpa [den_agg, den_v, Function.comp_def] using this
      | false =>
        rw [hd, if_neg (by simp)] at h
        split at h
        · next c hn =>
          simp only [Res.ok.injEq] at h
          obtain ⟨rfl, rfl⟩ := h
          obtain ⟨hk, hsz⟩ := hvc
          rcases hcell with h0 | ⟨b, off, rfl, hcell⟩
          · omega
          obtain ⟨hlen, hcell⟩ := hcell k hk
          refine ⟨?_, rfl, rfl⟩
          rw [nth_eq] at hn
          have hc := hcell j c hn
          rw [hsz] at hc
          obtain ⟨hu, i, hi, hz, hsz', _⟩ := ti_parts hT ht
          simp only [Instr.loadAt, Instr.sureAddr, Sem.run_bind, Sem.run_pure, Result.andThen_ok, loadVar, run_isAgg hu, hd, Bool.false_eq_true, if_false]
          simp [load, Sem.run, hc]
        · cases h
    · cases h
  · cases h

theorem put_eq (l : List SC) (off : Nat) (cs : List SC) : put l off cs = l.take off ++ cs ++ l.drop (off + cs.length) := by
  simp [put, take'_eq, drop'_eq, len'_eq]

theorem step_st {t : Nat} {x y : Operand} {ix iy : IX} {ti : TI} (hT : TOk P T) (ht : look T t = some ti) (hx : opd x = some ix) (hy : opd y = some iy) {vc : Prop} {out : Out}
    (h : stepOut (.st ti.size ix iy) S = .ok vc out) (hs : Sat B w0 E S a w) :
    (Instr.storeAt t (a.eval x) (a.eval y)).run P w = .ok () (out.world E w) ∧ out.val = .c (.v undef) ∧ out.new = none := by
  simp only [stepOut] at h
  split at h
  · next id off v hev hev2 =>
    have hex := opd_den hs hx hev
    have hey := opd_den hs hy hev2
    split at h
    · next cs ty new hlook hcells =>
      split at h
      · next hfit =>
        simp only [Res.ok.injEq] at h
        obtain ⟨_, rfl⟩ := h
        refine ⟨?_, rfl, rfl⟩
        obtain ⟨hn, hle⟩ := hfit
        rw [len'_eq] at hn hle
        obtain ⟨hcd, hone⟩ := cells_den hcells hs.one
        obtain ⟨hu, i, hi, hz, hsz, _⟩ := ti_parts hT ht
        obtain ⟨_, hb⟩ := hs.own id cs ty hlook
        rw [hex, hey]
        have hst := run_storeCells_at (P := P) (E.ρ id) off ty (new.map (SC.den E)) 0 _ w hb (by simp; omega) hone
        simp only [den_c, den_ptr, Instr.storeAt, Instr.sureAddr, Sem.run_bind, Sem.run_pure, Result.andThen_ok, storeVar, run_sizeOf hi, hcd, List.size_toArray, List.length_map, hn, hsz, ne_eq, not_true_eq_false, if_false]
        rw [hst]
        simp only [Out.world, put_eq, Nat.add_zero, List.length_map, List.map_append, List.map_take, List.map_drop]
      · cases h
    · cases h
  · cases h

theorem foldl_set (off : Nat) : ∀ (vs : List Value) (i : Nat) (cs : List Value), off + i + vs.length ≤ cs.length →
    (vs.zipIdx i).foldl (fun (cs : Array Value) (p : Value × Nat) => cs.setIfInBounds (off + p.2) p.1) cs.toArray = (cs.take (off + i) ++ vs ++ cs.drop (off + i + vs.length)).toArray
  | [], i, cs, _ => by simp
  | v :: r, i, cs, h => by
    simp only [List.length_cons] at h
    have hset : cs.toArray.setIfInBounds (off + i) v = (cs.set (off + i) v).toArray := by simp
    rw [List.zipIdx_cons, List.foldl_cons, hset, foldl_set off r (i + 1) (cs.set (off + i) v) (by rw [List.length_set]; omega)]
    congr 1
    apply List.ext_getElem?
    intro j
    simp only [List.append_assoc, List.getElem?_append, List.length_take, List.length_set, List.getElem?_take, List.getElem?_drop, List.length_cons, List.getElem?_set, List.getElem?_cons]
    rw [show min (off + (i + 1)) cs.length = off + i + 1 by omega, show min (off + i) cs.length = off + i by omega]
    by_cases h1 : j < off + i
    · rw [if_pos (show j < off + i + 1 by omega), if_pos (show j < off + (i + 1) by omega), if_neg (by omega), if_pos h1, if_pos h1]
    · by_cases h2 : j = off + i
      · subst h2
        rw [if_pos (by omega), if_pos (by omega), if_pos rfl, if_pos (by omega), if_neg (by omega), if_pos (by omega), if_pos (by omega)]
      · rw [if_neg (show ¬ j < off + i + 1 by omega), if_neg h1]
        by_cases h3 : j - (off + i + 1) < r.length
        · rw [if_pos h3, if_pos (show j - (off + i) < r.length + 1 by omega), if_neg (by omega), show j - (off + i) - 1 = j - (off + i + 1) by omega]
        · rw [if_neg h3, if_neg (show ¬ j - (off + i) < r.length + 1 by omega), if_neg (by omega)]
          congr 1
          omega

theorem fill_ok {place : Nat → Option (Nat × Nat)} (hx : ∀ i, (E.χ i).oneCell' = true) :
    ∀ (ps : List (Nat × Nat × IX)) (qs : List (Nat × Operand)) (z cs : List SC), (∀ (i : Nat) (p : Nat × Nat × IX), ps[i]? = some p → ∃ q : Nat × Operand, qs[i]? = some q ∧ place q.1 = some (p.1, p.2.1) ∧ ∀ v, S.ev p.2.2 = some v → a.eval q.2 = v.den E) → qs.length = ps.length →
    fillP S ps z = some cs → Instr.fill place (z.map (SC.den E)).toArray (qs.map fun q => (q.1, a.eval q.2)) = some (cs.map (SC.den E)).toArray
  | [], qs, z, cs, _, hl, h => by
    have : qs = [] := List.eq_nil_of_length_eq_zero hl
    subst this
    simp only [fillP, Option.some.injEq] at h
    subst h
    rfl
  | (off, size, x) :: r, [], z, cs, _, hl, h => by simp at hl
  | (off, size, x) :: r, (i, y) :: qs, z, cs, hp, hl, h => by
    obtain ⟨q, hq, hpl, hev⟩ := hp 0 (off, size, x) rfl
    simp only [List.getElem?_cons_zero, Option.some.injEq] at hq
    subst hq
    simp only [fillP] at h
    split at h
    · next v hv =>
      split at h
      · next ws hws =>
        split at h
        · next hfit =>
          obtain ⟨h1, h2⟩ := hfit
          rw [len'_eq] at h1 h2
          have e := hev v hv
          obtain ⟨hcd, _⟩ := cells_den hws hx
          simp only [List.map_cons, Instr.fill]
          simp only at hpl e
          rw [hpl]
          simp only [e, hcd, List.size_toArray, List.length_map, h1, ne_eq, not_true_eq_false, Bool.or_eq_true, decide_eq_true_eq]
          rw [if_neg (by simp; omega)]
          have hf := foldl_set off (ws.map (SC.den E)) 0 (z.map (SC.den E)) (by simp; omega)
          have hz : ((ws.map (SC.den E)).toArray.zipIdx).foldl (fun (cs : Array Value) (p : Value × Nat) => cs.setIfInBounds (off + p.2) p.1) (z.map (SC.den E)).toArray = ((put z off ws).map (SC.den E)).toArray := by
            rw [← Array.foldl_toList]
            simp only [Array.toList_zipIdx]
            rw [hf, put_eq]
            simp
          rw [hz]
          exact fill_ok hx r qs _ _ (fun i p hi => hp (i + 1) p hi) (by simpa using hl) h
        · cases h
      · cases h
    · cases h
end
end Go.Proofs.Ytgljbdcamagdbaa
