/- Each operation of the short form: its run is what 'stepOut' tells. No statement of the program. -/
import Derived.Test.YtgljbdcamagdbaaSymB
namespace Go.Proofs.Ytgljbdcamagdbaa
open Go.RowKit

section
variable {P : Program} {T : TT} {B : Nat} {w0 : World} {E : Env} {S : St} {a : Act} {w : World}

theorem structParts_spec {fs : Array Field} : ∀ (qs : List (Nat × Operand)) (ps : List (Nat × Nat × IX)), structParts T fs qs = some ps →
    qs.length = ps.length ∧ ∀ (i : Nat) (p : Nat × Nat × IX), ps[i]? = some p → ∃ (q : Nat × Operand) (f : Field) (ti : TI), qs[i]? = some q ∧ fs[q.1]? = some f ∧ look T f.type = some ti ∧ p.1 = f.offset ∧ p.2.1 = ti.size ∧ opd q.2 = some p.2.2
  | [], ps, h => by
    simp only [structParts, Option.some.injEq] at h
    subst h
    exact ⟨rfl, fun i p hp => by simp at hp⟩
  | (i, x) :: r, ps, h => by
    simp only [structParts, Option.bind_eq_some_iff, Option.map_eq_some_iff] at h
    obtain ⟨f, hf, ti, hti, a, ha, qs', hr, rfl⟩ := h
    obtain ⟨hl, hs⟩ := structParts_spec r qs' hr
    refine ⟨by simp [hl], fun j p hp => ?_⟩
    cases j with
    | zero =>
      simp only [List.getElem?_cons_zero, Option.some.injEq] at hp
      subst hp
      exact ⟨(i, x), f, ti, rfl, hf, hti, rfl, rfl, ha⟩
    | succ j => exact hs j p hp

theorem rowParts_spec {size : Nat} : ∀ (qs : List (Nat × Operand)) (ps : List (Nat × Nat × IX)), rowParts size qs = some ps →
    qs.length = ps.length ∧ ∀ (i : Nat) (p : Nat × Nat × IX), ps[i]? = some p → ∃ q : Nat × Operand, qs[i]? = some q ∧ p.1 = q.1 * size ∧ p.2.1 = size ∧ opd q.2 = some p.2.2
  | [], ps, h => by
    simp only [rowParts, Option.some.injEq] at h
    subst h
    exact ⟨rfl, fun i p hp => by simp at hp⟩
  | (i, x) :: r, ps, h => by
    simp only [rowParts, Option.bind_eq_some_iff, Option.map_eq_some_iff] at h
    obtain ⟨a, ha, qs', hr, rfl⟩ := h
    obtain ⟨hl, hs⟩ := rowParts_spec r qs' hr
    refine ⟨by simp [hl], fun j p hp => ?_⟩
    cases j with
    | zero =>
      simp only [List.getElem?_cons_zero, Option.some.injEq] at hp
      subst hp
      exact ⟨(i, x), rfl, rfl, rfl, ha⟩
    | succ j => exact hs j p hp

theorem allIn_mem : ∀ {fs : List Field}, allIn T fs = true → ∀ f ∈ fs, ∃ ti, look T f.type = some ti
  | [], _, f, h => by cases h
  | g :: r, h, f, hf => by
    simp only [allIn, Bool.and_eq_true, Option.isSome_iff_exists] at h
    rcases List.mem_cons.1 hf with rfl | hf
    · exact h.1
    · exact allIn_mem h.2 f hf

theorem places_get {fs : List Field} {places : List (Nat × Nat)} (h : fs.mapM (fun f => (P.info? f.type).map fun i => (f.offset, i.size)) = some places) :
    ∀ (i : Nat) (f : Field), fs[i]? = some f → ∃ t, P.info? f.type = some t ∧ places[i]? = some (f.offset, t.size) := by
  induction fs generalizing places with
  | nil => intro i f hf; simp at hf
  | cons g r ih =>
    simp only [List.mapM_cons, Option.bind_eq_bind, Option.pure_def, Option.bind_eq_some_iff, Option.map_eq_some_iff, Option.some.injEq] at h
    obtain ⟨_, ⟨t, ht, rfl⟩, ps, hps, rfl⟩ := h
    intro i f hf
    cases i with
    | zero =>
      simp only [List.getElem?_cons_zero, Option.some.injEq] at hf
      subst hf
      exact ⟨t, ht, rfl⟩
    | succ i => exact ih hps i f hf

theorem places_all {fs : List Field} (h : ∀ f ∈ fs, ∃ t, P.info? f.type = some t) : ∃ places, fs.mapM (fun f => (P.info? f.type).map fun i => (f.offset, i.size)) = some places := by
  induction fs with
  | nil => exact ⟨[], rfl⟩
  | cons g r ih =>
    obtain ⟨t, ht⟩ := h g (by simp)
    obtain ⟨ps, hps⟩ := ih (fun f hf => h f (by simp [hf]))
    exact ⟨(g.offset, t.size) :: ps, by simp [List.mapM_cons, ht, hps]⟩

theorem run_binI {op : BinOp} {k : IntKind} {x y : Int} {t : Nat} {vc : Prop} {out : Out} (h : binI op k x y = .ok vc out) (hvc : vc) :
    (binOp op t (.int k x) (.int k y)).run P w = .ok (out.val.den E) w ∧ out.new = none ∧ out.wr = none := by
  cases op <;> simp only [binI, pure1, Res.ok.injEq, reduceCtorEq] at h <;> obtain ⟨rfl, rfl⟩ := h <;> refine ⟨?_, rfl, rfl⟩ <;>
    first
    | (simp [binOp, Op.intArith, Op.intBits, Op.intCmp, SV.den, SC.den]; done)
    | (simp [binOp, Op.intDiv, hvc, SV.den, SC.den]; done)
    | (simp only [binOp, ne_eq, not_true_eq_false, if_false, intBits_and, intBits_or, intBits_xor, intBits_andNot]; rfl)

theorem run_eqGuard_int {op : BinOp} {k : IntKind} {x : Int} {t : Nat} {p q : Operand} {v : Value} : (eqGuard op t p q (.int k x) v).run P w = .ok () w := by
  rw [eqGuard_at_int]; rfl

theorem eqCells_true {ks : List Bool} {a0 b0 : SC} {us vs : List SC} {r : Bool} (h : eqCells (true :: ks) (a0 :: us) (b0 :: vs) = some r) :
    ∃ k a b r', a0 = .v (.int k a) ∧ b0 = .v (.int k b) ∧ eqCells ks us vs = some r' ∧ r = ((a == b) && r') := by
  cases a0 with
  | v x => cases x with
    | int k a => cases b0 with
      | v y => cases y with
        | int k' b =>
          simp only [eqCells] at h
          split at h
          · next hk =>
            subst hk
            simp only [Option.map_eq_some_iff] at h
            obtain ⟨r', hr', rfl⟩ := h
            exact ⟨k, a, b, r', rfl, rfl, hr', rfl⟩
          · cases h
        | _ => simp [eqCells] at h
      | _ => simp [eqCells] at h
    | _ => simp [eqCells] at h
  | _ => simp [eqCells] at h
theorem eqCells_false {ks : List Bool} {a0 b0 : SC} {us vs : List SC} {r : Bool} (h : eqCells (false :: ks) (a0 :: us) (b0 :: vs) = some r) :
    ∃ a b r', a0.bool? = some a ∧ b0.bool? = some b ∧ eqCells ks us vs = some r' ∧ r = ((a == b) && r') := by
  simp only [eqCells] at h
  split at h
  · next a b ha hb =>
    simp only [Option.map_eq_some_iff] at h
    obtain ⟨r', hr', rfl⟩ := h
    exact ⟨a, b, r', ha, hb, hr', rfl⟩
  · cases h

theorem eqFields_ok (xs ys : List SC) (d : Nat) (hd : 0 < d) : ∀ (ks : List Bool) (fs : List Field) (i : Nat) (us vs : List SC) (r : Bool), flatFields P ks fs i → us = xs.drop i → vs = ys.drop i →
    eqCells ks us vs = some r → (Op.eqFields d (xs.map (SC.den E)).toArray (ys.map (SC.den E)).toArray fs).run P w = .ok r w := by
  intro ks
  induction ks with
  | nil =>
    intro fs i us vs r hf _ _ h
    cases fs with
    | cons => simp [flatFields] at hf
    | nil =>
      cases us <;> cases vs <;> simp only [eqCells, Option.some.injEq, reduceCtorEq] at h
      subst h
      rfl
  | cons b ks ih =>
    intro fs i us vs r hf ha hb h
    cases fs with
    | nil => simp [flatFields] at hf
    | cons f fs =>
    obtain ⟨hn, ho, hu, hrest⟩ := hf
    have hpart : ∀ (zs : List SC) (c : SC), zs[i]? = some c → (part f.type (zs.map (SC.den E)).toArray f.offset).run P w = .ok (c.den E) w := by
      intro zs c hc
      have hag : (isAgg f.type).run P w = .ok false w := by
        cases b with
        | true => obtain ⟨k, hk⟩ := hu; exact run_isAgg hk w
        | false => exact run_isAgg hu w
      simp only [part, Sem.run_bind, hag, Result.andThen_ok, Bool.false_eq_true, if_false, ho]
      simp [hc]
    match us, vs with
    | [], _ => cases b <;> simp [eqCells] at h
    | _ :: _, [] => cases b <;> simp [eqCells] at h
    | a0 :: us, b0 :: vs =>
      have ha0 : xs[i]? = some a0 := by have := congrArg (·[0]?) ha; simpa using this.symm
      have hb0 : ys[i]? = some b0 := by have := congrArg (·[0]?) hb; simpa using this.symm
      have ha1 : us = xs.drop (i + 1) := by have := congrArg List.tail ha; simpa using this
      have hb1 : vs = ys.drop (i + 1) := by have := congrArg List.tail hb; simpa using this
      obtain ⟨m, rfl⟩ : ∃ m, d = m + 1 := ⟨d - 1, by omega⟩
      simp only [Op.eqFields, hn, ne_eq, not_false_eq_true, if_true, Sem.run_bind, hpart xs a0 ha0, hpart ys b0 hb0, Result.andThen_ok]
      have fin : ∀ (u v : Value) (e r' : Bool), a0.den E = u → b0.den E = v → (Op.equalIn (m + 1) f.type u v).run P w = .ok e w → eqCells ks us vs = some r' → r = (e && r') →
          Result.andThen ((Op.equalIn (m + 1) f.type (SC.den E a0) (SC.den E b0)).run P w) (fun x => Sem.run P (if (!x) = true then pure false else Op.eqFields (m + 1) (xs.map (SC.den E)).toArray (ys.map (SC.den E)).toArray fs)) = .ok r w := by
        intro u v e r' hu' hv' he hr' hrr
        rw [hu', hv', he]
        simp only [Result.andThen_ok]
        cases e with
        | true => simpa [hrr] using ih fs (i + 1) us vs r' hrest ha1 hb1 hr'
        | false => simp [hrr]
      cases b with
      | true =>
        obtain ⟨kk, hu⟩ := hu
        obtain ⟨k, p, q, r', e1, e2, hr', hr⟩ := eqCells_true h
        exact fin _ _ _ r' (by rw [e1]; rfl) (by rw [e2]; rfl) (run_equalIn_int w m f.type k kk p q hu) hr' hr
      | false =>
        obtain ⟨p, q, r', e1, e2, hr', hr⟩ := eqCells_false h
        exact fin _ _ _ r' (bool?_den e1 E) (bool?_den e2 E) (run_equalIn_bool' w m f.type p q hu) hr' hr

theorem world_none {out : Out} (h1 : out.new = none) (h2 : out.wr = none) : out.world E w = w := by
  unfold Out.world; rw [h1, h2]

theorem step_ok (hT : TOk P T) {o : Oper} {op : IOp} (hc : compOp T o.op = some op) {vc : Prop} {out : Out} (h : stepOut op S = .ok vc out) (hvc : vc)
    (hs : Sat B w0 E S a w) (hn : out.new.isSome = true → E.ρ S.nid = w.heap.size) : Yields1 P o a E w out := by
  have val : ∀ {v : Value}, (do pure (Next.value (← (pure v : Sem Value))) : Sem Next).run P w = .ok (.value v) w := rfl
  unfold Yields1 execOp
  cases hop : o.op <;> rw [hop] at hc <;> simp only [compOp, reduceCtorEq] at hc
  case move x | assign x =>
    simp only [Option.map_eq_some_iff] at hc
    obtain ⟨ix, hx, rfl⟩ := hc
    simp only [stepOut] at h
    split at h
    · next v hv =>
      have := pure1_ok h; subst this
      left
      simp only [opd_den hs hx hv]
      rfl
    · cases h
  case pick c p q =>
    simp only [Option.bind_eq_some_iff, Option.map_eq_some_iff] at hc
    obtain ⟨ic, hcc, ip, hp, iq, hq, rfl⟩ := hc
    simp only [stepOut] at h
    split at h
    · next hev =>
      split at h
      · next v hv =>
        have := pure1_ok h; subst this
        left
        simp only [opd_den hs hcc hev, den_c, den_v, asBool, opd_den hs hp hv]
        rfl
      · cases h
    · next hev =>
      split at h
      · next v hv =>
        have := pure1_ok h; subst this
        left
        simp only [opd_den hs hcc hev, den_c, den_v, asBool, opd_den hs hq hv]
        rfl
      · cases h
    · next e hev =>
      split at h
      · next x y hx hy =>
        split at h
        · next p' q' hp' hq' =>
          have := pure1_ok h; subst this
          left
          have d1 : a.eval p = .bool p' := (opd_den hs hp hx).trans (bool?_den hp' E)
          have d2 : a.eval q = .bool q' := (opd_den hs hq hy).trans (bool?_den hq' E)
          have db : a.eval c = .bool e := opd_den hs hcc hev
          cases e
          · simp only [db, asBool, d2]
            rfl
          · simp only [db, asBool, d1]
            rfl
        · cases h
      · cases h
    · cases h
  case alloc e =>
    simp only [Option.map_eq_some_iff] at hc
    obtain ⟨ti, hti, rfl⟩ := hc
    simp only [stepOut, Res.ok.injEq] at h
    obtain ⟨_, rfl⟩ := h
    obtain ⟨hu, i, hi, hz, hsz, _⟩ := ti_parts hT hti
    left
    have e1 := hn rfl
    simp only [Instr.alloc, newVar, newRow, Sem.run_bind, run_zeroValue hi hz, Result.andThen_ok, run_newObj_alloc, Sem.run_pure, den_c, den_ptr, e1, Out.world, scs_den]
  case box e x =>
    simp only [Option.map_eq_some_iff] at hc
    obtain ⟨ix, hx, rfl⟩ := hc
    simp only [stepOut] at h
    split at h
    · next v hv =>
      split at h
      · next cs hcs =>
        simp only [Res.ok.injEq] at h
        obtain ⟨_, rfl⟩ := h
        left
        have e1 := hn rfl
        simp only [Instr.box, newVar, newRow, Sem.run_bind, Result.andThen_ok, run_newObj_alloc, Sem.run_pure, den_c, den_ptr, e1, Out.world, opd_den hs hx hv, (cells_den hcs hs.one).1]
      · cases h
    · cases h
  case build t parts =>
    simp only [Option.bind_eq_some_iff] at hc
    obtain ⟨ti, hti, hc⟩ := hc
    split at hc
    · next fs hfs =>
      split at hc
      · next hall =>
        simp only [Option.map_eq_some_iff] at hc
        obtain ⟨ps, hps, rfl⟩ := hc
        simp only [stepOut] at h
        split at h
        · next cs hcs =>
          have := pure1_ok h; subst this
          obtain ⟨hu, i, hi, hz, hsz, _⟩ := ti_parts hT hti
          obtain ⟨hl, hsp⟩ := structParts_spec _ _ hps
          obtain ⟨places, hpl⟩ := places_all (P := P) (fs := fs.toList) (fun f hf => by
            obtain ⟨tf, htf⟩ := allIn_mem hall f hf
            obtain ⟨_, i, hi, _⟩ := ti_parts hT htf
            exact ⟨i, hi⟩)
          left
          have hfill := fill_ok (E := E) (S := S) (a := a) (place := (places.toArray[·]?)) hs.one ps parts.toList (scs ti.zero.cells) cs (fun j p hp => by
            obtain ⟨q, f, tf, hq, hf, htf, e1, e2, ho⟩ := hsp j p hp
            refine ⟨q, hq, ?_, fun v hv => opd_den hs ho hv⟩
            obtain ⟨tt, ht1, ht2⟩ := places_get hpl q.1 f (by simpa using hf)
            obtain ⟨_, i', hi', _, hs', _⟩ := ti_parts hT htf
            rw [hi'] at ht1
            cases ht1
            simp only [List.getElem?_toArray, ht2, e1, e2, hs']) hl hcs
          rw [scs_den] at hfill
          have hb : P.built t (parts.map fun (i, x) => (i, a.eval x)).toList = some (cs.map (SC.den E)).toArray := by
            unfold Program.built
            rw [hi, hu, hfs]
            simp only [hz, hpl]
            simpa using hfill
          simp only [Sem.run_bind, run_build w t _ _ hb, Result.andThen_ok]
          rfl
        · cases h
      · cases hc
    · cases hc
  case buildSlice t len parts =>
    simp only [Option.bind_eq_some_iff] at hc
    obtain ⟨ti, hti, hc⟩ := hc
    split at hc
    · next e he =>
      simp only [Option.bind_eq_some_iff] at hc
      obtain ⟨te, hte, hc⟩ := hc
      split at hc
      · next hsm =>
        simp only [Option.map_eq_some_iff] at hc
        obtain ⟨ps, hps, rfl⟩ := hc
        simp only [stepOut] at h
        split at h
        · next cs hcs =>
          simp only [Res.ok.injEq] at h
          obtain ⟨_, rfl⟩ := h
          have e1 := hn rfl
          obtain ⟨hu, i, hi, hz, hsz, _⟩ := ti_parts hT hti
          obtain ⟨_, ie, hie, hze, hse, _⟩ := ti_parts hT hte
          obtain ⟨hl, hsp⟩ := rowParts_spec _ _ hps
          left
          have hfill := fill_ok (E := E) (S := S) (a := a) (place := fun i => some (i * te.size, te.size)) hs.one ps parts.toList (rowZero (len * te.size) te.zero) cs (fun j p hp => by
            obtain ⟨q, hq, e1, e2, ho⟩ := hsp j p hp
            exact ⟨q, hq, by simp [e1, e2], fun v hv => opd_den hs ho hv⟩) hl hcs
          have hr0 : ((rowZero (len * te.size) te.zero).map (SC.den E)).toArray = (Array.range (len * te.size)).map (fun j => te.zero.cells[j % te.zero.cells.size]!) := by
            apply Array.ext'
            simp [rowZero, Function.comp_def, SC.den]
          have hr1 : ∀ f : Nat → Value, (Array.range 0).map f = #[] := by simp
          rw [hr0] at hfill
          have hu' : P.underlying t = some (.slice e) := by rw [hu, he]
          have hparts : (parts.map fun (i, x) => (i, a.eval x)).toList = parts.toList.map fun q => (q.1, a.eval q.2) := by simp
          by_cases h0 : len * te.size = 0
          · rw [h0, hr1] at hfill
            simp only [Instr.buildSlice, run_underlying hu', run_sizeOf hie, hse, Sem.run_bind, Result.andThen_ok, h0, show ¬ (0 : Nat) > 2 ^ 24 by decide, if_false, if_true, Sem.run_pure, hparts, hr1, hfill]
            simp only [newRow, Sem.run_bind, run_newObj_alloc, Result.andThen_ok, Sem.run_pure, den_c, den_sl, e1, Out.world]
          · simp only [Instr.buildSlice, run_underlying hu', run_sizeOf hie, hse, Sem.run_bind, Result.andThen_ok, show ¬ len * te.size > 2 ^ 24 by omega, if_false, h0, run_zeroValue hie hze, Sem.run_pure, hparts]
            rw [hfill]
            simp only [newRow, Sem.run_bind, run_newObj_alloc, Result.andThen_ok, Sem.run_pure, den_c, den_sl, e1, Out.world]
        · cases h
      · cases hc
    · cases hc
  case load t x =>
    simp only [Option.bind_eq_some_iff, Option.map_eq_some_iff] at hc
    obtain ⟨ti, hti, ix, hx, rfl⟩ := hc
    obtain ⟨h1, h2, h3⟩ := step_ld hT hti hx h hvc hs
    left
    simp only [Sem.run_bind, h1, Result.andThen_ok, Sem.run_pure, world_none h2 h3]
  case store t x y =>
    simp only [Option.bind_eq_some_iff, Option.map_eq_some_iff] at hc
    obtain ⟨ti, hti, ix, hx, iy, hy, rfl⟩ := hc
    obtain ⟨h1, h2, _⟩ := step_st hT hti hx hy h hs
    right
    exact ⟨by simp only [Sem.run_bind, h1, Result.andThen_ok, Sem.run_pure], h2⟩
  case nilCheck x =>
    simp only [Option.map_eq_some_iff] at hc
    obtain ⟨ix, hx, rfl⟩ := hc
    simp only [stepOut] at h
    split at h
    · next hev =>
      have := pure1_ok h; subst this
      left
      simp only [opd_den hs hx hev, den_c, den_ptr]
      rfl
    · cases h
  case binOp op t x y yt =>
    simp only [Option.bind_eq_some_iff] at hc
    obtain ⟨ti, hti, ix, hx, iy, hy, hc⟩ := hc
    obtain ⟨hu, i, hi, hz, hsz, _⟩ := ti_parts hT hti
    have ebool : ∀ (neg : Bool), stepOut (.eqb neg ix iy) S = .ok vc out → ti.desc = .bool → (op = .eql ∧ neg = false ∨ op = .neq ∧ neg = true) →
        (do pure (Next.value (← (do eqGuard op t x y (a.eval x) (a.eval y); binOp op t (a.eval x) (a.eval y)))) : Sem Next).run P w = .ok (.value (out.val.den E)) (out.world E w) := by
      intro neg h hd ho
      simp only [stepOut] at h
      split at h
      · next p q hp hq =>
        split at h
        · next p' q' hp' hq' =>
          have := pure1_ok h; subst this
          simp only [opd_den hs hx hp, opd_den hs hy hq, den_c, bool?_den hp' E, bool?_den hq' E, den_b, eqGuard_at_bool]
          have := run_equalIn_bool' w 9999 t p' q' (by rw [hu, hd])
          rcases ho with ⟨rfl, rfl⟩ | ⟨rfl, rfl⟩
          · simp [binOp, Op.equal, Op.maxDepth, this, neg?, Out.world]
          · simp [binOp, Op.equal, Op.maxDepth, this, neg?, Out.world]
        · cases h
      · cases h
    have eagg : ∀ (neg : Bool), stepOut (.eqa neg ti.flat ix iy) S = .ok vc out → ti.flat ≠ [] → (op = .eql ∧ neg = false ∨ op = .neq ∧ neg = true) →
        (do pure (Next.value (← (do eqGuard op t x y (a.eval x) (a.eval y); binOp op t (a.eval x) (a.eval y)))) : Sem Next).run P w = .ok (.value (out.val.den E)) (out.world E w) := by
      intro neg h hfl ho
      simp only [stepOut] at h
      split at h
      · next p q hp hq =>
        split at h
        · next r hr =>
          have := pure1_ok h; subst this
          obtain ⟨_, _, h3⟩ := hT t ti hti
          obtain ⟨h4, h5, fs, h6, h7⟩ := h3 hfl
          have hg := run_eqGuard_agg w op t x y (p.map (SC.den E)).toArray (q.map (SC.den E)).toArray h5
          have hst : P.underlying t = some (.struct (P.fieldsOf t)) := by
            unfold Program.fieldsOf
            rw [hu, h6]
          have hfs : P.fieldsOf t = fs := by
            unfold Program.fieldsOf
            rw [hu, h6]
          have he := run_equalIn_struct w 9999 t (p.map (SC.den E)).toArray (q.map (SC.den E)).toArray hst h4
          rw [hfs, eqFields_ok p q 9999 (by omega) ti.flat fs.toList 0 p q r h7 (by simp) (by simp) hr] at he
          simp only [opd_den hs hx hp, opd_den hs hy hq, den_agg, den_c, den_b, Sem.run_bind, hg, Result.andThen_ok]
          rcases ho with ⟨rfl, rfl⟩ | ⟨rfl, rfl⟩
          · simp [binOp, Op.equal, Op.maxDepth, he, neg?, Out.world]
          · simp [binOp, Op.equal, Op.maxDepth, he, neg?, Out.world]
        · cases h
      · cases h
    left
    split at hc
    · simp only [Option.some.injEq] at hc
      subst hc
      simp only [stepOut] at h
      split at h
      · next k p k' q hp hq =>
        split at h
        · next hk =>
          subst hk
          obtain ⟨h1, h2, h3⟩ := run_binI (P := P) (E := E) (w := w) (t := t) h hvc
          simp only [opd_den hs hx hp, opd_den hs hy hq, den_c, den_v, Sem.run_bind, run_eqGuard_int, Result.andThen_ok, h1, Sem.run_pure, world_none h2 h3]
        · cases h
      · cases h
    · next hd =>
      simp only [Option.some.injEq] at hc
      subst hc
      exact ebool false h hd (Or.inl ⟨rfl, rfl⟩)
    · next hd =>
      simp only [Option.some.injEq] at hc
      subst hc
      exact ebool true h hd (Or.inr ⟨rfl, rfl⟩)
    · split at hc
      · cases hc
      · next hfl =>
        simp only [Option.some.injEq] at hc
        subst hc
        exact eagg false h (by simpa using hfl) (Or.inl ⟨rfl, rfl⟩)
    · split at hc
      · cases hc
      · next hfl =>
        simp only [Option.some.injEq] at hc
        subst hc
        exact eagg true h (by simpa using hfl) (Or.inr ⟨rfl, rfl⟩)
    · cases hc
  case unOp op t x =>
    simp only [Option.map_eq_some_iff] at hc
    obtain ⟨ix, hx, rfl⟩ := hc
    simp only [stepOut] at h
    split at h
    · next b hev =>
      have := pure1_ok h; subst this
      left
      simp only [opd_den hs hx hev, den_c, den_v]
      rfl
    · next b hev =>
      have := pure1_ok h; subst this
      left
      simp only [opd_den hs hx hev, den_c, den_b]
      rfl
    · next k n hev =>
      have := pure1_ok h; subst this
      left
      simp only [opd_den hs hx hev, den_c, den_v]
      rfl
    · cases h
  case convert s d x =>
    simp only [Option.bind_eq_some_iff] at hc
    obtain ⟨ts, hts, td, htd, hc⟩ := hc
    split at hc
    · next ks kd hds hdd =>
      simp only [Option.map_eq_some_iff] at hc
      obtain ⟨ix, hx, rfl⟩ := hc
      simp only [stepOut] at h
      split at h
      · next k n hev =>
        have := pure1_ok h; subst this
        left
        obtain ⟨hus, _⟩ := ti_parts hT hts
        obtain ⟨hud, _⟩ := ti_parts hT htd
        simp only [opd_den hs hx hev, den_c, den_v, convert, Sem.run_bind, run_underlying hus, run_underlying hud, Result.andThen_ok, hds, hdd]
        rfl
      · cases h
    · cases hc
  case fieldAddr s x f =>
    simp only [Option.bind_eq_some_iff] at hc
    obtain ⟨ti, hti, hc⟩ := hc
    split at hc
    · next fs hfs =>
      simp only [Option.bind_eq_some_iff] at hc
      obtain ⟨fd, hfd, tf, htf, hc⟩ := hc
      split at hc
      · cases hc
      · next hnz =>
        simp only [Option.map_eq_some_iff] at hc
        obtain ⟨ix, hx, rfl⟩ := hc
        obtain ⟨hu, _⟩ := ti_parts hT hti
        obtain ⟨_, i, hi, _, hsf, _⟩ := ti_parts hT htf
        have hfa : ∀ b o, (Instr.fieldAt s (.pointer (some ⟨b, o, none⟩)) f).run P w = .ok (.pointer (some ⟨b, o + fd.offset, none⟩)) w := by
          intro b o
          simp only [Instr.fieldAt, Sem.run_bind, run_underlying hu, Result.andThen_ok, hfs, hfd, Instr.sureAddr, Sem.run_pure, fieldPlace, run_sizeOf hi, hsf, hnz, if_false, addr_add0]
        simp only [stepOut] at h
        split at h
        · next id o hev =>
          have := pure1_ok h; subst this
          left
          simp only [opd_den hs hx hev, den_c, den_ptr, Sem.run_bind, hfa, Result.andThen_ok]
          rfl
        · next i s k j hev =>
          split at h
          · next A hA =>
            simp only [Res.ok.injEq] at h
            obtain ⟨rfl, rfl⟩ := h
            obtain ⟨F, _, _, hF, _⟩ := hs.foot
            obtain ⟨ba, cap, hχ, hl, hm, hcell⟩ := (hF w (fun _ _ => rfl)).1 i A hA
            rcases hcell with h0 | ⟨b, off, rfl, hcell⟩
            · omega
            left
            simp only [opd_den hs hx hev, den_c, SC.den, hχ, Sem.run_bind, hfa, Result.andThen_ok]
            simp [Out.world, Nat.add_assoc]
          · cases h
        · cases h
    · cases hc
  case field s x f =>
    simp only [Option.bind_eq_some_iff] at hc
    obtain ⟨ti, hti, hc⟩ := hc
    split at hc
    · next fs hfs =>
      simp only [Option.bind_eq_some_iff, Option.map_eq_some_iff] at hc
      obtain ⟨fd, hfd, tf, htf, ix, hx, rfl⟩ := hc
      obtain ⟨hu, _⟩ := ti_parts hT hti
      obtain ⟨huf, i, hi, _, hsf, _⟩ := ti_parts hT htf
      simp only [stepOut] at h
      split at h
      · next cs hev =>
        left
        simp only [opd_den hs hx hev, den_agg, Instr.field, Sem.run_bind, run_underlying hu, Result.andThen_ok, hfs, hfd, asAgg, part, run_isAgg huf, Sem.run_pure]
        cases hd : isAggD tf.desc with
        | true =>
          rw [hd, if_pos rfl] at h
          split at h
          · have := pure1_ok h; subst this
            simp only [if_true, Sem.run_bind, run_sizeOf hi, hsf, Result.andThen_ok, Sem.run_pure, den_agg, Out.world, take'_eq, drop'_eq]
            congr 3
            apply Array.ext'
            simp [List.extract_eq_take_drop]
          · cases h
        | false =>
          rw [hd, if_neg (by simp)] at h
          split at h
          · next c hnn =>
            have := pure1_ok h; subst this
            rw [nth_eq] at hnn
            simp [hnn, den_c, Out.world]
          · cases h
      · cases h
    · cases hc
  case indexAddr t x i =>
    simp only [Option.bind_eq_some_iff] at hc
    obtain ⟨ti, hti, hc⟩ := hc
    split at hc
    · next e he =>
      simp only [Option.bind_eq_some_iff, Option.map_eq_some_iff] at hc
      obtain ⟨te, hte, ix, hx, ii, hii, rfl⟩ := hc
      obtain ⟨hu, _⟩ := ti_parts hT hti
      obtain ⟨_, i', hi', _, hse, _⟩ := ti_parts hT hte
      have hia : ∀ (b o len cap : Nat) (k : IntKind) (z : Int), 0 ≤ z ∧ z < len → (Instr.indexAt t (.slice (some ⟨b, o, none⟩) len cap) (.int k z)).run P w = .ok (.pointer (some ⟨b, o + z.toNat * te.size, none⟩)) w := by
        intro b o len cap k z hz
        simp only [Instr.indexAt, Sem.run_bind, asIntOf, Sem.run_pure, Result.andThen_ok, run_underlying hu, he, Bool.and_false]
        simp only [hz, and_self, if_true, Sem.run_bind, run_sizeOf hi', hse, Result.andThen_ok, Sem.run_pure, addr_add0]
      simp only [stepOut] at h
      split at h
      · next n k z hev hez =>
        split at h
        · next A hA =>
          simp only [Res.ok.injEq] at h
          obtain ⟨rfl, rfl⟩ := h
          obtain ⟨F, _, _, hF, _⟩ := hs.foot
          obtain ⟨ba, cap, hχ, hl, hm, hcell⟩ := (hF w (fun _ _ => rfl)).1 n A hA
          rcases hcell with h0 | ⟨b, off, rfl, hcell⟩
          · omega
          left
          simp only [opd_den hs hx hev, opd_den hs hii hez, den_c, SC.den, hχ, Sem.run_bind, hia _ _ _ _ _ _ hvc, Result.andThen_ok]
          simp [Out.world]
        · cases h
      · next id off len cap k z hev hez =>
        simp only [Res.ok.injEq] at h
        obtain ⟨rfl, rfl⟩ := h
        left
        simp only [opd_den hs hx hev, opd_den hs hii hez, den_c, den_v, den_sl, den_ptr, Sem.run_bind, hia _ _ _ _ _ _ hvc, Result.andThen_ok]
        rfl
      · cases h
    · cases hc
  case extract x i =>
    simp only [Option.map_eq_some_iff] at hc
    obtain ⟨ix, hx, rfl⟩ := hc
    simp only [stepOut] at h
    split at h
    · next l hev =>
      have hg : ∀ p, nth l i = some p → (Instr.extract (a.eval x) i).run P w = .ok (den1 E p) w := by
        intro p hp
        rw [nth_eq] at hp
        simp [opd_den hs hx hev, den_tup, Instr.extract, hp]
      left
      split at h
      · next cs hnn =>
        have := pure1_ok h; subst this
        simp only [Sem.run_bind, hg _ hnn, Result.andThen_ok]
        rfl
      · next c r hnn =>
        have := pure1_ok h; subst this
        simp only [Sem.run_bind, hg _ hnn, Result.andThen_ok]
        rfl
      · cases h
    · cases h
  case call c =>
    split at hc
    · simp only [Option.map_eq_some_iff] at hc
      obtain ⟨xs, _, rfl⟩ := hc
      simp [stepOut] at h
    · next hcl =>
      split at hc
      · next x t hxs hts =>
        simp only [Option.bind_eq_some_iff] at hc
        obtain ⟨ti, hti, hc⟩ := hc
        split at hc
        · next e he =>
          simp only [Option.map_eq_some_iff] at hc
          obtain ⟨ix, hx, rfl⟩ := hc
          obtain ⟨hu, _⟩ := ti_parts hT hti
          have hargs : c.args = #[x] := by apply Array.ext'; simpa using hxs
          have hats : c.argTypes = #[t] := by apply Array.ext'; simpa using hts
          have hlen : ∀ v ba n cap, a.eval x = v → v = .slice ba n cap → (do let d ← resolve a.eval c o.type; invoke d.target d.args : Sem Next).run P w = .ok (.value (.int .i64 n)) w := by
            intro v ba n cap hv hsl
            subst hsl
            simp only [resolve, hcl, hargs, hats, Sem.run_bind, Sem.run_pure, Result.andThen_ok, invoke, builtin]
            simp [Builtin.len_, run_underlying hu, he, hv, goInt]
          left
          simp only [stepOut] at h
          split at h
          · next n hev =>
            split at h
            · next A hA =>
              have := pure1_ok h; subst this
              obtain ⟨F, _, _, hF, _⟩ := hs.foot
              obtain ⟨ba, cap, hχ, hl, hm, hcell⟩ := (hF w (fun _ _ => rfl)).1 n A hA
              exact hlen _ _ _ _ (opd_den hs hx hev) hχ
            · cases h
          · next id off len cap hev =>
            have := pure1_ok h; subst this
            exact hlen _ _ _ _ (opd_den hs hx hev) rfl
          · next ba n cap hev =>
            have := pure1_ok h; subst this
            exact hlen _ _ _ _ (opd_den hs hx hev) rfl
          · cases h
        · cases hc
      · cases hc
    · cases hc
end
end Go.Proofs.Ytgljbdcamagdbaa
