/- The symbolic run tells what a call comes to. No statement of the program. -/
import Derived.Test.YtgljbdcamagdbaaSymE
namespace Go.Proofs.Ytgljbdcamagdbaa
open Go.RowKit

/-- what is left to do, in the model's words -/
inductive SI : Type 1 where
  | code (c : Code)
  | blk (id : Nat)
  | ops (all : Array Oper) (rest : List Oper)
  | back (J : Act → World → Prop)

section
variable (P : Program) (fn : Func) (R : Ending → World → Prop)

def aft : List SI → Exit → Act → World → Prop
  | [], e, a, w => bodyPost P fn R e a w
  | .code c :: k, .normal, a, w => c.wp P (aft k) a w
  | .blk _ :: k, .normal, a, w => aft k .normal a w
  | .blk id :: k, .exit id', a, w => if id' = id then aft k .normal a w else aft k (.exit id') a w
  | .ops all rest :: k, .normal, a, w => wpList P all (aft k) rest a w
  | .back J :: _, .normal, a, w => J a w
  | _ :: k, e, a, w => aft k e a w
end

section
variable {P : Program} {fn : Func} {R : Ending → World → Prop}
theorem aft_ret : ∀ (k : List SI) (a : Act) (w : World), bodyPost P fn R .ret a w → aft P fn R k .ret a w
  | [], _, _, h => h
  | .code _ :: k, a, w, h => aft_ret k a w h
  | .blk _ :: k, a, w, h => aft_ret k a w h
  | .ops _ _ :: k, a, w, h => aft_ret k a w h
  | .back _ :: k, a, w, h => aft_ret k a w h
theorem aft_exit_code (c : Code) (k : List SI) (id : Nat) (a : Act) (w : World) : aft P fn R (.code c :: k) (.exit id) a w = aft P fn R k (.exit id) a w := rfl
theorem aft_exit_back (J : Act → World → Prop) (k : List SI) (id : Nat) (a : Act) (w : World) : aft P fn R (.back J :: k) (.exit id) a w = aft P fn R k (.exit id) a w := rfl
theorem aft_exit_ops (x : Array Oper) (r : List Oper) (k : List SI) (id : Nat) (a : Act) (w : World) : aft P fn R (.ops x r :: k) (.exit id) a w = aft P fn R k (.exit id) a w := rfl
end

/-- the invariant of a loop, as it stands at a number -/
def Inv (C : Ctx) (ι : Type) (I : ι → St) (μ : ι → Nat) (n : Nat) (a : Act) (w : World) : Prop := ∃ i E, μ i = n ∧ SatA C.B C.w0 E (I i) a w

/-- the short form and the model's words -/
inductive RelK (C : Ctx) : List KI → List SI → Prop
  | nil : RelK C [] []
  | code {c : IR} {x : Code} {k : List KI} {k' : List SI} : compC C.tab x = some c.strip → RelK C k k' → RelK C (.code c :: k) (.code x :: k')
  | blk {id : Nat} {k : List KI} {k' : List SI} : RelK C k k' → RelK C (.blk id :: k) (.blk id :: k')
  | ops {l : List IO1} {all : Array Oper} {r : List Oper} {k : List KI} {k' : List SI} : compList C.tab.T all r = some l → callsIn C.tab.F l = true → RelK C k k' → RelK C (.ops l :: k) (.ops all r :: k')
  | back {ι : Type} {I : ι → St} {μ : ι → Nat} {i : ι} {k : List KI} {k' : List SI} : RelK C k k' → RelK C (.back ι I μ i :: k) (.back (fun a w => ∃ n, n < μ i ∧ Inv C ι I μ n a w) :: k')

theorem opds_den {B : Nat} {w0 : World} {E : Env} {S : St} {a : Act} {w : World} (hs : Sat B w0 E S a w) : ∀ (xs : List Operand) (is : List IX) (vs : List SV), opds xs = some is → evs S is = some vs → xs.map a.eval = vs.map (SV.den E)
  | [], is, vs, h, h' => by
    simp only [opds, Option.some.injEq] at h
    subst h
    simp only [evs, Option.some.injEq] at h'
    subst h'
    rfl
  | x :: r, is, vs, h, h' => by
    simp only [opds, Option.bind_eq_some_iff, Option.map_eq_some_iff] at h
    obtain ⟨i, hi, is', his, rfl⟩ := h
    simp only [evs] at h'
    split at h'
    · next v vs' hv hvs =>
      simp only [Option.some.injEq] at h'
      subst h'
      simp only [List.map_cons]
      rw [opd_den hs hi hv, opds_den hs r is' vs' his hvs]
    · cases h'

section
variable {C : Ctx} {E : Env} {S : St} {a : Act} {w : World}

theorem wanted_of {ops : Array Oper} (hs : Sat C.B C.w0 E S a w) {o : Oper} {j : Nat} {want : Bool} {g : Nat} {b : Bool} {x : SC} (hg : o.guard = some (j, want)) (hd : (ops[j]?).bind (·.dst) = some g)
    (hl : look S.tmps g = some (.c x)) (hb : x.den E = .bool b) : Region.wanted o (yielded ops a.tmps) = (b == want) := by
  obtain ⟨h1, h2⟩ := hs.tmps g _ hl
  have h3 : a.tmps[g]? = some (.bool b) := by
    rw [← hs.size] at h1
    rw [Array.getD_eq_getD_getElem?, Array.getElem?_eq_getElem h1] at h2
    rw [Array.getElem?_eq_getElem h1]
    simp only [Option.getD_some] at h2
    rw [h2, den_c, hb]
  simp only [Region.wanted, hg, yielded, hd, Option.bind_some, h3]
  cases b <;> cases want <;> rfl

theorem satA_skip (hs : SatA C.B C.w0 E S a w) (dst : Option Nat) : SatA C.B C.w0 E (S.skipT dst) (a.put dst undef) w := by
  intro E' hE'
  have h := hs E' hE'
  exact ⟨by rw [put_size']; exact h.size, by rw [put_defers']; exact h.defers, h.one, sat_put h dst (.c (.v undef)), h.below, h.hB, h.own, h.inj, h.foot⟩

theorem satA_setB (hs : SatA C.B C.w0 E S a w) {g : Nat} {b : Bool} (hl : look S.tmps g = some (.c (.bo b))) : SatA C.B C.w0 E (S.setB g b) a w := by
  intro E' hE'
  have h := hs E' hE'
  refine ⟨h.size, h.defers, h.one, ?_, h.below, h.hB, h.own, h.inj, h.foot⟩
  intro t v ht
  simp only [St.setB, look_cons] at ht
  split at ht
  · next e =>
    subst e
    simp only [Option.some.injEq] at ht
    subst ht
    exact ⟨(h.tmps _ _ hl).1, (h.tmps _ _ hl).2⟩
  · exact h.tmps t v ht

theorem popTo_ok {fn : Func} {id : Nat} {k r : List KI} {k' : List SI} (h : RelK C k k') (hp : popTo id k = some r) : ∃ r', RelK C r r' ∧ ∀ a w, aft C.P fn C.R r' .normal a w → aft C.P fn C.R k' (.exit id) a w := by
  induction h with
  | nil => simp [popTo] at hp
  | code _ _ ih =>
    obtain ⟨r', h1, h2⟩ := ih (by simpa [popTo] using hp)
    exact ⟨r', h1, fun a w h => h2 a w h⟩
  | @blk id' k k' hk ih =>
    simp only [popTo] at hp
    split at hp
    · next e =>
      simp only [Option.some.injEq] at hp
      subst hp
      subst e
      exact ⟨k', hk, fun a w h => by simp only [aft, if_true]; exact h⟩
    · next e =>
      obtain ⟨r', h1, h2⟩ := ih hp
      exact ⟨r', h1, fun a w h => by
        simp only [aft]
        rw [if_neg (fun e' => e e'.symm)]
        exact h2 a w h⟩
  | ops _ _ _ ih =>
    obtain ⟨r', h1, h2⟩ := ih (by simpa [popTo] using hp)
    exact ⟨r', h1, fun a w h => h2 a w h⟩
  | back _ ih =>
    obtain ⟨r', h1, h2⟩ := ih (by simpa [popTo] using hp)
    exact ⟨r', h1, fun a w h => h2 a w h⟩

theorem compR_cons_tmp {T : TT} {n : Nat} {r : List ResultVar} {rs : List RS} (h : compR T (.tmp n :: r) = some rs) : ∃ rs', compR T r = some rs' ∧ rs = .t n :: rs' := by
  simp only [compR, Option.map_eq_some_iff] at h
  obtain ⟨rs', h1, rfl⟩ := h
  exact ⟨rs', h1, rfl⟩

theorem run_res1 (hT : TOk C.P C.tab.T) (hs : Sat C.B C.w0 E S a w) (t : Nat) (ti : TI) (ht : look C.tab.T t = some ti) (n : Nat) {p : Bool × List SC} (h : resP S (.cell n (isAggD ti.desc) ti.size) = some p) :
    (do loadVar t (← asAddr (a.tmps.getD n undef)) : Sem Value).run C.P w = .ok (den1 E p) w := by
  obtain ⟨hu, i, hi, hz, hsz, _⟩ := ti_parts hT ht
  simp only [resP] at h
  split at h
  · next id off hl =>
    rw [(hs.tmps n _ hl).2]
    split at h
    · next cs ty hown =>
      have hoc := own_cell hs hown
      simp only [den_c, den_ptr, asAddr, Sem.run_bind, Sem.run_pure, Result.andThen_ok]
      cases hd : isAggD ti.desc with
      | true =>
        rw [hd, if_pos rfl] at h
        split at h
        · next hfit =>
          simp only [Option.some.injEq] at h
          subst h
          have := run_ldv (P := C.P) (w := w) hT ht (E.ρ id) off ((take' ti.size (drop' off cs)).map (SC.den E)) (by rw [List.length_map, seg_len hfit]) (fun j u hu => by
            rw [List.getElem?_map, Option.map_eq_some_iff] at hu
            obtain ⟨c, hc, rfl⟩ := hu
            rw [hoc, seg_get hc]; rfl)
          rw [hd] at this
          simp only [Instr.loadAt, Instr.sureAddr, Sem.run_bind, Sem.run_pure, Result.andThen_ok, Bool.true_eq_false, false_and, or_false] at this
          exact this
        · cases h
      | false =>
        rw [hd, if_neg (by simp)] at h
        split at h
        · next c hn =>
          simp only [Option.some.injEq] at h
          subst h
          rw [nth_eq] at hn
          simp only [loadVar, Sem.run_bind, run_isAgg hu, hd, Result.andThen_ok, Bool.false_eq_true, if_false]
          simp [load, Sem.run, hoc, hn, den1]
        · cases h
    · cases h
  · cases h

theorem run_results (hT : TOk C.P C.tab.T) (hs : Sat C.B C.w0 E S a w) : ∀ (rv : List ResultVar) (rs : List RS) (l : List (Bool × List SC)), compR C.tab.T rv = some rs → resL S rs = some l →
    (rv.mapM (fun | .tmp t => pure (a.tmps.getD t undef) | .cell x t => do loadVar t (← asAddr (a.tmps.getD x undef))) : Sem (List Value)).run C.P w = .ok (l.map (den1 E)) w
  | [], rs, l, h, h' => by
    simp only [compR, Option.some.injEq] at h
    subst h
    simp only [resL, Option.some.injEq] at h'
    subst h'
    rfl
  | .tmp n :: r, rs, l, h, h' => by
    obtain ⟨rs', h1, rfl⟩ := compR_cons_tmp h
    simp only [resL] at h'
    split at h'
    · next p q hp hq =>
      simp only [Option.some.injEq] at h'
      subst h'
      have hv : a.tmps.getD n undef = den1 E p := by
        simp only [resP] at hp
        split at hp
        · next x hx =>
          simp only [Option.some.injEq] at hp
          subst hp
          exact (hs.tmps n _ hx).2
        · next x hx =>
          simp only [Option.some.injEq] at hp
          subst hp
          exact (hs.tmps n _ hx).2
        · cases hp
      simp only [List.mapM_cons, Sem.run_bind, Sem.run_pure, Result.andThen_ok, run_results hT hs r rs' q h1 hq, List.map_cons, hv]
    · cases h'
  | .cell n t :: r, rs, l, h, h' => by
    simp only [compR, Option.bind_eq_some_iff, Option.map_eq_some_iff] at h
    obtain ⟨ti, hti, rs', h1, rfl⟩ := h
    simp only [resL] at h'
    split at h'
    · next p q hp hq =>
      simp only [Option.some.injEq] at h'
      subst h'
      have h2 := run_res1 hT hs t ti hti n hp
      simp only [Sem.run_bind] at h2
      simp only [List.mapM_cons, Sem.run_bind, Sem.run_pure, Result.andThen_ok, run_results hT hs r rs' q h1 hq, List.map_cons, h2]
    · cases h'

theorem fin_ok {fn : Func} (hT : TOk C.P C.tab.T) (hr : compR C.tab.T fn.results.toList = some C.rs) (hs : SatA C.B C.w0 E S a w) (h : finS C S) : bodyPost C.P fn C.R .ret a w := by
  unfold finS retS at h
  split at h
  · next l hl =>
    have h1 := run_results hT hs.sat fn.results.toList C.rs l hr hl
    refine ⟨hs.sat.defers, (resSV l).den E, ?_, h E a w hs⟩
    have e : ∀ m : Sem (List Value), m.run C.P w = .ok (l.map (den1 E)) w → ((do
        let vs ← List.toArray <$> m
        pure (if h : vs.size = 1 then vs[0] else .tuple vs)) : Sem Value).run C.P w = .ok ((resSV l).den E) w := by
      intro m hm
      simp only [Sem.run_bind, Sem.run_map, hm, Result.andThen_ok, Sem.run_pure]
      match l with
      | [] => rfl
      | [p] =>
        obtain ⟨b, cs⟩ := p
        cases b with
        | true => rfl
        | false => cases cs <;> rfl
      | p :: q :: r => simp [resSV, SV.den]
    unfold results
    rw [Array.mapM_eq_mapM_toList]
    exact e _ h1
  · exact h.elim

theorem list_unfold {Q : Exit → Act → World → Prop} {ops : Array Oper} {o : Oper} {r : List Oper} (b : Bool) (hb : Region.wanted o (yielded ops a.tmps) = b)
    (h1 : b = true → o.wp C.P a w (wpList C.P ops Q r) Q) (h2 : b = false → wpList C.P ops Q r (a.put o.dst undef) w) : wpList C.P ops Q (o :: r) a w := by
  unfold wpList
  cases b with
  | true => rw [if_pos hb]; exact Or.inl (h1 rfl)
  | false => rw [if_neg (by rw [hb]; simp)]; exact h2 rfl

theorem compOp_call {T : TT} {op : Op} {f : Nat} {xs : List IX} (hc : compOp T op = some (.call f xs)) : ∃ c, op = .call c ∧ c.callee = .value (.func f) ∧ opds c.args.toList = some xs := by
  cases op
  case call c =>
    simp only [compOp] at hc
    split at hc
    · next g hcl =>
      simp only [Option.map_eq_some_iff] at hc
      obtain ⟨is, his, hc⟩ := hc
      simp only [IOp.call.injEq] at hc
      obtain ⟨rfl, rfl⟩ := hc
      exact ⟨c, rfl, hcl, his⟩
    · split at hc
      · simp only [Option.bind_eq_some_iff] at hc
        obtain ⟨ti, _, hc⟩ := hc
        split at hc
        · simp at hc
        · cases hc
      · cases hc
    · cases hc
  case binOp op t x y yt =>
    simp only [compOp, Option.bind_eq_some_iff] at hc
    obtain ⟨_, _, _, _, _, _, hc⟩ := hc
    (repeat' split at hc) <;> simp at hc
  case build t ps =>
    simp only [compOp, Option.bind_eq_some_iff] at hc
    obtain ⟨_, _, hc⟩ := hc
    (repeat' split at hc) <;> simp at hc
  case buildSlice t n ps =>
    simp only [compOp, Option.bind_eq_some_iff] at hc
    obtain ⟨_, _, hc⟩ := hc
    split at hc
    · simp only [Option.bind_eq_some_iff] at hc
      obtain ⟨_, _, hc⟩ := hc
      split at hc <;> simp at hc
    · cases hc
  case fieldAddr s x g =>
    simp only [compOp, Option.bind_eq_some_iff] at hc
    obtain ⟨_, _, hc⟩ := hc
    split at hc
    · simp only [Option.bind_eq_some_iff] at hc
      obtain ⟨_, _, _, _, hc⟩ := hc
      split at hc <;> simp at hc
    · cases hc
  case field s x g =>
    simp only [compOp, Option.bind_eq_some_iff] at hc
    obtain ⟨_, _, hc⟩ := hc
    split at hc
    · simp only [Option.bind_eq_some_iff] at hc
      obtain ⟨_, _, _, _, hc⟩ := hc
      simp at hc
    · cases hc
  case indexAddr s x g =>
    simp only [compOp, Option.bind_eq_some_iff] at hc
    obtain ⟨_, _, hc⟩ := hc
    split at hc
    · simp only [Option.bind_eq_some_iff] at hc
      obtain ⟨_, _, _, _, hc⟩ := hc
      simp at hc
    · cases hc
  case convert s d x =>
    simp only [compOp, Option.bind_eq_some_iff] at hc
    obtain ⟨_, _, _, _, hc⟩ := hc
    split at hc <;> simp at hc
  all_goals simp [compOp, Option.bind_eq_some_iff] at hc

/-- a call -/
theorem call_ok {o : Oper} {f : Nat} {xs : List IX} {vs : List SV} {K : Act → World → Prop} {Q : Exit → Act → World → Prop} {Kt : St → Prop} (hf : FnOk C.P f)
    (hc : compOp C.tab.T o.op = some (.call f xs)) (hv : evs S xs = some vs) (hs : SatA C.B C.w0 E S a w) (h : CallVC C f vs o.dst S Kt)
    (hK : ∀ E' S' a' w', SatA C.B C.w0 E' S' a' w' → Kt S' → K a' w') : o.wp C.P a w K Q := by
  obtain ⟨c, hop, hcl, his⟩ := compOp_call hc
  obtain ⟨fn, hfn, hname, hbody⟩ := hf
  have hargs := opds_den hs.sat c.args.toList xs vs his hv
  have hargs' : c.args.map a.eval = (vs.map (SV.den E)).toArray := by
    apply Array.ext'
    simpa using hargs
  have h1 : fn.name ≠ "runtime.NumGoroutine" := by simpa using hname
  have h2 : ¬ fn.body = none := by
    intro e
    rw [e] at hbody
    cases hbody
  have hrun : (execOp a.eval o).run C.P w = .ok (.enter f (vs.map (SV.den E)).toArray) w := by
    unfold execOp
    rw [hop]
    simp only [resolve, hcl, Act.eval, hargs', Sem.run_bind, Deferred.ofValue, Sem.run_pure, Result.andThen_ok, invoke, callFunc]
    simp [hfn, h1, h2, program, Sem.run]
  unfold Oper.wp
  rw [hrun]
  exact (h E a w hs).mono fun e w' ⟨v, he, E', S', h1, h2⟩ => by
    subst he
    exact hK E' S' _ _ h1 h2

/-- **the run is sound** -/
theorem exec_ok {fn : Func} (hT : C.tab.Ok C.P) (hr : compR C.tab.T fn.results.toList = some C.rs) : ∀ (n : Nat) (k : List KI) (S : St), exec C n k S → ∀ k', RelK C k k' → ∀ E a w, SatA C.B C.w0 E S a w → aft C.P fn C.R k' .normal a w := by
  intro n
  induction n with
  | zero => intro k S h; exact h.elim
  | succ n ih =>
    intro k S h k' hk E a w hs
    have hfin : finS C S → bodyPost C.P fn C.R .ret a w := fin_ok hT.1 hr hs
    cases hk with
    | nil =>
      simp only [exec] at h
      have := hfin h
      exact this
    | @blk id k k' hk =>
      simp only [exec] at h
      exact ih _ _ h _ hk E a w hs
    | @back ι I μ i k k' hk =>
      simp only [exec] at h
      obtain ⟨j, hj, hle⟩ := h
      obtain ⟨E', hs'⟩ := hle E a w hs
      exact ⟨μ j, hj, j, E', rfl, hs'⟩
    | @ops l all r k k' hl hcalls hk =>
      cases r with
      | nil =>
        simp only [compList, Option.some.injEq] at hl
        subst hl
        simp only [exec] at h
        exact ih _ _ h _ hk E a w hs
      | cons o r =>
        simp only [compList, Option.bind_eq_some_iff, Option.map_eq_some_iff] at hl
        obtain ⟨i, hi, l', hl', rfl⟩ := hl
        simp only [callsIn, Bool.and_eq_true] at hcalls
        simp only [compIO, Option.bind_eq_some_iff] at hi
        obtain ⟨op, hop, hi⟩ := hi
        -- one operation that runs
        have run1 : ∀ (E : Env) (S : St) (g : Option (Nat × Bool)), SatA C.B C.w0 E S a w → callsIn C.tab.F [⟨o.dst, op, g⟩] = true → runOp C (exec C n) ⟨o.dst, op, g⟩ l' k S → o.wp C.P a w (wpList C.P all (aft C.P fn C.R k') r) (aft C.P fn C.R k') := by
          intro E S g hs hcf h
          have hrest : ∀ E' S' a' w', SatA C.B C.w0 E' S' a' w' → exec C n (.ops l' :: k) S' → wpList C.P all (aft C.P fn C.R k') r a' w' := by
            intro E' S' a' w' hs' h'
            exact ih _ _ h' (.ops all r :: k') (.ops hl' hcalls.2 hk) E' a' w' hs'
          unfold runOp at h
          split at h
          · next f xs hcall =>
            split at h
            · next vs hvs =>
              simp only at hcall
              subst hcall
              have hf : f ∈ C.tab.F := by simpa [callsIn] using hcf
              exact call_ok (hT.2 f hf) hop hvs hs h hrest
            · exact h.elim
          · unfold thenS at h
            split at h
            · next vc out hst =>
              obtain ⟨hvc, h⟩ := h
              exact sat_step hT.1 hop hst hvc hs (fun E1 a1 w1 h1 => hrest E1 _ a1 w1 h1 h)
            · exact h.elim
        have skip1 : ∀ (E : Env) (S : St), SatA C.B C.w0 E S a w → exec C n (.ops l' :: k) (S.skipT o.dst) → wpList C.P all (aft C.P fn C.R k') r (a.put o.dst undef) w := by
          intro E S hs h'
          exact ih _ _ h' (.ops all r :: k') (.ops hl' hcalls.2 hk) E _ w (satA_skip hs o.dst)
        show wpList C.P all (aft C.P fn C.R k') (o :: r) a w
        cases hg : o.guard with
        | none =>
          rw [hg] at hi
          simp only [Option.some.injEq] at hi
          subst hi
          simp only [exec] at h
          exact list_unfold true (by simp [Region.wanted, hg]) (fun _ => run1 E S none hs (by simpa [callsIn] using hcalls.1) h) (fun h => by cases h)
        | some jw =>
          obtain ⟨j, want⟩ := jw
          rw [hg] at hi
          simp only [Option.map_eq_some_iff] at hi
          obtain ⟨g, hgd, rfl⟩ := hi
          simp only [exec] at h
          split at h
          · next b hlk =>
            have hw := wanted_of hs.sat hg hgd hlk rfl
            refine list_unfold (b == want) hw (fun hb => ?_) (fun hb => ?_)
            · rw [if_pos (by simpa using hb)] at h
              exact run1 E S (some (g, want)) hs (by simpa [callsIn] using hcalls.1) h
            · rw [if_neg (by simpa using hb)] at h
              exact skip1 E S hs h
          · next b hlk =>
            have hw := wanted_of hs.sat hg hgd hlk rfl
            refine list_unfold (b == want) hw (fun hb => ?_) (fun hb => ?_)
            · have hb : b = want := by simpa using hb
              subst hb
              exact run1 E _ (some (g, b)) (satA_setB hs hlk) (by simpa [callsIn] using hcalls.1) (h.1 rfl)
            · have hb : b = !want := by cases b <;> cases want <;> simp_all
              subst hb
              exact skip1 E _ (satA_setB hs hlk) (h.2 rfl)
          · exact h.elim
    | @code c x k k' hc hk =>
      cases c with
      | mark j c =>
        simp only [exec, MarkVC] at h
        exact ih _ _ h _ (.code hc hk) E a w hs
      | skip =>
        simp only [exec] at h
        cases x <;> simp only [compC, IR.strip, reduceCtorEq, Option.map_eq_some_iff, Option.bind_eq_some_iff, and_false, exists_false, Option.some.injEq] at hc
        case skip => exact wp_skip (ih _ _ h _ hk E a w hs)
        case region id ops d =>
          cases d <;> simp only [compC, Option.bind_eq_some_iff] at hc <;> obtain ⟨_, _, hc⟩ := hc <;> split at hc <;> simp at hc
      | ret =>
        simp only [exec] at h
        cases x <;> simp only [compC, IR.strip, reduceCtorEq, Option.map_eq_some_iff, Option.bind_eq_some_iff, and_false, exists_false, Option.some.injEq] at hc
        case ret => exact wp_ret (aft_ret _ _ _ (hfin h))
        case region id ops d =>
          cases d <;> simp only [compC, Option.bind_eq_some_iff] at hc <;> obtain ⟨_, _, hc⟩ := hc <;> split at hc <;> simp at hc
      | exit id =>
        simp only [exec] at h
        cases x <;> simp only [compC, IR.strip, reduceCtorEq, Option.map_eq_some_iff, Option.bind_eq_some_iff, and_false, exists_false, Option.some.injEq, IR.exit.injEq] at hc
        case exit id' =>
          subst hc
          split at h
          · next r hp =>
            obtain ⟨r', hr', h2⟩ := popTo_ok (fn := fn) hk hp
            exact wp_exit (h2 a w (ih _ _ h r' hr' E a w hs))
          · exact h.elim
        case region id ops d =>
          cases d <;> simp only [compC, Option.bind_eq_some_iff] at hc <;> obtain ⟨_, _, hc⟩ := hc <;> split at hc <;> simp at hc
      | ops l =>
        simp only [exec] at h
        cases x <;> simp only [compC, IR.strip, reduceCtorEq, Option.map_eq_some_iff, Option.bind_eq_some_iff, and_false, exists_false, Option.some.injEq] at hc
        case region id ops d =>
          cases d with
          | true => simp only [compC, Option.bind_eq_some_iff] at hc; obtain ⟨_, _, hc⟩ := hc; split at hc <;> simp at hc
          | false =>
            simp only [compC, Option.bind_eq_some_iff] at hc
            obtain ⟨l', hl', hc⟩ := hc
            split at hc
            · next hcl =>
              simp only [Option.some.injEq, IR.ops.injEq] at hc
              subst hc
              refine wp_region ?_
              have e := wpOps_eq_wpList (P := C.P) (ops := ops) (Q := aft C.P fn C.R k') ops.toList 0 (fun j => by simp)
              simp only [Array.length_toList] at e
              rw [List.range_eq_range', e]
              exact ih _ _ h (.ops ops ops.toList :: k') (.ops hl' hcl hk) E a w hs
            · cases hc
      | draw l =>
        simp only [exec] at h
        cases x <;> simp only [compC, IR.strip, reduceCtorEq, Option.map_eq_some_iff, Option.bind_eq_some_iff, and_false, exists_false, Option.some.injEq] at hc
        case region id ops d =>
          cases d with
          | false => simp only [compC, Option.bind_eq_some_iff] at hc; obtain ⟨_, _, hc⟩ := hc; split at hc <;> simp at hc
          | true =>
            refine wp_mono (h id ops hc E a w hs) ?_
            rintro e a' w' ⟨rfl, E', S', hs', h'⟩
            exact ih _ _ h' k' hk E' a' w' hs'
      | seq p q =>
        simp only [exec] at h
        cases x <;> simp only [compC, IR.strip, reduceCtorEq, Option.map_eq_some_iff, Option.bind_eq_some_iff, and_false, exists_false, Option.some.injEq, IR.seq.injEq] at hc
        case seq x y =>
          obtain ⟨_, hx, _, hy, rfl, rfl⟩ := hc
          refine wp_seq (wp_mono (ih _ _ h (.code x :: .code y :: k') (.code hx (.code hy hk)) E a w hs) ?_)
          intro e a' w' h'
          cases e <;> exact h'
        case region id ops d =>
          cases d <;> simp only [compC, Option.bind_eq_some_iff] at hc <;> obtain ⟨_, _, hc⟩ := hc <;> split at hc <;> simp at hc
      | cond t p q =>
        simp only [exec] at h
        cases x <;> simp only [compC, IR.strip, reduceCtorEq, Option.map_eq_some_iff, Option.bind_eq_some_iff, and_false, exists_false, Option.some.injEq, IR.cond.injEq] at hc
        case cond y x1 x2 =>
          obtain ⟨_, hy, _, hx1, _, hx2, rfl, rfl, rfl⟩ := hc
          split at h
          · next b hb =>
            have hev := opd_den hs.sat hy hb
            refine wp_cond (t := b) hev ?_
            cases b with
            | true => exact ih _ _ (by simpa using h) (.code x1 :: k') (.code hx1 hk) E a w hs
            | false => exact ih _ _ (by simpa using h) (.code x2 :: k') (.code hx2 hk) E a w hs
          · next b hb =>
            have hev := opd_den hs.sat hy hb
            refine wp_cond (t := b) hev ?_
            cases b with
            | true => exact ih _ _ (h.1 rfl) (.code x1 :: k') (.code hx1 hk) E a w hs
            | false => exact ih _ _ (h.2 rfl) (.code x2 :: k') (.code hx2 hk) E a w hs
          · exact h.elim
        case region id ops d =>
          cases d <;> simp only [compC, Option.bind_eq_some_iff] at hc <;> obtain ⟨_, _, hc⟩ := hc <;> split at hc <;> simp at hc
      | blk id p =>
        simp only [exec] at h
        cases x <;> simp only [compC, IR.strip, reduceCtorEq, Option.map_eq_some_iff, Option.bind_eq_some_iff, and_false, exists_false, Option.some.injEq, IR.blk.injEq] at hc
        case block id' x =>
          obtain ⟨_, hx, rfl, rfl⟩ := hc
          refine wp_block (wp_mono (ih _ _ h (.code x :: .blk id' :: k') (.code hx (.blk hk)) E a w hs) ?_)
          intro e a' w' h'
          cases e <;> exact h'
        case region id ops d =>
          cases d <;> simp only [compC, Option.bind_eq_some_iff] at hc <;> obtain ⟨_, _, hc⟩ := hc <;> split at hc <;> simp at hc
      | loop p =>
        simp only [exec] at h
        cases x <;> simp only [compC, IR.strip, reduceCtorEq, Option.map_eq_some_iff, Option.bind_eq_some_iff, and_false, exists_false, Option.some.injEq, IR.loop.injEq] at hc
        case loop x =>
          obtain ⟨_, hx, rfl⟩ := hc
          obtain ⟨ι, I, μ, i0, hle, hround⟩ := h
          obtain ⟨E0, hs0⟩ := hle E a w hs
          refine wp_loop_ghost (Inv C ι I μ) (μ i0) ⟨i0, E0, rfl, hs0⟩ ?_
          rintro m a1 w1 ⟨i, E1, rfl, hs1⟩
          refine wp_mono (ih _ _ (hround i) (.code x :: .back _ :: k') (.code hx (.back hk)) E1 a1 w1 hs1) ?_
          intro e a' w' h'
          cases e <;> exact h'
        case region id ops d =>
          cases d <;> simp only [compC, Option.bind_eq_some_iff] at hc <;> obtain ⟨_, _, hc⟩ := hc <;> split at hc <;> simp at hc

/-- **a function's contract out of a run** -/
theorem calls_of_exec {f : Nat} {fn : Func} {x : Code} {c : IR} {args : List Value} {w : World} {S : St} {E : Env} (n : Nat) (hT : C.tab.Ok C.P) (hf : C.P.funcs[f]? = some fn) (hb : fn.body = some x)
    (hc : compC C.tab x = some c.strip) (hr : compR C.tab.T fn.results.toList = some C.rs) (hs : SatA C.B C.w0 E S ⟨args.toArray ++ Array.replicate (fn.ntmps - args.length) undef, []⟩ w)
    (h : exec C n [.code c] S) : Calls C.P f args.toArray w C.R := by
  refine calls_of_wp hf hb ?_
  have := exec_ok (fn := fn) hT hr n _ S h [.code x] (.code hc .nil) E _ w hs
  refine wp_mono (show x.wp C.P (aft C.P fn C.R []) _ w by rw [List.size_toArray]; exact this) ?_
  intro e a' w' h'
  exact h'
end
end Go.Proofs.Ytgljbdcamagdbaa
