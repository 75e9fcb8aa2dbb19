/- A state behind an operation. No statement of the program. -/
import Derived.Test.YtgljbdcamagdbaaSymC
namespace Go.Proofs.Ytgljbdcamagdbaa
open Go.RowKit

theorem look_cons {α : Type} (k : Nat) (v : α) (l : List (Nat × α)) (t : Nat) : look ((k, v) :: l) t = if k = t then some v else look l t := rfl

section
variable {P : Program} {T : TT} {B : Nat} {w0 : World} {E : Env} {S : St} {a : Act} {w : World}

theorem stepOut_wr {op : IOp} {vc : Prop} {out : Out} (h : stepOut op S = .ok vc out) : ∀ id cs ty, out.wr = some (id, cs, ty) → out.new = none ∧ ∃ old, look S.own id = some (old, ty) := by
  have hp : ∀ {v : SV}, pure1 v = .ok vc out → out.wr = none := by
    intro v h; have := pure1_ok h; subst this; rfl
  have hb : ∀ {o : BinOp} {k : IntKind} {x y : Int}, binI o k x y = .ok vc out → out.wr = none := by
    intro o k x y h
    cases o <;> simp only [binI, pure1, Res.ok.injEq, reduceCtorEq] at h <;> obtain ⟨_, rfl⟩ := h <;> rfl
  have fin : out.wr = none → ∀ id cs ty, out.wr = some (id, cs, ty) → out.new = none ∧ ∃ old, look S.own id = some (old, ty) := by
    intro h0 id cs ty h1; rw [h0] at h1; cases h1
  cases op
  case st n x y =>
    simp only [stepOut] at h
    split at h
    · split at h
      · next hl _ =>
        split at h
        · simp only [Res.ok.injEq] at h
          obtain ⟨_, rfl⟩ := h
          intro id cs ty h1
          simp only [Option.some.injEq, Prod.mk.injEq] at h1
          obtain ⟨rfl, _, rfl⟩ := h1
          exact ⟨rfl, _, hl⟩
        · cases h
      · cases h
    · cases h
  all_goals
    refine fin ?_
    simp only [stepOut] at h
    (repeat' split at h) <;> first
      | exact hp h
      | exact hb h
      | (cases h; done)
      | (simp only [Res.ok.injEq] at h; obtain ⟨_, rfl⟩ := h; rfl)

theorem app_nid (dst : Option Nat) (out : Out) : S.nid ≤ (S.app dst out).nid := by
  unfold St.app
  simp only
  split <;> omega

theorem put_size' (a : Act) (d : Option Tmp) (v : Value) : (a.put d v).tmps.size = a.tmps.size := by cases d <;> simp [Act.put]
theorem put_defers' (a : Act) (d : Option Tmp) (v : Value) : (a.put d v).defers = a.defers := by cases d <;> rfl
theorem put_same' (a : Act) (d : Tmp) (v : Value) (h : d < a.tmps.size) : (a.put (some d) v).tmps.getD d undef = v := by
  simp [Act.put, Array.getD_eq_getD_getElem?, h]
theorem put_other' (a : Act) (d t : Tmp) (v : Value) (h : d ≠ t) : (a.put (some d) v).tmps.getD t undef = a.tmps.getD t undef := by
  simp [Act.put, Array.getD_eq_getD_getElem?, Array.getElem?_setIfInBounds_ne h]

/-- a slot is written -/
theorem sat_put (hs : Sat B w0 E S a w) (dst : Option Nat) (v : SV) : ∀ t u, look (S.putT dst v) t = some u → t < S.nt ∧ (a.put dst (v.den E)).tmps.getD t undef = u.den E := by
  intro t u h
  cases dst with
  | none => exact hs.tmps t u h
  | some d =>
    simp only [St.putT] at h
    by_cases hd : d < S.nt
    · rw [if_pos hd, look_cons] at h
      split at h
      · next e =>
        subst e
        simp only [Option.some.injEq] at h
        subst h
        exact ⟨hd, put_same' a d _ (by rw [hs.size]; exact hd)⟩
      · next e =>
        obtain ⟨h1, h2⟩ := hs.tmps t u h
        exact ⟨h1, by rw [put_other' a d t _ e]; exact h2⟩
    · rw [if_neg hd] at h
      obtain ⟨h1, h2⟩ := hs.tmps t u h
      exact ⟨h1, by rw [put_other' a d t _ (show (d : Nat) ≠ t by omega)]; exact h2⟩

theorem sat_app0 (hs : Sat B w0 E S a w) (dst : Option Nat) (out : Out) (hn : out.new.isSome = true → E.ρ S.nid = w.heap.size)
    (hw : ∀ id cs ty, out.wr = some (id, cs, ty) → out.new = none ∧ ∃ old, look S.own id = some (old, ty)) :
    Sat B w0 E (S.app dst out) (a.put dst (out.val.den E)) (out.world E w) := by
  obtain ⟨val, new, wr⟩ := out
  have hlt : ∀ id cs ty, look S.own id = some (cs, ty) → E.ρ id < w.heap.size := fun id cs ty h => (Array.getElem?_eq_some_iff.1 (hs.own id cs ty h).2).1
  obtain ⟨F, hF1, hF2, hF3, hF4⟩ := hs.foot
  cases new with
  | some b =>
    obtain ⟨cs, ty⟩ := b
    have e1 := hn rfl
    simp only at hn
    refine ⟨by rw [put_size']; exact hs.size, by rw [put_defers']; exact hs.defers, hs.one, sat_put hs dst val, ?_, hs.hB, ?_, ?_, F, ?_, ?_, ?_⟩
    · exact hs.below.alloc (Nat.le_trans hs.hB hs.below.size) _
    · intro id cs' ty' h
      simp only [St.app, look_cons] at h
      split at h
      · next e =>
        subst e
        simp only [Option.some.injEq, Prod.mk.injEq] at h
        obtain ⟨rfl, rfl⟩ := h
        refine ⟨?_, ?_⟩
        · rw [e1]; exact Nat.le_trans hs.hB hs.below.size
        · rw [e1]; exact heap_alloc_new w _
      · obtain ⟨h2, h3⟩ := hs.own id cs' ty' h
        refine ⟨h2, ?_⟩
        show (w.alloc _).heap[E.ρ id]? = _
        rw [Below.heap_alloc _ _ _ (hlt _ _ _ h)]
        exact h3
    · intro id id' o o' h h' he
      simp only [St.app, look_cons] at h h'
      split at h
      · next e =>
        split at h'
        · next e' => rw [← e, ← e']
        · subst e
          have := hlt id' _ _ h'
          omega
      · split at h'
        · next e' =>
          subst e'
          have := hlt id _ _ h
          omega
        · exact hs.inj id id' o o' h h' he
    · intro id o h
      simp only [St.app, look_cons] at h
      split at h
      · next e =>
        subst e
        intro hf
        have := hF2 _ hf
        omega
      · exact hF1 id o h
    · intro n hf
      have := hF2 n hf
      simp only [Out.world]
      simp
      omega
    · exact ⟨fun w' hw' => hF3 w' (fun n hf => by
        rw [hw' n hf]
        exact Below.heap_alloc _ _ _ (hF2 n hf)), fun w' hw' => hF4 w' (fun n hf hB => by
        rw [hw' n hf hB]
        exact Below.heap_alloc _ _ _ (hF2 n hf))⟩
  | none =>
    cases wr with
    | none =>
      exact ⟨by rw [put_size']; exact hs.size, by rw [put_defers']; exact hs.defers, hs.one, sat_put hs dst val, hs.below, hs.hB, hs.own, hs.inj, F, hF1, hF2, hF3, hF4⟩
    | some b =>
      obtain ⟨id0, cs, ty⟩ := b
      obtain ⟨_, old, hold⟩ := hw id0 cs ty rfl
      obtain ⟨hB0, hb⟩ := hs.own id0 old ty hold
      refine ⟨by rw [put_size']; exact hs.size, by rw [put_defers']; exact hs.defers, hs.one, sat_put hs dst val, ?_, hs.hB, ?_, ?_, F, ?_, ?_, ?_⟩
      · exact below_setRow' hs.below hB0 _
      · intro id cs' ty' h
        simp only [St.app, look_cons] at h
        split at h
        · next e =>
          subst e
          simp only [Option.some.injEq, Prod.mk.injEq] at h
          obtain ⟨rfl, rfl⟩ := h
          exact ⟨hB0, setRow_heap w _ _ _ _ _ hb⟩
        · next e =>
          obtain ⟨h2, h3⟩ := hs.own id cs' ty' h
          refine ⟨h2, ?_⟩
          show (w.setRow _ _).heap[E.ρ id]? = _
          rw [setRow_other _ _ _ _ (fun e' => e (hs.inj id id0 _ _ h hold e').symm)]
          exact h3
      · have hk : ∀ id o, look ((id0, cs, ty) :: S.own) id = some o → ∃ o', look S.own id = some o' := by
          intro id o h
          rw [look_cons] at h
          split at h
          · next e => subst e; exact ⟨_, hold⟩
          · exact ⟨_, h⟩
        intro id id' o o' h h' he
        obtain ⟨p, hp⟩ := hk id o h
        obtain ⟨p', hp'⟩ := hk id' o' h'
        exact hs.inj id id' p p' hp hp' he
      · intro id o h
        simp only [St.app, look_cons] at h
        split at h
        · next e => subst e; exact hF1 _ _ hold
        · exact hF1 id o h
      · intro n hf
        have := hF2 n hf
        have hsz := (grownBy_setRow w (E.ρ id0) (cs.map (SC.den E)).toArray).size
        simp only [Out.world]
        omega
      · exact ⟨fun w' hw' => hF3 w' (fun n hf => by
          rw [hw' n hf]
          exact setRow_other _ _ _ _ (fun e => hF1 id0 _ hold (by rw [← e]; exact hf))), fun w' hw' => hF4 w' (fun n hf hB => by
          rw [hw' n hf hB]
          exact setRow_other _ _ _ _ (fun e => hF1 id0 _ hold (by rw [← e]; exact hf)))⟩

/-- an operation that is no call -/
theorem sat_step (hT : TOk P T) {o : Oper} {op : IOp} (hc : compOp T o.op = some op) {vc : Prop} {out : Out} (h : stepOut op S = .ok vc out) (hvc : vc) (hs : SatA B w0 E S a w)
    {K : Act → World → Prop} {Q : Exit → Act → World → Prop} (hK : ∀ E1 a1 w1, SatA B w0 E1 (S.app o.dst out) a1 w1 → K a1 w1) : o.wp P a w K Q := by
  let E1 : Env := if out.new.isSome then ⟨fun i => if i = S.nid then w.heap.size else E.ρ i, E.χ⟩ else E
  have hE1 : Agree S.nid E E1 := by
    refine ⟨fun i hi => ?_, fun h => ?_⟩
    · simp only [E1]
      split
      · simp only [and_true]
        rw [if_neg (by omega)]
      · exact ⟨rfl, rfl⟩
    · simp only [E1]
      split
      · exact h
      · exact h
  have hn1 : out.new.isSome = true → E1.ρ S.nid = w.heap.size := by
    intro h
    simp only [E1, h, if_true]
  have hwr := stepOut_wr h
  have r1 := step_ok (P := P) hT hc h hvc (hs E1 hE1) hn1
  have key : ∀ E2, Agree (S.app o.dst out).nid E1 E2 → Yields1 P o a E2 w out ∧ Sat B w0 E2 (S.app o.dst out) (a.put o.dst (out.val.den E2)) (out.world E2 w) := by
    intro E2 hE2
    have hle := app_nid (S := S) o.dst out
    have hag : Agree S.nid E E2 := ⟨fun i hi => ⟨((hE2.1 i (by omega)).1).trans (hE1.1 i hi).1, ((hE2.1 i (by omega)).2).trans (hE1.1 i hi).2⟩, fun h => hE2.2 (hE1.2 h)⟩
    have hn2 : out.new.isSome = true → E2.ρ S.nid = w.heap.size := by
      intro hh
      have hnid : (S.app o.dst out).nid = S.nid + 1 := by
        unfold St.app
        cases hnew : out.new with
        | none => rw [hnew] at hh; cases hh
        | some b => rfl
      rw [(hE2.1 S.nid (by omega)).1]
      exact hn1 hh
    exact ⟨step_ok hT hc h hvc (hs E2 hag) hn2, sat_app0 (hs E2 hag) o.dst out hn2 hwr⟩
  have hput : ∀ v w1, ((execOp a.eval o).run P w = .ok (.value v) w1 ∨ ((execOp a.eval o).run P w = .ok .skip w1 ∧ v = undef)) → SatA B w0 E1 (S.app o.dst out) (a.put o.dst v) w1 := by
    intro v w1 hr E2 hE2
    obtain ⟨y, hsat⟩ := key E2 hE2
    have : v = out.val.den E2 ∧ w1 = out.world E2 w := by
      rcases hr with hr | ⟨hr, rfl⟩
      · rcases y with y | ⟨y, _⟩
        · rw [hr] at y
          simp only [Result.ok.injEq, Next.value.injEq] at y
          exact y
        · rw [hr] at y
          simp at y
      · rcases y with y | ⟨y, hv⟩
        · rw [hr] at y
          simp at y
        · rw [hr] at y
          simp only [Result.ok.injEq, true_and] at y
          exact ⟨by rw [hv]; rfl, y⟩
    rw [this.1, this.2]
    exact hsat
  unfold Oper.wp
  rcases r1 with r1 | ⟨r1, hv⟩
  · rw [r1]
    exact hK _ _ _ (hput _ _ (Or.inl r1))
  · rw [r1]
    exact hK _ _ _ (hput undef _ (Or.inr ⟨r1, rfl⟩))
end
end Go.Proofs.Ytgljbdcamagdbaa
