/- A region that draws its order, in a symbolic run: each operation by what it may know in whatever order. No statement of the program. -/
import Derived.Test.YtgljbdcamagdbaaSymH
namespace Go.Proofs.Ytgljbdcamagdbaa
open Go.RowKit

/-- what an operation has done -/
structure Rec where
  dst : Option Nat
  val : SV
  new : Option (Nat × List SC × Nat)
  wr : Option (Nat × List SC × Nat)
  arrs : List (Nat × ArrF)
  lo : Nat
  cnt : Nat
  kn : List Nat

def ownR (r : Rec) (own : List (Nat × List SC × Nat)) : List (Nat × List SC × Nat) := match r.new, r.wr with
  | some p, _ => p :: own
  | none, some p => p :: own
  | none, none => own
def St.appR (S : St) (r : Rec) : St := ⟨S.nt, S.putT r.dst r.val, ownR r S.own, r.arrs ++ S.arrs, S.facts, S.nid⟩
def St.appN (S : St) (r : Rec) : St := ⟨S.nt, S.putT r.dst r.val, ownR r S.own, r.arrs ++ S.arrs, S.facts, r.lo + r.cnt⟩
def Rec.world (E : Env) (w : World) (r : Rec) : World := match r.new, r.wr with
  | some (_, cs, t), _ => w.alloc (.cells (cs.map (SC.den E)).toArray t)
  | none, some (id, cs, _) => w.setRow (E.ρ id) (cs.map (SC.den E)).toArray
  | none, none => w
def Rec.tch (r : Rec) : List Nat := match r.new, r.wr with
  | some (id, _), _ => [id]
  | none, some (id, _) => [id]
  | none, none => []
def keysA : List (Nat × ArrF) → List Nat
  | [] => []
  | (k, _) :: l => k :: keysA l

def memB : List Nat → Nat → Bool
  | [], _ => false
  | a :: l, k => if a = k then true else memB l k
def hideL {α : Type} (ks : List Nat) : List (Nat × α) → List (Nat × α)
  | [] => []
  | (k, v) :: l => if memB ks k = true then hideL ks l else (k, v) :: hideL ks l
def tchs (done : List Rec) : List Nat → List Nat
  | [] => []
  | j :: U => match nth done j with
    | some r => r.tch ++ tchs done U
    | none => tchs done U
def keyss (done : List Rec) : List Nat → List Nat
  | [] => []
  | j :: U => match nth done j with
    | some r => keysA r.arrs ++ keyss done U
    | none => keyss done U
def St.hid (S : St) (H T Ks : List Nat) : St := ⟨S.nt, hideL H S.tmps, hideL T S.own, hideL Ks S.arrs, S.facts, S.nid⟩

def ltAll : List Nat → Nat → Bool
  | [], _ => true
  | a :: l, n => decide (a < n) && ltAll l n
def keysO : List (Nat × List SC × Nat) → List Nat
  | [] => []
  | (k, _) :: l => k :: keysO l

def DCallVC (C : Ctx) (f : Nat) (vs : List SV) (dst : Option Nat) (Si : St) (done : List Rec) (S : St) (ex : List Rec → St → Prop) : Prop :=
  ∃ tmpl nx arrs', CR C f vs Si tmpl nx arrs' ∧ (∀ k ∈ keysA arrs', Si.nid ≤ k ∧ k < Si.nid + nx) ∧ ex (done ++ [⟨dst, tmpl, none, none, arrs', Si.nid, nx, keysO Si.own⟩]) (S.appN ⟨dst, tmpl, none, none, arrs', Si.nid, nx, keysO Si.own⟩)

def recOf (dst : Option Nat) (nid : Nat) (kn : List Nat) (o : Out) : Rec := ⟨dst, o.val, match o.new with | some b => some (nid, b) | none => none, o.wr, [], nid, match o.new with | some _ => 1 | none => 0, kn⟩
def skipR (dst : Option Nat) (nid : Nat) (kn : List Nat) : Rec := ⟨dst, .c (.v undef), none, none, [], nid, 0, kn⟩

/-- none of these has leaned on the block -/
def wrFree (done : List Rec) (id : Nat) : List Nat → Bool
  | [] => true
  | j :: U => match nth done j with
    | some r => if memB r.kn id = true then false else wrFree done id U
    | none => false
def wrOk (U : List Nat) (done : List Rec) (o : Out) : Prop := match o.wr with
  | some (id, _) => wrFree done id U = true
  | none => True

def thenD (ex : List Rec → St → Prop) (U : List Nat) (Si : St) (done : List Rec) (S : St) (d : Option Nat) (op : IOp) : Res → Prop
  | .ok vc out => vc ∧ wrOk U done out ∧ ex (done ++ [recOf d Si.nid (keysO Si.own) out]) (S.appN (recOf d Si.nid (keysO Si.own) out))
  | .bad => StuckOp op Si

def runD (C : Ctx) (ex : List Rec → St → Prop) (o : IO1) (U : List Nat) (Si : St) (done : List Rec) (S : St) : Prop :=
  match o.op with
  | .call f xs => match evs Si xs with
    | some vs => DCallVC C f vs o.dst Si done S ex
    | none => StuckOp o.op Si
  | op => thenD ex U Si done S o.dst op (stepOut op Si)

def gateD (C : Ctx) (ex : List Rec → St → Prop) (o : IO1) (U : List Nat) (Si : St) (done : List Rec) (S : St) : Prop :=
  match o.guard with
  | none => runD C ex o U Si done S
  | some (g, want) => match look Si.tmps g with
    | some (.c (.v (.bool b))) => if b = want then runD C ex o U Si done S else ex (done ++ [skipR o.dst Si.nid (keysO Si.own)]) (S.appN (skipR o.dst Si.nid (keysO Si.own)))
    | some (.c (.bo b)) => if b = want then runD C ex o U Si done S else ex (done ++ [skipR o.dst Si.nid (keysO Si.own)]) (S.appN (skipR o.dst Si.nid (keysO Si.own)))
    | _ => StuckOp o.op Si

def drawX (C : Ctx) (K : St → Prop) : List (IO1 × List Nat × List Nat) → List Rec → St → Prop
  | [], _, S => K S
  | (o, U, H) :: r, done, S => gateD C (drawX C K r) o U (S.hid H (tchs done U) (keyss done U)) done S

/-! ### what is known, by parts -/
structure Sub (S' S : St) : Prop where
  nt : S'.nt = S.nt
  tmps : ∀ t v, look S'.tmps t = some v → look S.tmps t = some v
  own : ∀ t v, look S'.own t = some v → look S.own t = some v
  arrs : ∀ t v, look S'.arrs t = some v → look S.arrs t = some v
  facts : ∀ φ ∈ S'.facts, φ ∈ S.facts

section
variable {B : Nat} {w0 : World} {E : Env} {S S' : St} {a : Act} {w : World}
theorem Sub.holds (h : Sub S' S) (hh : Holds E S w) : Holds E S' w := ⟨fun i A hA => hh.1 i A (h.arrs i A hA), fun φ hφ => hh.2 φ (h.facts φ hφ)⟩
theorem sat_sub (h : Sub S' S) (hs : Sat B w0 E S a w) : Sat B w0 E S' a w := by
  obtain ⟨F, hF1, hF2, hF3, hF4⟩ := hs.foot
  exact ⟨hs.size.trans h.nt.symm, hs.defers, hs.one, fun t v ht => by rw [h.nt]; exact hs.tmps t v (h.tmps t v ht), hs.below, hs.hB, fun id cs ty hl => hs.own id cs ty (h.own _ _ hl),
    fun id id' o o' h1 h2 => hs.inj id id' o o' (h.own _ _ h1) (h.own _ _ h2), F, fun id o hl => hF1 id o (h.own _ _ hl), hF2, fun w' hw' => h.holds (hF3 w' hw'), fun w' hw' i A hA hfr => hF4 w' hw' i A (h.arrs i A hA) hfr⟩

theorem sat_drew (hs : Sat B w0 E S a w) : Sat B w0 E S a { w with drawn := w.drawn + 1 } := by
  obtain ⟨F, hF⟩ := hs.foot
  exact ⟨hs.size, hs.defers, hs.one, hs.tmps, ⟨hs.below.os, hs.below.tape, hs.below.output, hs.below.size, hs.below.block⟩, hs.hB, hs.own, hs.inj, F, hF⟩

/-- .. whatever the names outside D stand for -/
def SatD (D : Nat → Prop) (B : Nat) (w0 : World) (E : Env) (S : St) (a : Act) (w : World) : Prop :=
  ∀ E' : Env, (∀ i, D i → E'.ρ i = E.ρ i ∧ E'.χ i = E.χ i) → (∀ i, (E'.χ i).oneCell' = true) → Sat B w0 E' S a w
theorem SatD.grow {D D' : Nat → Prop} (h : SatD D B w0 E S a w) (hD : ∀ i, D i → D' i) : SatD D' B w0 E S a w := fun E' h1 h2 => h E' (fun i hi => h1 i (hD i hi)) h2
theorem SatD.sub {D : Nat → Prop} (h : SatD D B w0 E S a w) (hsub : Sub S' S) : SatD D B w0 E S' a w := fun E' h1 h2 => sat_sub hsub (h E' h1 h2)

theorem sat_appR (hs : Sat B w0 E S a w) (r : Rec) (ha : r.arrs = []) (hn : ∀ id b, r.new = some (id, b) → E.ρ id = w.heap.size)
    (hw : ∀ id cs ty, r.wr = some (id, cs, ty) → r.new = none ∧ ∃ old, look S.own id = some (old, ty)) : Sat B w0 E (S.appR r) (a.put r.dst (r.val.den E)) (r.world E w) := by
  obtain ⟨dst, val, new, wr, arrs, lo, cnt, kn⟩ := r
  simp only at ha
  subst ha
  have hlt : ∀ id cs ty, look S.own id = some (cs, ty) → E.ρ id < w.heap.size := fun id cs ty h => (Array.getElem?_eq_some_iff.1 (hs.own id cs ty h).2).1
  obtain ⟨F, hF1, hF2, hF3, hF4⟩ := hs.foot
  cases new with
  | some b =>
    obtain ⟨idn, cs, ty⟩ := b
    have e1 := hn idn (cs, ty) rfl
    refine ⟨by rw [put_size']; exact hs.size, by rw [put_defers']; exact hs.defers, hs.one, sat_put hs dst val, ?_, hs.hB, ?_, ?_, F, ?_, ?_, ?_⟩
    · exact hs.below.alloc (Nat.le_trans hs.hB hs.below.size) _
    · intro id cs' ty' h
      simp only [St.appR, ownR, look_cons] at h
      split at h
      · next e =>
        subst e
        simp only [Option.some.injEq, Prod.mk.injEq] at h
        obtain ⟨rfl, rfl⟩ := h
        refine ⟨?_, ?_⟩
        · rw [e1]; exact Nat.le_trans hs.hB hs.below.size
        · rw [e1]; exact heap_alloc_new w _
      · obtain ⟨h2, h3⟩ := hs.own id cs' ty' h
        refine ⟨h2, ?_⟩
        show (w.alloc _).heap[E.ρ id]? = _
        rw [Below.heap_alloc _ _ _ (hlt _ _ _ h)]
        exact h3
    · intro id id' o o' h h' he
      simp only [St.appR, ownR, look_cons] at h h'
      split at h
      · next e =>
        split at h'
        · next e' => rw [← e, ← e']
        · subst e
          have := hlt id' _ _ h'
          omega
      · split at h'
        · next e' =>
          subst e'
          have := hlt id _ _ h
          omega
        · exact hs.inj id id' o o' h h' he
    · intro id o h
      simp only [St.appR, ownR, look_cons] at h
      split at h
      · next e =>
        subst e
        intro hf
        have := hF2 _ hf
        omega
      · exact hF1 id o h
    · intro n hf
      have := hF2 n hf
      simp only [Rec.world]
      simp
      omega
    · exact ⟨fun w' hw' => hF3 w' (fun n hf => by
        rw [hw' n hf]
        exact Below.heap_alloc _ _ _ (hF2 n hf)), fun w' hw' => hF4 w' (fun n hf hB => by
        rw [hw' n hf hB]
        exact Below.heap_alloc _ _ _ (hF2 n hf))⟩
  | none =>
    cases wr with
    | none =>
      exact ⟨by rw [put_size']; exact hs.size, by rw [put_defers']; exact hs.defers, hs.one, sat_put hs dst val, hs.below, hs.hB, hs.own, hs.inj, F, hF1, hF2, hF3, hF4⟩
    | some b =>
      obtain ⟨id0, cs, ty⟩ := b
      obtain ⟨_, old, hold⟩ := hw id0 cs ty rfl
      obtain ⟨hB0, hb⟩ := hs.own id0 old ty hold
      refine ⟨by rw [put_size']; exact hs.size, by rw [put_defers']; exact hs.defers, hs.one, sat_put hs dst val, ?_, hs.hB, ?_, ?_, F, ?_, ?_, ?_⟩
      · exact below_setRow' hs.below hB0 _
      · intro id cs' ty' h
        simp only [St.appR, ownR, look_cons] at h
        split at h
        · next e =>
          subst e
          simp only [Option.some.injEq, Prod.mk.injEq] at h
          obtain ⟨rfl, rfl⟩ := h
          exact ⟨hB0, setRow_heap w _ _ _ _ _ hb⟩
        · next e =>
          obtain ⟨h2, h3⟩ := hs.own id cs' ty' h
          refine ⟨h2, ?_⟩
          show (w.setRow _ _).heap[E.ρ id]? = _
          rw [setRow_other _ _ _ _ (fun e' => e (hs.inj id id0 _ _ h hold e').symm)]
          exact h3
      · have hk : ∀ id o, look ((id0, cs, ty) :: S.own) id = some o → ∃ o', look S.own id = some o' := by
          intro id o h
          rw [look_cons] at h
          split at h
          · next e => subst e; exact ⟨_, hold⟩
          · exact ⟨_, h⟩
        intro id id' o o' h h' he
        obtain ⟨p, hp⟩ := hk id o h
        obtain ⟨p', hp'⟩ := hk id' o' h'
        exact hs.inj id id' p p' hp hp' he
      · intro id o h
        simp only [St.appR, ownR, look_cons] at h
        split at h
        · next e => subst e; exact hF1 _ _ hold
        · exact hF1 id o h
      · intro n hf
        have := hF2 n hf
        have hsz := (grownBy_setRow w (E.ρ id0) (cs.map (SC.den E)).toArray).size
        simp only [Rec.world]
        omega
      · exact ⟨fun w' hw' => hF3 w' (fun n hf => by
          rw [hw' n hf]
          exact setRow_other _ _ _ _ (fun e => hF1 id0 _ hold (by rw [← e]; exact hf))), fun w' hw' => hF4 w' (fun n hf hB => by
          rw [hw' n hf hB]
          exact setRow_other _ _ _ _ (fun e => hF1 id0 _ hold (by rw [← e]; exact hf)))⟩
end

/-- an operation does so wherever at least that much is known -/
def LC (C : Ctx) (o : Oper) (Si : St) (r : Rec) : Prop :=
  ∀ (SL : St) (D : Nat → Prop) (E : Env) (a : Act) (w : World), (∀ i, (E.χ i).oneCell' = true) → Sub Si SL → SatD D C.B C.w0 E SL a w → (∀ i, r.lo ≤ i → i < r.lo + r.cnt → ¬ D i) →
    ∀ (K : Act → World → Prop) (Q : Exit → Act → World → Prop), (∀ E1 a1 w1, (∀ i, (E1.χ i).oneCell' = true) → SatD (fun i => D i ∨ (r.lo ≤ i ∧ i < r.lo + r.cnt)) C.B C.w0 E1 (SL.appR r) a1 w1 → K a1 w1) → o.wp C.P a w K Q

section
variable {C : Ctx} {Si : St}

theorem lc_op (hT : TOk C.P C.tab.T) {o : Oper} {op : IOp} (hc : compOp C.tab.T o.op = some op) {vc : Prop} {out : Out} (h : stepOut op Si = .ok vc out) (hvc : vc) : LC C o Si (recOf o.dst Si.nid (keysO Si.own) out) := by
  intro SL D E a w hone hsub hs hD K Q hK
  let E1 : Env := if out.new.isSome then ⟨fun i => if i = Si.nid then w.heap.size else E.ρ i, E.χ⟩ else E
  have hE1o : ∀ i, (E1.χ i).oneCell' = true := by
    intro i
    simp only [E1]
    split <;> exact hone i
  have hE1 : ∀ i, D i → E1.ρ i = E.ρ i ∧ E1.χ i = E.χ i := by
    intro i hi
    simp only [E1]
    split
    · next hnew =>
      simp only [and_true]
      rw [if_neg]
      rintro rfl
      obtain ⟨b, hb⟩ := Option.isSome_iff_exists.1 hnew
      exact hD Si.nid (Nat.le_refl _) (by simp [recOf, hb]) hi
    · exact ⟨rfl, rfl⟩
  have hn1 : out.new.isSome = true → E1.ρ Si.nid = w.heap.size := by
    intro h
    simp only [E1, h, if_true]
  have hwr := stepOut_wr h
  have r1 := step_ok (P := C.P) hT hc h hvc (sat_sub hsub (hs E1 hE1 hE1o)) hn1
  have key : ∀ E2 : Env, (∀ i, (D i ∨ ((recOf o.dst Si.nid (keysO Si.own) out).lo ≤ i ∧ i < (recOf o.dst Si.nid (keysO Si.own) out).lo + (recOf o.dst Si.nid (keysO Si.own) out).cnt)) → E2.ρ i = E1.ρ i ∧ E2.χ i = E1.χ i) → (∀ i, (E2.χ i).oneCell' = true) →
      Yields1 C.P o a E2 w out ∧ Sat C.B C.w0 E2 (SL.appR (recOf o.dst Si.nid (keysO Si.own) out)) (a.put o.dst (out.val.den E2)) (out.world E2 w) := by
    intro E2 hE2 ho2
    have hs2 := hs E2 (fun i hi => ⟨(hE2 i (Or.inl hi)).1.trans (hE1 i hi).1, (hE2 i (Or.inl hi)).2.trans (hE1 i hi).2⟩) ho2
    have hn2 : out.new.isSome = true → E2.ρ Si.nid = w.heap.size := by
      intro hh
      obtain ⟨b, hb⟩ := Option.isSome_iff_exists.1 hh
      rw [(hE2 Si.nid (Or.inr ⟨Nat.le_refl _, by simp [recOf, hb]⟩)).1]
      exact hn1 hh
    refine ⟨step_ok hT hc h hvc (sat_sub hsub hs2) hn2, ?_⟩
    have := sat_appR hs2 (recOf o.dst Si.nid (keysO Si.own) out) rfl (fun id b hb => by
      simp only [recOf] at hb
      split at hb
      · next b' hb' =>
        simp only [Option.some.injEq, Prod.mk.injEq] at hb
        obtain ⟨rfl, _⟩ := hb
        exact hn2 (by rw [hb']; rfl)
      · cases hb) (fun id cs ty hw => by
      obtain ⟨h1, old, h2⟩ := hwr id cs ty hw
      exact ⟨by simp only [recOf, h1], old, hsub.own _ _ h2⟩)
    have ew : (recOf o.dst Si.nid (keysO Si.own) out).world E2 w = out.world E2 w := by
      obtain ⟨val, new, wr⟩ := out
      cases new <;> cases wr <;> rfl
    rw [ew] at this
    exact this
  have hput : ∀ v w1, ((execOp a.eval o).run C.P w = .ok (.value v) w1 ∨ ((execOp a.eval o).run C.P w = .ok .skip w1 ∧ v = undef)) →
      SatD (fun i => D i ∨ ((recOf o.dst Si.nid (keysO Si.own) out).lo ≤ i ∧ i < (recOf o.dst Si.nid (keysO Si.own) out).lo + (recOf o.dst Si.nid (keysO Si.own) out).cnt)) C.B C.w0 E1 (SL.appR (recOf o.dst Si.nid (keysO Si.own) out)) (a.put o.dst v) w1 := by
    intro v w1 hr E2 hE2 ho2
    obtain ⟨y, hsat⟩ := key E2 hE2 ho2
    have : v = out.val.den E2 ∧ w1 = out.world E2 w := by
      rcases hr with hr | ⟨hr, rfl⟩
      · rcases y with y | ⟨y, _⟩
        · rw [hr] at y
          simp only [Result.ok.injEq, Next.value.injEq] at y
          exact y
        · rw [hr] at y
          simp at y
      · rcases y with y | ⟨y, hv⟩
        · rw [hr] at y
          simp at y
        · rw [hr] at y
          simp only [Result.ok.injEq, true_and] at y
          exact ⟨by rw [hv]; rfl, y⟩
    rw [this.1, this.2]
    exact hsat
  unfold Oper.wp
  rcases r1 with r1 | ⟨r1, hv⟩
  · rw [r1]
    exact hK _ _ _ hE1o (hput _ _ (Or.inl r1))
  · rw [r1]
    exact hK _ _ _ hE1o (hput undef _ (Or.inr ⟨r1, rfl⟩))

theorem lc_call {o : Oper} {f : Nat} {xs : List IX} {vs : List SV} {tmpl : SV} {nx : Nat} {arrs' : List (Nat × ArrF)} (hf : FnOk C.P f)
    (hc : compOp C.tab.T o.op = some (.call f xs)) (hv : evs Si xs = some vs) (hrule : CR C f vs Si tmpl nx arrs') : LC C o Si ⟨o.dst, tmpl, none, none, arrs', Si.nid, nx, keysO Si.own⟩ := by
  intro SL D E a w hone hsub hs hD K Q hK
  have hsE := hs E (fun i _ => ⟨rfl, rfl⟩) hone
  obtain ⟨c, hop, hcl, his⟩ := compOp_call hc
  obtain ⟨fn, hfn, hname, hbody⟩ := hf
  have hargs := opds_den (sat_sub hsub hsE) c.args.toList xs vs his hv
  have hargs' : c.args.map a.eval = (vs.map (SV.den E)).toArray := by
    apply Array.ext'
    simpa using hargs
  have h1 : fn.name ≠ "runtime.NumGoroutine" := by simpa using hname
  have h2 : ¬ fn.body = none := by
    intro e
    rw [e] at hbody
    cases hbody
  have hrun : (execOp a.eval o).run C.P w = .ok (.enter f (vs.map (SV.den E)).toArray) w := by
    unfold execOp
    rw [hop]
    simp only [resolve, hcl, Act.eval, hargs', Sem.run_bind, Deferred.ofValue, Sem.run_pure, Result.andThen_ok, invoke, callFunc]
    simp [hfn, h1, h2, program, Sem.run]
  unfold Oper.wp
  rw [hrun]
  refine (hrule E a w (sat_sub hsub hsE)).mono ?_
  rintro e w' ⟨χ, hχ, hb, h3⟩
  let E' : Env := ⟨E.ρ, fun i => if Si.nid ≤ i ∧ i < Si.nid + nx then χ (i - Si.nid) else E.χ i⟩
  have hE'o : ∀ i, (E'.χ i).oneCell' = true := by
    intro i
    simp only [E']
    split
    · exact hχ _
    · exact hone i
  have hE' : ∀ i, D i → E'.ρ i = E.ρ i ∧ E'.χ i = E.χ i := by
    intro i hi
    refine ⟨rfl, ?_⟩
    simp only [E']
    rw [if_neg]
    rintro ⟨g1, g2⟩
    exact hD i g1 g2 hi
  have hnew : ∀ i, i < nx → E'.χ (Si.nid + i) = χ i := by
    intro i hi
    simp only [E']
    rw [if_pos ⟨by omega, by omega⟩, show Si.nid + i - Si.nid = i by omega]
  have hs1 := hs E' hE' hE'o
  have e1 := (h3 E' (sat_sub hsub hs1) hnew).1
  subst e1
  refine hK E' _ _ hE'o ?_
  intro E2 hE2 ho2
  have hs2 := hs E2 (fun i hi => ⟨(hE2 i (Or.inl hi)).1.trans (hE' i hi).1, (hE2 i (Or.inl hi)).2.trans (hE' i hi).2⟩) ho2
  have hnew2 : ∀ i, i < nx → E2.χ (Si.nid + i) = χ i := fun i hi => ((hE2 (Si.nid + i) (Or.inr ⟨by simp, by simp only; omega⟩)).2).trans (hnew i hi)
  obtain ⟨e2, hf2⟩ := h3 E2 (sat_sub hsub hs2) hnew2
  have ev : tmpl.den E' = tmpl.den E2 := by
    simp only [Ending.returned.injEq] at e2
    exact e2
  rw [ev]
  exact sat_call hs2 hb SL.nid (fun w'' hw'' i A hA hor => hf2 w'' hw'' i A hA (hor.imp id hsub.holds))
end
end Go.Proofs.Ytgljbdcamagdbaa
